import Derived.Test.YtcbkmmhkccnamaaGreatRf4
import Derived.Orders
set_option linter.all false
open Array renaming getElem?_eq_getElem → Bce, getD_eq_getD_getElem? → Bck, getElem?_toList → Bc1
open Bool renaming and_eq_true → Zb5, not_eq_true' → Ac2, or_eq_true → Bcp, not_true → Dcf, false_or → Dcg, or_true → Dcx
open List renaming getElem?_eq_some_iff → Zb7, mem_append_left → Zb8, mem_singleton → Zb9, getElem?_eq_getElem → Acb, mem_append_right → Acd, length_append → Ace, getD_eq_getElem?_getD → Acg, getElem?_cons_zero → Ach, append_assoc → Aci, mem_cons → Acj, mem_cons_of_mem → Ack, length_cons → Aco, mem_cons_self → Acs, getElem?_append_left → Acw, append_nil → Ac4, all_eq_true → Ac6, mem_map → Bcd, nil_append → Bco, mem_map_of_mem → Bcy, not_mem_nil → Bc7, mem_filter → Ccf, mem_range → Cck, getElem?_set → Ccq, isEmpty_iff → Dcs
open Nat renaming le_refl → Acn, lt_or_ge → Acy, beq_eq → Ac8, add_zero → Bca, zero_add → Bcb, blt_eq → Bch, ble_eq → Bcq, blt → Bcx, zero_le → Ccc, testBit → Cc9, le_succ → Dcm, lt_trichotomy → Dcu, le_add_right → Dcz
open Option renaming bind_eq_some_iff → Zb4, bind_some → Acf, map_eq_some_iff → Acl, map_some → Bcn, getD_some → Ccg
open Option.some renaming injEq → Zb6, inj → Ac9
open Prod.mk renaming injEq → Ac0
namespace Go.Proofs.YtcbkmmhkccnamaaGreat.Rf
theorem mem_range {x:Nat}:∀ {n a:Nat},x∈range a n↔a<=x/\x<a+n
 |0,a=>by simp[range]
 | n + 1, a => by
  simp only[range,Acj,mem_range];omega
theorem uA {b8 dz r:Nat}(h:r<b8):Ua6 b8 dz r=r:=by
 unfold Ua6
 have:Nat.ble b8 r=false:=by
  cases e:Nat.ble b8 r with
  |false=>rfl
  |true=>simp only[Bcq]at e;omega
 rw[this];rfl
theorem Pak {b8 dz r:Nat}(h:b8<=r):Ua6 b8 dz r=dz+(r-b8):=by
 unfold Ua6;have:Nat.ble b8 r=true:=by simpa using h
 rw[this];rfl
def vS (eI dz b8:Nat):Ow->Ow
 |.slc r p=>if r<eI then .slc r p else if dz<=r then .slc (b8+(r-dz)) p else .oth
 |o=>o
theorem Yak {eI dz b8:Nat}{o:Ow}{r:Nat}{p:List Nat}(h0:eI<=b8)(h:vS eI dz b8 o=.slc r p):o=.slc (Ua6 b8 dz r) p:=by
 cases o with
 | slc s q =>
  simp only[vS]at h;split at h
  ·injection h with h1 h2
   subst h1 h2;rw[uA (by omega)]
  ·split at h
   ·injection h with h1 h2
    subst h1 h2;rw[Pak (by omega)];congr 1;omega
   ·cases h
 |_=>simp only[vS]at h;cases h
theorem Jae {eI dz b8 r:Nat}{p:List Nat}(h0:eI<=b8)(hB:eI<=dz)(hr:r<eI\/b8<=r):vS eI dz b8 (.slc (Ua6 b8 dz r) p)=.slc r p:=by
 simp only[vS]
 rcases hr with h|h
 ·rw[uA (by omega),if_pos h]
 ·rw[Pak h,if_neg (by omega),if_pos (by omega)]
  congr 1;omega
structure Cb8 (τ:St) (σ:Nat->Option aS) (gk ρ:List D) (G' G:Gh) (N n:Nat) (xs:List aM) (b8 dz eI:Nat):Prop where
 at_:∀ x,bC N x=true->x.val gk=(Pal n xs x).val ρ
 le:eI<=b8
 leB:eI<=dz
 hdr:∀ r,G'.hdr r=G.hdr (Ua6 b8 dz r)
 own:∀ b,G'.own b=vS eI dz b8 (G.own b)
 bx:G'.bx=G.bx
 valid:∀ r k,r<eI->mJ τ.get r k->mJ σ r k
 live:∀ r k m,r<eI->zQ τ.get r k m->zQ σ r k m
theorem Eau {τ:St}{eI:Nat}:∀ {deps:List (Nat×Nat)},Rav τ eI deps=true->∀ z∈deps,z.1<eI/\jK τ.get z.1 z.2
 |[],_,z,hz=>by simp at hz
 | (r, k) :: d, h, z, hz => by
  simp only[Rav,Zb5]at h
  rcases Acj.1 hz with rfl|hz
  ·refine⟨by simpa using h.1.1,?_⟩
   have h2:=h.1.2;split at h2
   ·rename_i x m v e;exact⟨_,_,_,_,e,fun hs=>by rcases hs with hs|hs<;>cases hs⟩
   ·rename_i x m v r' e;exact⟨_,_,_,_,e,fun hs=>by rcases hs with hs|hs<;>cases hs⟩
   ·rename_i x m v st ux hn2 e;exact⟨_,_,_,_,e,fun _=>by simpa using h2⟩
   ·cases h2
  ·exact Eau h.2 z hz
section
variable {τ:St} {σ:Nat->Option aS} {gk ρ:List D} {G' G:Gh} {w:World} {N n:Nat} {xs:List aM} {b8 dz eI:Nat}
theorem Cb8.ownLow (h:Cb8 τ σ gk ρ G' G N n xs b8 dz eI){b r:Nat}{p:List Nat}(hr:r<eI)(hb:G.own b=.slc r p):G'.own b=.slc r p:=by
 rw[h.own,hb];have h1:Ua6 b8 dz r=r:=uA (by have:=h.le;omega);have h2:=Jae (p:=p) h.le h.leB (.inl hr:r<eI\/b8<=r);rw[h1]at h2;exact h2
theorem Cb8.frz (h:Cb8 τ σ gk ρ G' G N n xs b8 dz eI){b:Nat}(hb:G.own b=.frz):G'.own b=.frz:=by
 rw[h.own,hb];rfl
theorem Cb8.allow (h:Cb8 τ σ gk ρ G' G N n xs b8 dz eI){deps:List (Nat×Nat)}(hd:∀ z∈deps,z.1<eI){b:Nat}(hb:Go.Proofs.YtcbkmmhkccnamaaGreat.Rf.allow G deps b):Go.Proofs.YtcbkmmhkccnamaaGreat.Rf.allow G' deps b:=by
 rcases hb with hb|⟨r,k,p,hm,hb⟩
 ·exact .inl (h.frz hb)
 ·exact .inr ⟨r,k,p,hm,h.ownLow (hd _ hm) hb⟩
theorem Cb8.path (h:Cb8 τ σ gk ρ G' G N n xs b8 dz eI){p:List (aM×Nat×Nat)}(hp:(p.all fun x=>bC N x.1)=true):bD gk p=bD ρ (p.map fun x=>(Pal n xs x.1,x.2)):=by
 unfold bD;rw[List.map_map];apply List.map_congr_left;intro x hx;rw[Ac6]at hp;simp only[Function.comp,lF,h.at_ x.1 (hp x hx)]
mutual
theorem aB.fit (h:Cb8 τ σ gk ρ G' G N n xs b8 dz eI):∀ (l:aR) (v:Value),l.inScope N=true->l.wf τ eI=true->aB σ ρ G w (l.sub n xs b8 dz) v->aB τ.get gk G' w l v
 |.dead,_,_,_,hl=>by simpa[aR.sub,aB] using hl
 | .sc x, v, hs, _, hl => by
  simp only[aR.inScope]at hs;simp only[aR.sub,aB]at hl ⊢;rw[h.at_ x hs];exact hl
 | .su g x, v, hs, _, hl => by
  simp only[aR.inScope,Zb5]at hs;obtain⟨y,b⟩:=g;simp only[aR.sub,aB]at hl ⊢;have hg:gOn gk (some (y,b))=gOn ρ (some (Pal n xs y,b)):=by simp only[gOn,h.at_ y hs.2]
  rw[h.at_ x hs.1,hg];exact hl
 | .ex r, v, _, hw, hl => by
  simp only[aR.wf]at hw;simp only[aR.sub,aB]at hl ⊢;exact⟨by rw[h.hdr];exact hl.1,hw,hl.2.2⟩
 | .sn deps p nie x, v, hs, hw, hl => by
  simp only[aR.inScope,Zb5]at hs;simp only[aR.wf]at hw;have hd:=Eau hw;simp only[aR.sub,aB]at hl ⊢;rw[h.at_ x hs.1];refine⟨⟨hl.1.1,fun z hz=>(hd z hz).2⟩,fun hv=>?_⟩;obtain⟨h1,h2,h3⟩:=hl.2 fun z hz=>h.valid _ _ (hd z hz).1 (hv z hz)
  refine⟨h1.mono fun b hb=>⟨h.allow (fun z hz=>(hd z hz).1) hb,rfl⟩,h2,?_⟩
  cases p with
  |no=>trivial
  | view =>
   intro r k m e iu;have hr:=(hd (r,k) (by simp[e])).1;have:=(h3 r k m e (h.live r k m hr iu)).mono (own':=G'.own) (w':=w) (q:=[]) (q':=[]) (r':=r) (fun b hb=>⟨h.frz hb,rfl⟩) [] rfl (fun b t hb=>⟨h.ownLow hr hb,rfl⟩);simpa using this
  | suf sz lo =>
   intro r k m e iu;have hr:=(hd (r,k) (by simp[e])).1;have h4:=h3 r k m e (h.live r k m hr iu)
   have h5:lF gk lo=lF ρ (Pal n xs lo):=by
    unfold lF;rw[h.at_ lo hs.2]
   rw[h5];rw[h.hdr,uA (by have:=h.le;omega)];exact h4
  | path p =>
   intro r k m e iu;have hr:=(hd (r,k) (by simp[e])).1;obtain⟨h4,h5,h6⟩:=h3 r k m e (h.live r k m hr iu);rw[h.path hs.2];rw[List.length_map]at h4 h5;refine⟨h4,?_,?_⟩
   ·have:=h5.mono (own':=G'.own) (w':=w) (q:=[]) (q':=[]) (r':=r) (fun b hb=>⟨h.frz hb,rfl⟩) _ rfl (fun b t hb=>⟨h.ownLow hr hb,rfl⟩)
    rw[Bco]at this;exact this
   ·rw[h.hdr,uA (by have:=h.le;omega)]
    exact zZ.mono _ _ _ _ _ (fun b t hb=>⟨h.ownLow hr hb,rfl⟩) h6
 | .px b off, v, _, hw, hl => by
  simp only[aR.wf]at hw;simp only[aR.sub,aB]at hl ⊢;exact⟨by rw[h.bx];exact hl.1,hw⟩
 | .pe l sz i off, v, hs, hw, hl => by
  simp only[aR.inScope,Zb5]at hs;simp only[aR.wf]at hw;simp only[aR.sub,aB]at hl ⊢;obtain⟨a,n,c,k,iv,h1,h2⟩:=hl;exact⟨a,n,c,k,iv,aB.fit h l _ hs.1 hw h1,by rw[h.at_ i hs.2];exact h2⟩
 | .rp deps sz x, v, hs, hw, hl => by
  simp only[aR.inScope]at hs;simp only[aR.wf]at hw;have hd:=Eau hw;simp only[aR.sub,aB]at hl ⊢;rw[h.at_ x hs];refine⟨⟨hl.1.1,fun z hz=>(hd z hz).2⟩,fun hv=>?_⟩
  rcases hl.2 fun z hz=>h.valid _ _ (hd z hz).1 (hv z hz) with h1|⟨a,row,h1,h2,h3⟩
  ·exact .inl h1
  ·exact .inr ⟨a,row,h1,h2,h3.mono fun b hb=>⟨h.allow (fun z hz=>(hd z hz).1) hb,rfl⟩⟩
 |.pn,v,_,_,hl=>by simpa[aR.sub,aB] using hl
 | .clo f fu, v, hs, hw, hl => by
  simp only[aR.inScope]at hs;simp only[aR.wf]at hw;simp only[aR.sub,aB]at hl ⊢;obtain⟨vs,h1,h2⟩:=hl;exact⟨vs,h1,aG.fit h fu vs hs hw h2⟩
theorem aG.fit (h:Cb8 τ σ gk ρ G' G N n xs b8 dz eI):∀ (ls:List aR) (vs:List Value),bF N ls=true->nX τ eI ls=true->aG σ ρ G w (iJ n xs b8 dz ls) vs->aG τ.get gk G' w ls vs
 |[],vs,_,_,hl=>by simpa[iJ,aG] using hl
 | l :: ls, vs, hs, hw, hl => by
  simp only[bF,Zb5]at hs;simp only[nX,Zb5]at hw;simp only[iJ,aG]at hl ⊢;obtain⟨u,us,e,h1,h2⟩:=hl;exact⟨u,us,e,aB.fit h l u hs.1 hw.1 h1,aG.fit h ls us hs.2 hw.2 h2⟩
end
theorem zK:∀ {d d':List (Nat×Nat)},xV d d'=true->d=d'
 |[],[],_=>rfl
 |[],_::_,h=>by simp[xV]at h
 |_::_,[],h=>by simp[xV]at h
 | (a, b) :: r, (a', b') :: r', h => by
  simp only[xV,Zb5,Ac8]at h;rw[h.1.1,h.1.2,zK h.2]
theorem Qai:∀ {d d':List (aM×Nat×Nat)},Law d d'=true->d=d'
 |[],[],_=>rfl
 |[],_::_,h=>by simp[Law]at h
 |_::_,[],h=>by simp[Law]at h
 | (a, b, c) :: r, (a', b', c') :: r', h => by
  simp only[Law,Zb5,Ac8]at h;rw[aM.beq0_eq h.1.1.1,h.1.1.2,h.1.2,Qai h.2]
theorem Pth.beq0_eq {p q:Pth}(h:p.beq0 q=true):p=q:=by
 cases p<;>cases q<;>simp only[Pth.beq0]at h<;>first|rfl|cases h|skip
 ·rw[Qai h]
 ·simp only[Zb5,Ac8]at h
  rw[h.1,aM.beq0_eq h.2]
mutual
theorem aR.beq0_eq:∀ {a b:aR},a.beq0 b=true->a=b
 |.dead,b,h=>by cases b<;>first | rfl | (simp[aR.beq0]at h)
 | .sc x, b, h => by
  cases b<;>simp only[aR.beq0]at h<;>first|cases h|skip
  rw[aM.beq0_eq h]
 | .su g x, b, h => by
  cases b<;>simp only[aR.beq0]at h<;>first|cases h|skip
  rename_i g' x';simp only[Zb5,beq_iff_eq]at h;obtain⟨y,u⟩:=g;obtain⟨y',u'⟩:=g';have h1:=aM.beq0_eq h.1.1;have h2:u=u':=h.1.2;dsimp only at h1;rw[h1,h2,aM.beq0_eq h.2]
 | .ex r, b, h => by
  cases b<;>simp only[aR.beq0]at h<;>first|cases h|skip
  simp only[Ac8]at h;rw[h]
 | .sn d p e x, b, h => by
  cases b<;>simp only[aR.beq0]at h<;>first|cases h|skip
  simp only[Zb5,beq_iff_eq]at h;rw[zK h.1.1.1,Pth.beq0_eq h.1.1.2,h.1.2,aM.beq0_eq h.2]
 | .px c o, b, h => by
  cases b<;>simp only[aR.beq0]at h<;>first|cases h|skip
  simp only[Zb5,Ac8]at h;rw[h.1,h.2]
 | .pe l s i o, b, h => by
  cases b<;>simp only[aR.beq0]at h<;>first|cases h|skip
  simp only[Zb5,Ac8]at h;rw[aR.beq0_eq h.1.1.1,h.1.1.2,aM.beq0_eq h.1.2,h.2]
 | .rp d s x, b, h => by
  cases b<;>simp only[aR.beq0]at h<;>first|cases h|skip
  simp only[Zb5,Ac8]at h;rw[zK h.1.1,h.1.2,aM.beq0_eq h.2]
 |.pn,b,h=>by cases b<;>first | rfl | (simp[aR.beq0]at h)
 | .clo f l, b, h => by
  cases b<;>simp only[aR.beq0]at h<;>first|cases h|skip
  simp only[Zb5,Ac8]at h;rw[h.1,Caw h.2]
theorem Caw:∀ {a b:List aR},sP a b=true->a=b
 |[],b,h=>by cases b<;>first | rfl | (simp[sP]at h)
 | a :: r, b, h => by
  cases b<;>simp only[sP]at h<;>first|cases h|skip
  simp only[Zb5]at h;rw[aR.beq0_eq h.1,Caw h.2]
end
theorem xC {a b:aR}(h:zF a b=true){v:Value}(hb:aB σ ρ G w b v):aB σ ρ G w a v:=by
 unfold zF at h;split at h
 ·simp only[aB]
  exact hb.one h
 ·rename_i d x
  split at h
  ·rename_i d' p nie x'
   simp only[Zb5]at h;obtain rfl:=zK h.1;obtain rfl:=aM.beq0_eq h.2;simp only[aB]at hb ⊢;exact⟨hb.1,fun hv=>⟨(hb.2 hv).1,(fun e=>absurd e (by decide)),trivial⟩⟩
  ·cases h
 ·rw[aR.beq0_eq h];exact hb
theorem Cat:∀ {a b:List aR},eP a b=true->∀ {vs:List Value},aG σ ρ G w b vs->aG σ ρ G w a vs
 |[],[],_,vs,hb=>hb
 |[],_::_,h,vs,hb=>by simp[eP]at h
 |_::_,[],h,vs,hb=>by simp[eP]at h
 | a :: r, b :: s, h, vs, hb => by
  simp only[eP,Zb5]at h;simp only[aG]at hb ⊢;obtain⟨u,us,e,h1,h2⟩:=hb;exact⟨u,us,e,xC h.1 h1,Cat h.2 h2⟩
theorem Cau:∀ {a b:List aR},eP a b=true->a.length=b.length
 |[],[],_=>rfl
 |[],_::_,h=>by simp[eP]at h
 |_::_,[],h=>by simp[eP]at h
 | a :: r, b :: s, h => by
  simp only[eP,Zb5]at h;simp[Cau h.2]
theorem Cav:∀ {a b:List aR},eP a b=true->∀ {j:Nat} {l:aR},a[j]?=some l->∃ m,b[j]?=some m/\zF l m=true
 |[],[],_,j,l,hj=>by simp at hj
 |[],_::_,h,_,_,_=>by simp[eP]at h
 |_::_,[],h,_,_,_=>by simp[eP]at h
 | a :: r, b :: s, h, j, l, hj => by
  simp only[eP,Zb5]at h
  cases j with
  | zero =>
   simp only[Ach,Zb6]at hj;subst hj;exact⟨b,rfl,h.1⟩
  |succ j=>exact Cav h.2 (by simpa using hj)
theorem Cas:∀ {ls:List aR} {j:Nat} {l:aR},ls[j]?=some l->(iJ n xs b8 dz ls)[j]?=some (l.sub n xs b8 dz)
 |[],j,l,h=>by simp at h
 | m :: ls, 0, l, h => by
  simp only[Ach,Zb6]at h;subst h;rfl
 | m :: ls, j + 1, l, h => by
  simp only[iJ,List.getElem?_cons_succ]at h ⊢;exact Cas h
theorem Car:∀ {ls:List aR},(iJ n xs b8 dz ls).length=ls.length
 |[]=>rfl
 |m::ls=>by simp[iJ,Car (ls:=ls)]
theorem Fao:∀ {ls:List aR} {j:Nat} {l:aR},nX τ eI ls=true->ls[j]?=some l->l.wf τ eI=true
 |[],j,l,_,h=>by simp at h
 | m :: ls, 0, l, hs, h => by
  simp only[nX,Zb5]at hs;simp only[Ach,Zb6]at h;rw[<- h];exact hs.1
 | m :: ls, j + 1, l, hs, h => by
  simp only[nX,Zb5]at hs;exact Fao hs.2 (by simpa using h)
end
theorem Aa9 {s:St}{k:Nat}{c:aS}(h:s.get k=some c):(∃ t,k=kT t/\t<s.nt)\/(∃ b,k=kB b/\b<s.nb)\/(∃ r,k=kR r/\r<s.nr):=by
 unfold St.get at h
 cases hk:vW s.nt s.nb s.nr k with
 |false=>rw[hk]at h;cases h
 | true =>
  unfold vW at hk
  cases b0:Nat.beq (k % 3) 0 with
  | true =>
   rw[b0,cond_true,Bch]at hk;simp only[Ac8]at b0;exact .inl ⟨k / 3,by unfold kT;omega,hk⟩
  | false =>
   rw[b0,cond_false]at hk;have n0:k % 3≠0:=fun e=>by rw[e]at b0;cases b0
   cases b1:Nat.beq (k % 3) 1 with
   | true =>
    rw[b1,cond_true,Bch]at hk;simp only[Ac8]at b1;exact .inr (.inl ⟨k / 3,by unfold kB;omega,hk⟩)
   | false =>
    rw[b1,cond_false,Bch]at hk;have n1:k % 3≠1:=fun e=>by rw[e]at b1;cases b1
    exact .inr (.inr ⟨k / 3,by unfold kR;omega,hk⟩)
theorem uQ {n:Nat}{xs:List aM}{b8 dz:Nat}{τ s:St}:∀ {ks:List Nat},Ca8 n xs b8 dz τ s ks=true->∀ k∈ks,dA n xs b8 dz (τ.get k) (s.get k)=true
 |[],_,k,hk=>by simp at hk
 | k' :: ks, h, k, hk => by
  simp only[Ca8,Zb5]at h
  rcases Acj.1 hk with rfl|hk
  ·exact h.1
  ·exact uQ h.2 k hk
theorem Ca9 {n:Nat}{xs:List aM}{b8 dz:Nat}{τ s:St}:∀ {ks:List Nat},Daa n xs b8 dz τ s ks=true->∀ r∈ks,dA n xs b8 dz (τ.get (kR r)) (s.get (kR (Ua6 b8 dz r)))=true
 |[],_,k,hk=>by simp at hk
 | k' :: ks, h, k, hk => by
  simp only[Daa,Zb5]at h
  rcases Acj.1 hk with rfl|hk
  ·exact h.1
  ·exact Ca9 h.2 k hk
theorem Da4 {τ:St}{eI:Nat}:∀ {ks:List Nat},Haf τ eI ks=true->∀ k∈ks,tH τ eI k (τ.get k)=true
 |[],_,k,hk=>by simp at hk
 | k' :: ks, h, k, hk => by
  simp only[Haf,Zb5]at h
  rcases Acj.1 hk with rfl|hk
  ·exact h.1
  ·exact Da4 h.2 k hk
theorem La5 {τ:St}:∀ {ks:List Nat},Vaq τ ks=true->∀ k∈ks,τ.get k=none
 |[],_,k,hk=>by simp at hk
 | k' :: ks, h, k, hk => by
  simp only[Vaq,Zb5,Option.isNone_iff_eq_none]at h
  rcases Acj.1 hk with rfl|hk
  ·exact h.1
  ·exact La5 h.2 k hk
structure Aar (E:Env) (s0:St) (b8 len:Nat) (τ:St):Prop where
 nv:τ.nv=s0.nv+len
 nt1:E.ntmps<=τ.nt
 nt2:τ.nt<=E.ntmps+E.ngh
 nr:τ.nr=b8+len
 le:s0.nr<=b8
 none:∀ r,s0.nr<=r->r<b8->τ.get (kR r)=none
 wf:∀ k c,τ.get k=some c->tH τ s0.nr k (some c)=true
theorem Aav {E:Env}{s0:St}{b8 len:Nat}{τ:St}(h:Fac E s0 b8 len τ=true):Aar E s0 b8 len τ:=by
 simp only[Fac,Zb5,Ac8,Bcq]at h;obtain⟨⟨⟨⟨⟨⟨h1,h2⟩,h3⟩,h4⟩,h5⟩,h6⟩,h7⟩:=h
 have mT:∀ r,s0.nr<=r->r<b8->τ.get (kR r)=Option.none:=fun r ha hb =>
  La5 h6 _ (Bcd.2 ⟨r,mem_range.2 ⟨ha,by omega⟩,rfl⟩)
 refine⟨h1,h2,h3,h4,h5,mT,fun k c hk=>?_⟩
 have:k∈(range 0 τ.nt).map kT++(range 0 τ.nb).map kB++((range 0 s0.nr++range b8 len).map kR):=by
  rcases Aa9 hk with ⟨t,rfl,ht⟩|⟨b,rfl,hb⟩|⟨r,rfl,hr⟩
  ·exact Zb8 _ (Zb8 _ (Bcd.2 ⟨t,mem_range.2 ⟨by omega,by omega⟩,rfl⟩))
  ·exact Zb8 _ (Acd _ (Bcd.2 ⟨b,mem_range.2 ⟨by omega,by omega⟩,rfl⟩))
  ·refine Acd _ (Bcd.2 ⟨r,?_,rfl⟩)
   rcases Acy r s0.nr with h8|h8
   ·exact Zb8 _ (mem_range.2 ⟨by omega,by omega⟩)
   ·rcases Acy r b8 with h9|h9
    ·rw[mT r h8 h9]at hk;cases hk
    ·exact Acd _ (mem_range.2 ⟨h9,by omega⟩)
 have:=Da4 h7 k this;rw[hk]at this;exact this
theorem uX {τ:St}{eI k:Nat}{c:aS}(h:tH τ eI k (some c)=true):cZ τ.nv c=true:=by
 simp only[tH,Zb5]at h;exact h.1
theorem Aar.inScope {E:Env}{s0:St}{b8 len:Nat}{τ:St}(h:Aar E s0 b8 len τ):Aas τ.get τ.nv:=fun k c hk=>uX (h.wf k c hk)
theorem Oaj {n:Nat}{xs:List aM}{b8 dz:Nat}{x:aM}{m v:Nat}{st:RSt}{c:Option aS}(h:dA n xs b8 dz (some (.root x m v st)) c=true) :
  st=.gone\/∃ x',c=some (.root x' m v st)/\Pal n xs x=x':=by
 cases st with
 |gone=>exact .inl rfl
 | _ =>
  right
  cases c with
  |none=>simp[dA]at h
  | some c =>
   cases c with
   | root x' m' v' uq =>
    simp only[dA,Zb5,Ac8,Ba8,decide_eq_true_eq]at h;exact⟨x',by rw[h.1.1.1,h.1.1.2,h.1.2],aM.beq0_eq h.2⟩
   |_=>simp[dA]at h
theorem Ra0 {n:Nat}{xs:List aM}{b8 dz:Nat}{l:aR}{c:Option aS}(h:dA n xs b8 dz (some (.slot none (.one l))) c=true) :
  ∃ b,c=some (.slot none (.one b))/\zF (l.sub n xs b8 dz) b=true:=by
 cases c with
 |none=>simp[dA]at h
 | some c =>
  cases c with
  | slot g v =>
   cases g with
   |some g=>simp[dA]at h
   |none=>cases v<;>first | exact⟨_,rfl,by simpa[dA] using h⟩ | simp[dA]at h
  |_=>simp[dA]at h
theorem Ra1 {n:Nat}{xs:List aM}{b8 dz:Nat}{l:List aR}{c:Option aS}(h:dA n xs b8 dz (some (.slot none (.agg l))) c=true) :
  ∃ b,c=some (.slot none (.agg b))/\eP (iJ n xs b8 dz l) b=true:=by
 cases c with
 |none=>simp[dA]at h
 | some c =>
  cases c with
  | slot g v =>
   cases g with
   |some g=>simp[dA]at h
   |none=>cases v<;>first | exact⟨_,rfl,by simpa[dA] using h⟩ | simp[dA]at h
  |_=>simp[dA]at h
theorem Fa8 {n:Nat}{xs:List aM}{b8 dz:Nat}{ro:Bool}{l:List aR}{c:Option aS}(h:dA n xs b8 dz (some (.box ro l)) c=true) :
  ∃ b,c=some (.box ro b)/\eP (iJ n xs b8 dz l) b=true:=by
 cases c with
 |none=>simp[dA]at h
 | some c =>
  cases c with
  | box lq b =>
   simp only[dA,Zb5,beq_iff_eq]at h;exact⟨b,by rw[h.1],h.2⟩
  |_=>simp[dA]at h
theorem Ibv (t:Nat):kT t % 3=0:=by unfold kT;omega
theorem Qax (t:Nat):kB t % 3=1:=by unfold kB;omega
theorem Qaw (t:Nat):kR t % 3=2:=by unfold kR;omega
theorem Naz {s:St}{k:Nat}{c:aS}(h:s.get k=some c)(hm:Nat.beq (k % 3) 0=true):∃ t,k=kT t/\t<s.nt:=by
 rw[Ac8]at hm
 rcases Aa9 h with h|⟨b,rfl,hb⟩|⟨r,rfl,hr⟩
 ·exact h
 ·rw[Qax]at hm;omega
 ·rw[Qaw]at hm;omega
theorem Kbc {s:St}{k:Nat}{c:aS}(h:s.get k=some c)(hm:Nat.beq (k % 3) 1=true):∃ t,k=kB t/\t<s.nb:=by
 rw[Ac8]at hm
 rcases Aa9 h with ⟨b,rfl,hb⟩|h|⟨r,rfl,hr⟩
 ·rw[Ibv]at hm;omega
 ·exact h
 ·rw[Qaw]at hm;omega
theorem Gbp {s:St}{k:Nat}{c:aS}(h:s.get k=some c)(hm:Nat.beq (k % 3) 2=true):∃ t,k=kR t/\t<s.nr:=by
 rw[Ac8]at hm
 rcases Aa9 h with ⟨b,rfl,hb⟩|⟨r,rfl,hr⟩|h
 ·rw[Ibv]at hm;omega
 ·rw[Qax]at hm;omega
 ·exact h
theorem R.fit {E:Env}{F:bK}{τ s s0:St}{ρ0 e:List D}{a:Act}{w:World}{G:Gh}{xs:List aM}{b8 dz len:Nat}
  (hR:R E.ntmps F s.get (ρ0++e) a w G) (hn:ρ0.length=s0.nv) (nn:xs.length=len) (lA:Aar E s0 b8 len τ)
  (fw:nN E s0.nv xs s0.nr b8 dz len τ s=true) (hle:s0.nr<=dz):∃ G',R E.ntmps F τ.get (ρ0++xs.map (·.val (ρ0++e))) a w G':=by
 simp only[nN,Zb5]at fw;obtain⟨hf1,hf2⟩:=fw
 have lv:∀ t,t<τ.nt->dA s0.nv xs b8 dz (τ.get (kT t)) (s.get (kT t))=true:=fun t ht =>
  uQ hf1 _ (Zb8 _ (Bcd.2 ⟨t,mem_range.2 ⟨by omega,by have:=lA.nt2;omega⟩,rfl⟩))
 have pH:∀ b,b<τ.nb->dA s0.nv xs b8 dz (τ.get (kB b)) (s.get (kB b))=true:=fun b hb =>
  uQ hf1 _ (Acd _ (Bcd.2 ⟨b,mem_range.2 ⟨by omega,by omega⟩,rfl⟩))
 have eW:∀ r,r<s0.nr\/(b8<=r/\r<b8+len)->dA s0.nv xs b8 dz (τ.get (kR r)) (s.get (kR (Ua6 b8 dz r)))=true:=fun r hr =>
  Ca9 hf2 r (by
   rcases hr with hr|hr
   ·exact Zb8 _ (mem_range.2 ⟨by omega,by omega⟩)
   ·exact Acd _ (mem_range.2 hr))
 have hrk:∀ r c,τ.get (kR r)=some c->r<s0.nr\/(b8<=r/\r<b8+len):=by
  intro r c hk
  rcases Aa9 hk with ⟨t,e,_⟩|⟨t,e,_⟩|⟨r',e,hr⟩
  ·exact absurd e.symm iW
  ·exact absurd e.symm fH
  ·obtain rfl:=fC e
   rw[lA.nr]at hr
   rcases Acy r s0.nr with h1|h1
   ·exact .inl h1
   ·rcases Acy r b8 with h2|h2
    ·rw[lA.none r h1 h2]at hk;cases hk
    ·exact .inr ⟨h2,hr⟩
 have oo:∀ r x m v st,τ.get (kR r)=some (.root x m v st)->st=.live\/st=.frozen->∃ x',s.get (kR (Ua6 b8 dz r))=some (.root x' m v st)/\Pal s0.nv xs x=x':=by
  intro r x m v st hk ba;have h1:=eW r (hrk r _ hk);rw[hk]at h1
  rcases Oaj h1 with h2|h2
  ·rw[h2]at ba
   rcases ba with h|h<;>cases h
  ·exact h2
 let ρs:=ρ0++e
 let G':Gh:={ own:=fun b=>vS s0.nr dz b8 (G.own b),hdr:=fun r=>G.hdr (Ua6 b8 dz r),bx:=G.bx }
 have je:∀ x,bC τ.nv x=true->x.val (ρ0++xs.map (·.val ρs))=(Pal s0.nv xs x).val ρs:=by
  intro x hx
  cases x with
  |c d=>rfl
  | v i =>
   simp only[bC,Bch]at hx;rw[lA.nv]at hx;simp only[Pal]
   cases hb:Bcx i s0.nv with
   | true =>
    simp only[Bch]at hb;simp only[cond_true,aM.val,Acg,ρs];rw[Acw (by omega),Acw (by omega)]
   | false =>
    have my:s0.nv<=i:=by
     rcases Acy i s0.nv with h|h
     ·rw[<- Bch,hb]at h;cases h
     ·exact h
    simp only[cond_false];have hlt:i-s0.nv<xs.length:=by omega
    rw[Acg,Acb hlt,Ccg];simp only[aM.val,Acg];rw[List.getElem?_append_right (by omega),List.getElem?_map,hn,Acb hlt];rfl
 have H:Cb8 τ s.get (ρ0++xs.map (·.val ρs)) ρs G' G τ.nv s0.nv xs b8 dz s0.nr:=by
  refine⟨je,lA.le,hle,fun _=>rfl,fun _=>rfl,rfl,fun r k hr hv=>?_,fun r k m hr hv=>?_⟩
  ·obtain⟨x,m,st,hk,ba⟩:=hv
   obtain⟨x',h1,-⟩:=oo r x m k st hk ba;rw[uA (by have:=lA.le;omega)]at h1;exact⟨x',m,st,h1,ba⟩
  ·obtain⟨x,hk⟩:=hv
   obtain⟨x',h1,-⟩:=oo r x m k .live hk (.inl rfl);rw[uA (by have:=lA.le;omega)]at h1;exact⟨x',h1⟩
 refine⟨G',hR.tmps,hR.defers,fun k c hk=>?_,?_,fun b ls hk hb ho=>?_⟩
 ·have mf:=lA.wf k c hk
  have kg:=uX mf
  cases c with
  | slot g v =>
   cases g with
   |some g=>simp[tH]at mf
   | none =>
    cases v with
    | dead =>
     simp only[tH,Zb5]at mf;obtain⟨t,rfl,ht⟩:=Naz hk mf.2;exact⟨t,rfl,fun _=>trivial⟩
    | one l =>
     simp only[tH,Zb5]at mf;obtain⟨t,rfl,ht⟩:=Naz hk mf.2.1;refine⟨t,rfl,fun _=>?_⟩;have h1:=lv t ht;rw[hk]at h1;obtain⟨b,h2,h3⟩:=Ra0 h1;have h4:aB s.get ρs G w b _:=hR.slot h2 rfl;simp only[cZ,yP,Zb5]at kg;exact aB.fit H l _ kg.2 mf.2.2 (xC h3 h4)
    | agg ls =>
     simp only[tH,Zb5]at mf;obtain⟨t,rfl,ht⟩:=Naz hk mf.2.1;refine⟨t,rfl,fun _=>?_⟩;have h1:=lv t ht;rw[hk]at h1;obtain⟨b,h2,h3⟩:=Ra1 h1;obtain⟨vs,h4,h5⟩:dB s.get ρs G w (.agg b) _:=hR.slot h2 rfl;simp only[cZ,yP,Zb5]at kg;exact⟨vs,h4,aG.fit H ls _ kg.2 mf.2.2 (Cat h3 h5)⟩
    |tup ts=>simp[tH]at mf
  | box ro ls =>
   simp only[tH,Zb5]at mf;obtain⟨b,rfl,hb⟩:=Kbc hk mf.2.1;have h1:=pH b hb;rw[hk]at h1;obtain⟨bs,h2,h3⟩:=Fa8 h1;obtain⟨h4,h5,h6⟩:=hR.box h2;refine⟨b,rfl,h4,?_,fun j l hj=>?_⟩
   ·show vS _ _ _ _=_
    rw[h5];cases ro<;>rfl
   ·obtain⟨m,h7,h8⟩:=Cav h3 (Cas hj)
    obtain⟨v,h9,cL,ef⟩:=h6 j m h7;simp only[cZ]at kg;exact⟨v,h9,cL,aB.fit H l v (nJ kg hj) (Fao mf.2.2 hj) (xC h8 ef)⟩
  | root x m bc st =>
   have hm:Nat.beq (k % 3) 2=true:=by
    cases st<;>simp only[tH,Zb5]at mf<;>first|exact mf.2|(exact absurd mf.2 (by decide))
   obtain⟨r,rfl,hr⟩:=Gbp hk hm;have ve:=hrk r _ hk;refine⟨r,rfl,by rw[hk];rfl,?_⟩;simp only[cZ]at kg;have a6e:r<s0.nr\/b8<=r:=ve.imp id (·.1)
   cases st with
   | live =>
    obtain⟨x',h1,h2⟩:=oo r x m bc .live hk (.inl rfl);have h3:=hR.root h1;simp only[bV]at h3 ⊢;rw[je x kg,h2]
    have:=h3.mono (own':=G'.own) (w':=w) (q:=[]) (q':=[]) (r':=r) (fun b hb=>⟨H.frz hb,rfl⟩) [] rfl (fun b t hb=>⟨by
     show vS _ _ _ _=_
     rw[hb];exact Jae lA.le hle a6e,rfl⟩)
    simpa using this
   | frozen =>
    obtain⟨x',h1,h2⟩:=oo r x m bc .frozen hk (.inr rfl);obtain⟨h3,h4⟩:=hR.root h1;simp only[bV];rw[je x kg,h2];refine⟨h3.mono fun b hb=>⟨H.frz hb,rfl⟩,fun b p hb=>?_⟩;exact h4 b p (Yak lA.le hb)
   |gone=>trivial
   |fwd r'=>simp[tH]at mf
 ·refine⟨hR.frame.os,hR.frame.tape,hR.frame.output,hR.frame.size,fun b hb ho=>?_,fun b j hb ho=>?_,fun b hb=>?_⟩
  ·obtain⟨h1,h2⟩:=hR.frame.keep b hb ho
   refine⟨h1,?_⟩;show vS _ _ _ _=_
   rw[h2]
   rcases ho with ho|ho<;>rw[ho]<;>rfl
  ·obtain⟨h1,h2⟩:=hR.frame.boxes b j hb ho
   refine⟨?_,h2⟩;show vS _ _ _ _=_
   rw[h1];rfl
  ·show vS _ _ _ _=_
   rw[hR.frame.fresh b hb];rfl
 ·have h1:=pH b (by
   rcases Aa9 hk with ⟨t,e,_⟩|⟨t,e,ht⟩|⟨r',e,hr⟩
   ·exact absurd e.symm lX
   ·obtain rfl:=Ca0 e;exact ht
   ·exact absurd e fH)
  rw[hk]at h1;obtain⟨bs,h2,h3⟩:=Fa8 h1;have h4:=hR.rng b bs h2 hb ho;rw[h4,<- Cau h3,Car]
def Abh (draw:Bool)(s:St)(r:bS):St:={ (s.puts r.upd) with nv:=s.nv+bL r.lets,nb:=s.nb+1,nr:=Uah draw s.nr r.upd }
inductive Oaz (E:Env) (draw:Bool) (kq:Nat) (ops:List Oper):Nat->List Oper->St->List OpI->St->Prop
 |nil (i:Nat) (s:St):Oaz E draw kq ops i [] s [] s
 | cons {i : Nat} {o : Oper} {os : List Oper} {s : St} {g : Option (aM × Bool)} {r : bS} {log : List Nat} {is : List OpI} {s' : St} (mv dv : Bool)
   (h1:(lL E ops mv dv s.nv s.nb s.nr o).run s.get=some ((g,r),log)) (h2:Gbh s g r=true)
   (h3:Oaz E draw kq ops (i+1) os (Abh draw s r) is s'):Oaz E draw kq ops i (o::os) s (⟨g,r,log,s.nb,s.nr⟩::is) s'
theorem Haq {E:Env}{draw:Bool}{kq:Nat}{ops:List Oper}:∀ {os:List Oper} {i:Nat} {s:St} {acc is:List OpI} {s':St},Zah E draw kq ops i os s acc=.inl (is,s') ->
  ∃ js,is=acc.reverse++js/\Oaz E draw kq ops i os s js s'
 | [], i, s, acc, is, s', h => by
  simp only[Zah,Sum.inl.injEq,Ac0]at h;obtain⟨rfl,rfl⟩:=h;exact⟨[],by simp,.nil i s⟩
 | o :: os, i, s, acc, is, s', h => by
  simp only[Zah]at h;split at h
  ·rename_i g r log bj
   cases n5:Gbh s g r with
   |false=>rw[n5]at h;simp at h
   | true =>
    rw[n5]at h;simp only[Dcf,cond_false]at h;obtain⟨js,h1,h2⟩:=Haq h;exact⟨⟨g,r,log,s.nb,s.nr⟩::js,by rw[h1];simp,.cons _ _ bj n5 h2⟩
  ·cases h
structure Daw (E:Env) (s:St):Prop where
 nt:E.ntmps<=s.nt
 sc:Aas s.get s.nv
def Oay (cf:Nat->List D->Option (List D))(ρ:List D):Nat->List OpI->Prop
 |_,[]=>True
 |nv,a::r=>aN cf ρ a.g nv a.res.lets/\Oay cf ρ (nv+bL a.res.lets) r
def Ban (P:Program)(E:Env)(F:bK)(cf:Nat->List D->Option (List D)):Prop :=
 ∀ (σ:Nat->Option aS) (ρ:List D) (a:Act) (w:World) (G:Gh) (g:Option (aM×Bool)) (o:Oper) (Q:Exit->Act->World->Prop) (mv dv:Bool) (nv nb nr:Nat) (res:bS) (f:Operand) (args:Array Operand) (argTypes:Array TypeId),
  R E.ntmps F σ ρ a w G->fJ E.ntmps o->Dax σ nb nr->o.op=.call { callee:=.value f,args,argTypes } ->
  (qO E mv dv nv nb nr g o).eval σ=some res->res.upd.all (fun x=>zS E.ntmps nb nr x.1)=true->aN cf ρ g nv res.lets->gZ P E F σ ρ a w g o Q res.upd
section
variable {P:Program} {E:Env} {F:bK} {cf:Nat->List D->Option (List D)} {draw:Bool}
theorem La4 {s:St}{g:Option (aM×Bool)}{r:bS}(h:Gbh s g r=true) :
  pU s.nv g=true/\eU s.nv r.lets=true/\r.upd.all (fun x=>cZ (s.nv+bL r.lets) x.2)=true:=by
 simp only[Gbh,Zb5]at h;exact⟨h.1.1.2,h.1.2,h.2⟩
theorem Naq {ops:List Oper}{mv dv:Bool}{s:St}{o:Oper}{g:Option (aM×Bool)}{r:bS}{log:List Nat}(hi:E.ntmps<=s.nt)
  (h1:(lL E ops mv dv s.nv s.nb s.nr o).run s.get=some ((g,r),log)) (h2:Gbh s g r=true):(Abh draw s r).get=upds s.get r.upd:=by
 funext k;exact Gbg h2 hi (jY (RdM.run_eval h1)).2.2.2 draw _ k
theorem Daw.next {ops:List Oper}{mv dv:Bool}{s:St}{o:Oper}{g:Option (aM×Bool)}{r:bS}{log:List Nat}(hi:Daw E s)
  (h1:(lL E ops mv dv s.nv s.nb s.nr o).run s.get=some ((g,r),log)) (h2:Gbh s g r=true):Daw E (Abh draw s r):=by
 refine⟨?_,?_⟩
 ·show E.ntmps<=(s.puts r.upd).nt
  rw[(jD r.upd s).2.2.2];exact hi.nt
 ·rw[Naq hi.nt h1 h2]
  exact hi.sc.upds (Dcz ..) (La4 h2).2.2
theorem Xad {kq:Nat}{ops:List Oper}{i:Nat}{os:List Oper}{s s':St}{is:List OpI}(hc:Oaz E draw kq ops i os s is s') :
  ∀ {s'':St} {ρ:List D} {o:Out St},s''.nv=s'.nv->ρ.length=s.nv->Ec cf (Hau (.leaf .fall [] s'') is) ρ=some o ->
  o.kind=.fall/\o.ext=s''/\o.env.length=s'.nv/\(∃ ds,o.env=ρ++ds)/\∀ ext,Oay cf (o.env++ext) s.nv is:=by
 induction hc with
 | nil i s =>
  intro s'' ρ o hv hl h;simp only[Hau,fZ,Zb6]at h;subst h;exact⟨rfl,rfl,hl,⟨[],by simp⟩,fun _=>trivial⟩
 | cons mv dv h1 h2 h3 ih =>
  rename_i i o' os s g r log is s';intro s'' ρ o hv hl h;simp only[Hau]at h;obtain⟨hg,hs,-⟩:=La4 h2;obtain⟨ds,h4,h5,h6⟩:=wD (by rw[hl];exact hg) (by rw[hl];exact hs) h;obtain⟨h7,h8,h9,⟨es,cL⟩,ef⟩:=ih hv (by rw[Ace,h4,hl];rfl) h5;refine⟨h7,h8,h9,⟨ds++es,by rw[cL,Aci]⟩,fun ext=>⟨?_,ef ext⟩⟩;have:=h6 (es++ext);rw[hl]at this;rw[cL];simpa[Aci] using this
theorem Cbt {kq:Nat}{ops:List Oper}{i:Nat}{os:List Oper}{s s':St}{is:List OpI}(hc:Oaz E draw kq ops i os s is s')(hi:Daw E s):Daw E s':=by
 induction hc with
 |nil i s=>exact hi
 |cons mv dv h1 h2 h3 ih=>exact ih (hi.next h1 h2)
theorem Daw.trim {lo:Nat}{d:Bool}{s:St}(h:Daw E s):Daw E (trimS d lo s) :=
 ⟨by rw[yM.2.2];exact h.nt,by rw[Oa8,yM.1];exact h.sc⟩
theorem Cbu {kq:Nat}{ops:List Oper}{i:Nat}{os:List Oper}{s s':St}{is:List OpI}(hc:Oaz E draw kq ops i os s is s'):∀ o∈os,fJ E.ntmps o:=by
 induction hc with
 |nil i s=>simp
 | cons mv dv h1 h2 h3 ih =>
  intro o ho
  rcases Acj.1 ho with rfl|ho
  ·exact (jY (RdM.run_eval h1)).2.1
  ·exact ih o ho
theorem Sb0 (hti:vZ P E.ti)(cI:Ban P E F cf){ops:Array Oper}(oB:∀ o∈ops.toList,fJ E.ntmps o){mv dv:Bool}{s:St}{o:Oper}{g:Option (aM×Bool)}{r:bS}{ρ:List D}{a:Act}{w:World}{G:Gh}{Q:Exit->Act->World->Prop}
  {σ:Nat->Option aS} (hf:Dax σ s.nb s.nr)
  (hR:R E.ntmps F σ ρ a w G) (h1:(lL E ops.toList mv dv s.nv s.nb s.nr o).eval σ=some (g,r)) (ba:aN cf ρ g s.nv r.lets):Lbt P E F σ ρ ops o Q r.upd a w:=by
 refine Bay hR hti oB hf h1 ba fun f args argTypes ho=>?_
 obtain⟨h2,h3,h4,h5⟩:=jY h1;rw[Lac ho]at h4;exact cI σ ρ a w G g o Q mv dv s.nv s.nb s.nr r f args argTypes hR h3 hf ho h4 h5 ba
theorem Cbs (hti:vZ P E.ti)(cI:Ban P E F cf){kq:Nat}{ops:Array Oper}(oB:∀ o∈ops.toList,fJ E.ntmps o){Q:Exit->Act->World->Prop}{i:Nat}{os:List Oper}{s s':St}{is:List OpI}(hc:Oaz E draw kq ops.toList i os s is s') :
  ∀ {ρ:List D} {a:Act} {w:World} {G:Gh},ops.toList.drop i=os->R E.ntmps F s.get ρ a w G->Daw E s->Oay cf ρ s.nv is ->
  (∀ a' w' G',R E.ntmps F s'.get ρ a' w' G'->Q .normal a' w')->wpOps P ops Q (List.range' i os.length) a w:=by
 induction hc with
 | nil i s =>
  intro ρ a w G hdr hR hi ba hQ;exact hQ a w G hR
 | cons mv dv h1 h2 h3 ih =>
  rename_i i o os s g r log is s';intro ρ a w G hdr hR hi ba hQ
  have nw:ops[i]?=some o:=by
   rw[<- Bc1];have:(ops.toList.drop i)[0]?=some o:=by rw[hdr];rfl
   rwa[List.getElem?_drop,Bca]at this
  rw[Aco,List.range'_succ,wpOps_cons];unfold wpOp;rw[nw];have fb:=Sb0 (Q:=Q) hti cI oB Rad hR (RdM.run_eval h1) ba.1
  have xk:∀ a w,Nx E.ntmps F s.get ρ r.upd a w->wpOps P ops Q (List.range' (i+1) os.length) a w:=by
   intro a' w' ⟨G',ja⟩;rw[<- Naq hi.nt h1 h2]at ja;exact ih (by rw[<- List.drop_drop,hdr];rfl) ja (hi.next h1 h2) ba.2 hQ
  unfold Lbt at fb;dsimp only;split
  ·rename_i hw
   rw[if_pos hw]at fb;exact .inl (Oper.wp_mono xk fb)
  ·rename_i hw
   rw[if_neg hw]at fb;exact xk _ _ fb
end
theorem pE {a b:List Nat}(h:meets a b=false){k:Nat}(ha:k∈a):k∉b:=by
 intro hb
 have:meets a b=true:=by
  unfold meets;rw[List.any_eq_true];exact⟨k,ha,mV.2 hb⟩
 rw[h]at this;cases this
theorem Hah {acc:List Nat}:∀ {es:List Edge} {m b:Nat},Cc9 (Aat acc es m) b=true->Cc9 m b=true\/∃ e∈es,Region.binds .any e=true/\(b=e.on\/Cc9 (acc.getD e.on 0) b=true)
 |[],m,b,h=>.inl h
 | e :: es, m, b, h => by
  have h':Cc9 (Aat acc es (bif Region.binds .any e then (m ||| 2 ^ e.on) ||| acc.getD e.on 0 else m)) b=true:=h
  rcases Hah (es:=es) h' with h1|⟨e',he',h1⟩
  ·cases hb:Region.binds .any e with
   |false=>rw[hb,cond_false]at h1;exact .inl h1
   | true =>
    rw[hb,cond_true]at h1;simp only[Nat.testBit_or,Bcp,Nat.testBit_two_pow,decide_eq_true_eq]at h1
    rcases h1 with (h1|h1)|h1
    ·exact .inl h1
    ·exact .inr ⟨e,Acs,hb,.inl h1.symm⟩
    ·exact .inr ⟨e,Acs,hb,.inr h1⟩
  ·exact .inr ⟨e',Ack _ he',h1⟩
theorem Hag:∀ {os:List Oper} {acc:List Nat} {i w:Nat},acc[i]?=some w->(waits os acc)[i]?=some w
 |[],_,_,_,h=>h
 | o :: os, acc, i, w, h => by
  refine Hag (os:=os) ?_;rw[Acw (Zb7.1 h).1];exact h
theorem Oa5:∀ {os:List Oper} {acc:List Nat} {p w:Nat} {o:Oper},os[p]?=some o->(waits os acc)[acc.length+p]?=some w->∀ b,Cc9 w b=true ->
  ∃ e∈o.after.toList,Region.binds .any e=true/\(b=e.on\/∃ w',(waits os acc)[e.on]?=some w'/\Cc9 w' b=true)
 |[],acc,p,w,o,ho,_,_,_=>by simp at ho
 | o' :: os, acc, 0, w, o, ho, hw, b, hb => by
  simp only[Ach,Zb6]at ho;subst ho;have h1:(acc++[Aat acc o'.after.toList 0])[acc.length]?=some (Aat acc o'.after.toList 0):=by simp
  have h2:=Hag (os:=os) h1;simp only[waits,Bca]at hw;rw[h2]at hw;obtain rfl:=Ac9 hw
  rcases Hah hb with h3|⟨e,he,h4,h5⟩
  ·simp at h3
  ·refine⟨e,he,h4,h5.imp id fun h6=>?_⟩
   rw[Acg]at h6
   cases ha:acc[e.on]? with
   |none=>rw[ha]at h6;simp at h6
   | some w' =>
    rw[ha,Ccg]at h6;have hlt:=(Zb7.1 ha).1;exact⟨w',Hag (os:=os) (by rw[Acw hlt];exact ha),h6⟩
 | o' :: os, acc, p + 1, w, o, ho, hw, b, hb => by
  have:=Oa5 (os:=os) (acc:=acc++[Aat acc o'.after.toList 0]) (p:=p) (w:=w) (o:=o) (by simpa using ho) (by
   simp only[Ace,List.length_singleton];simp only[waits]at hw;rw[<- hw];congr 1
   omega) b hb
  exact this
theorem Fax {a:OpI}{i:Nat}:∀ {bs:List OpI} {ws:List Nat},Ca5 a i bs ws=true->∀ {q:Nat} {b:OpI},bs[q]?=some b->∃ w,ws[q]?=some w/\(Cc9 w i=true\/rJ a b=true)
 |[],_,_,q,b,h=>by simp at h
 |_::_,[],h,_,_,_=>by simp[Ca5]at h
 | b :: bs, w :: ws, h, q, b', hq => by
  simp only[Ca5,Zb5,Bcp]at h
  cases q with
  | zero =>
   simp only[Ach,Zb6]at hq;subst hq;exact⟨w,rfl,h.1⟩
  |succ q=>exact Fax h.2 (by simpa using hq)
theorem Cai:∀ {is:List OpI} {ws:List Nat} {i:Nat},wV is ws i=true->∀ {p q:Nat} {a b:OpI},p<q->is[p]?=some a->is[q]?=some b ->
  ∃ w,ws[q]?=some w/\(Cc9 w (i+p)=true\/rJ a b=true)
 |[],_,_,_,p,q,a,b,_,hp,_=>by simp at hp
 | x :: is, ws, i, h, p, q, a, b, hpq, hp, hq => by
  simp only[wV,Zb5]at h
  cases q with
  |zero=>omega
  | succ q =>
   cases p with
   | zero =>
    simp only[Ach,Zb6]at hp;subst hp;obtain⟨w,h1,h2⟩:=Fax h.1 (q:=q) (by simpa using hq);exact⟨w,by rw[List.getElem?_tail]at h1;exact h1,h2⟩
   | succ p =>
    obtain⟨w,h1,h2⟩:=Cai h.2 (p:=p) (q:=q) (by omega) (by simpa using hp) (by simpa using hq);exact⟨w,by rw[List.getElem?_tail]at h1;exact h1,by rw[show i+(p+1)=i+1+p by omega];exact h2⟩
theorem Fa5:∀ {os:List Oper} {i:Nat},Dah os i=true->∀ {p:Nat} {o:Oper},os[p]?=some o->∀ e∈o.after.toList,Region.binds .any e=true->e.on<i+p
 |[],_,_,p,o,h,_,_,_=>by simp at h
 | x :: os, i, h, p, o, hp, e, he, hb => by
  simp only[Dah,Zb5,Ac6,Bcp,Ac2,Bch]at h
  cases p with
  | zero =>
   simp only[Ach,Zb6]at hp;subst hp
   rcases h.1 e he with h1|h1
   ·rw[hb]at h1;cases h1
   ·omega
  | succ p =>
   have:=Fa5 h.2 (p:=p) (by simpa using hp) e he hb;omega
def sig (D:Nat->Bool):Nat->List OpI->(Nat->Option aS)->Nat->Option aS
 |_,[],σ=>σ
 |i,a::r,σ=>sig D (i+1) r (bif D i then upds σ a.res.upd else σ)
def Wr (a:OpI)(k:Nat):Prop:=∃ c,(k,c)∈a.res.upd
theorem Ma1 {a:OpI}{σ:Nat->Option aS}{k:Nat}(h:¬ Wr a k):upds σ a.res.upd k=σ k:=fA _ _ _ fun c hc=>h ⟨c,hc⟩
theorem Ba0 {D D':Nat->Bool}{k:Nat}:∀ {is:List OpI} {i:Nat} {σ ej:Nat->Option aS},(∀ p a,is[p]?=some a->Wr a k->D (i+p)=D' (i+p))->σ k=ej k->sig D i is σ k=sig D' i is ej k
 |[],i,σ,ej,_,h=>h
 | a :: r, i, σ, ej, hd, h => by
  simp only[sig];refine Ba0 (fun p b hb hw=>?_) ?_
  ·have:=hd (p+1) b (by simpa using hb) hw
   rw[show i+(p+1)=i+1+p by omega]at this;exact this
  ·by_cases hw:Wr a k
   ·have:=hd 0 a rfl hw
    rw[Bca]at this;rw[this]
    cases D' i with
    |false=>exact h
    |true=>exact sD _ _ _ _ h
   ·have e:∀ (x:Bool) (τ:Nat->Option aS),(bif x then upds τ a.res.upd else τ) k=τ k:=by
     intro x τ
     cases x with
     |false=>rfl
     |true=>exact Ma1 hw
    rw[e,e];exact h
theorem wJ {D:Nat->Bool}{k:Nat}:∀ {is:List OpI} {i:Nat} {σ:Nat->Option aS},(∀ p a,is[p]?=some a->Wr a k->D (i+p)=false)->sig D i is σ k=σ k
 |[],i,σ,_=>rfl
 | a :: r, i, σ, hd => by
  simp only[sig]
  rw[wJ fun p b hb hw=>by
   have:=hd (p+1) b (by simpa using hb) hw;rw[show i+(p+1)=i+1+p by omega]at this;exact this]
  by_cases hw:Wr a k
  ·have:=hd 0 a rfl hw
   rw[Bca]at this;rw[this];rfl
  ·cases D i with
   |false=>rfl
   |true=>exact Ma1 hw
theorem Vac {D:Nat->Bool}{k:Nat}:∀ {is:List OpI} {i p:Nat} {a:OpI} {σ τ:Nat->Option aS},is[p]?=some a->D (i+p)=true->Wr a k->(∀ q b,p<q->is[q]?=some b->Wr b k->D (i+q)=false) ->
  sig D i is σ k=upds τ a.res.upd k
 |[],i,p,a,σ,τ,hp,_,_,_=>by simp at hp
 | x :: r, i, 0, a, σ, τ, hp, hD, hw, hq => by
  simp only[Ach,Zb6]at hp;subst hp;rw[Bca]at hD;simp only[sig]
  rw[wJ fun q b hb zt=>by
   have:=hq (q+1) b (by omega) (by simpa using hb) zt;rw[show i+(q+1)=i+1+q by omega]at this;exact this,hD,cond_true]
  exact Gap _ _ _ _ hw
 | x :: r, i, p + 1, a, σ, τ, hp, hD, hw, hq => by
  simp only[sig];refine Vac (p:=p) (by simpa using hp) (by rw[show i+1+p=i+(p+1) by omega];exact hD) hw fun q b hpq hb zt=>?_
  have:=hq (q+1) b (by omega) (by simpa using hb) zt;rw[show i+(q+1)=i+1+q by omega]at this;exact this
section
variable {P:Program} {E:Env} {F:bK} {cf:Nat->List D->Option (List D)}
theorem Vab {D:Nat->Bool}{is:List OpI}{i:Nat}{σ:Nat->Option aS}(h:∀ q,i<=q->D q=false):sig D i is σ=σ :=
 funext fun k=>wJ fun p a _ _=>h _ (Dcz ..)
structure At (E:Env) (ops:List Oper) (cf:Nat->List D->Option (List D)) (ρ:List D) (σ0:Nat->Option aS) (i0:Nat) (is:List OpI) (p:Nat) (o:Oper) (a:OpI) (s0:St):Prop where
 run:∃ mv dv nv,(lL E ops mv dv nv a.nb a.nr o).run (sig (fun q=>decide (q<i0+p)) i0 is σ0)=some ((a.g,a.res),a.log)/\aN cf ρ a.g nv a.res.lets
 nb:a.nb=s0.nb+p
 nr:a.nr=s0.nr+cB*p
theorem Hbw {kq:Nat}{ops:List Oper}{i:Nat}{os:List Oper}{s s':St}{is:List OpI}(hc:Oaz E true kq ops i os s is s') :
  ∀ {ρ:List D},Daw E s->Oay cf ρ s.nv is->is.length=os.length/\s'.get=sig (fun _=>true) i is s.get/\∀ p o,os[p]?=some o->∃ a,is[p]?=some a/\At E ops cf ρ s.get i is p o a s:=by
 induction hc with
 |nil i s=>exact fun _ _=>⟨rfl,rfl,by simp⟩
 | cons mv dv h1 h2 h3 ih =>
  rename_i i o os s g r log is s';intro ρ hi ba;obtain⟨h4,h5,h6⟩:=ih (hi.next h1 h2) ba.2;have hg:=Naq (draw:=true) hi.nt h1 h2;refine⟨by simp[h4],?_,fun p o' hp=>?_⟩
  ·rw[h5,hg];rfl
  ·cases p with
   | zero =>
    simp only[Ach,Zb6]at hp;subst hp;refine⟨_,rfl,⟨mv,dv,s.nv,?_,ba.1⟩,rfl,rfl⟩;rw[Bca,Vab fun q hq=>by simpa using hq];exact h1
   | succ p =>
    obtain⟨a,h7,h8⟩:=h6 p o' (by simpa using hp);refine⟨a,by simpa using h7,?_,?_,?_⟩
    ·obtain⟨mv',a3i,nv',h9,cL⟩:=h8.run
     refine⟨mv',a3i,nv',?_,cL⟩;simp only[sig];have:(decide (i<i+(p+1)):Bool)=true:=by simp
     rw[this,cond_true,<- hg,show i+(p+1)=i+1+p by omega];exact h9
    ·rw[h8.nb];show s.nb+1+p=_;omega
    ·rw[h8.nr]
     show s.nr+cB+cB*p=_
     rw[Nat.mul_succ];omega
theorem Va3 {a:OpI}{n nb nr k:Nat}(h:a.res.upd.all (fun x=>zS n nb nr x.1)=true)(hw:Wr a k):zS n nb nr k=true:=by
 obtain⟨c,hc⟩:=hw;rw[Ac6]at h;exact h _ hc
theorem Ab2 {n nb nr b:Nat}(h:zS n nb nr (kB b)=true):b<=nb:=by
 unfold zS at h;rw[Qax]at h;have:kB b / 3=b:=by unfold kB;omega
 rw[this]at h;simpa using h
theorem Eal {n nb nr r:Nat}(h:zS n nb nr (kR r)=true):r<nr+cB:=by
 unfold zS at h;rw[Qaw]at h;have:kR r / 3=r:=by unfold kR;omega
 rw[this]at h;simpa using h
structure Jbc (E:Env) (ops:Array Oper) (cf:Nat->List D->Option (List D)) (ρ:List D) (s:St) (is:List OpI):Prop where
 len:is.length=ops.size
 at_:∀ p o,ops.toList[p]?=some o->∃ a,is[p]?=some a/\At E ops.toList cf ρ s.get 0 is p o a s
 free:∀ p q a b,p<q->is[p]?=some a->is[q]?=some b->(∃ w,(waits ops.toList [])[q]?=some w/\Cc9 w p=true)\/rJ a b=true
 low:∀ p o,ops.toList[p]?=some o->∀ e∈o.after.toList,Region.binds .any e=true->e.on<p
 dst:∀ o∈ops.toList,fJ E.ntmps o
def dn (l:Array Bool)(q:Nat):Bool:=l.getD q false
def Closed (ops:Array Oper)(l:Array Bool):Prop:=∀ q w p,dn l q=true->(waits ops.toList [])[q]?=some w->Cc9 w p=true->dn l p=true
theorem apart_spec {a b:OpI}(h:rJ a b=true):(∀ k,Wr a k->k∉b.log)/\(∀ k,Wr a k->¬ Wr b k)/\(∀ k,k∈a.log->¬ Wr b k)/\∀ k,Wr b k->Na7 a k=false:=by
 simp only[rJ,Zb5,Ac2]at h;obtain⟨⟨⟨h1,h2⟩,h3⟩,h4⟩:=h
 have key:∀ {x:OpI} {k:Nat},Wr x k↔k∈x.res.upd.map (·.1):=by
  intro x k;simp only[Bcd];constructor
  ·rintro⟨c,hc⟩;exact⟨_,hc,rfl⟩
  ·rintro⟨⟨k',c⟩,hc,rfl⟩;exact⟨c,hc⟩
 refine⟨fun k hk=>pE h1 (key.1 hk),fun k hk hb=>pE h2 (key.1 hk) (key.1 hb),fun k hk hb=>pE h3 hk (key.1 hb),fun k hk=>?_⟩;rw[List.any_eq_false]at h4;simpa using h4 k (key.1 hk)
theorem Uad:∀ {l:List Bool} {i:Nat},l[i]?=some false->(l.set i true).count false+1=l.count false
 |[],i,h=>by simp at h
 | b :: l, 0, h => by
  simp only[Ach,Zb6]at h;subst h;simp
 | b :: l, i + 1, h => by
  have:=Uad (l:=l) (i:=i) (by simpa using h);simp only[List.set_cons_succ,List.count_cons];omega
theorem Laq {ops:Array Oper}{l:Array Bool}{i:Nat}(hl:l.size=ops.size)(h:i∈Region.ready .any ops l) :
  ∃ o,ops[i]?=some o/\l[i]?=some false/\∀ e∈o.after.toList,Region.binds .any e=true->dn l e.on=true:=by
 unfold Region.ready at h;rw[Ccf,Cck]at h;obtain⟨h1,h2⟩:=h;simp only[Zb5,Ac2]at h2;have ho:ops[i]?=some ops[i]:=Bce h1;rw[ho,Bcn,Ccg]at h2;refine⟨_,ho,?_,fun e he hb=>?_⟩
 ·have h3:=h2.1
  rw[Bck]at h3;have hlt:i<l.size:=by omega
  rw[Bce hlt,Ccg]at h3;rw[Bce hlt,h3]
 ·have h3:=h2.2
  rw[<- Array.all_toList,Ac6]at h3;have:=h3 e he;rw[hb]at this;simpa[dn] using this
theorem ready_nil {ops:Array Oper}{l:Array Bool}(hl:l.size=ops.size)(a0f:∀ p o,ops.toList[p]?=some o->∀ e∈o.after.toList,Region.binds .any e=true->e.on<p)
  (h:Region.ready .any ops l=[]):∀ q,q<ops.size->dn l q=true:=by
 intro q
 induction q using Nat.strongRecOn with
 | _ q ih =>
  intro hq
  cases hd:dn l q with
  |true=>rfl
  | false =>
   exfalso;have ho:ops[q]?=some ops[q]:=Bce hq
   have:q∈Region.ready .any ops l:=by
    unfold Region.ready;rw[Ccf,Cck];refine⟨hq,?_⟩;simp only[Zb5,Ac2];refine⟨?_,?_⟩
    ·have hlt:q<l.size:=by omega
     unfold dn at hd;rw[Bck,Bce hlt,Ccg]at hd ⊢;exact hd
    ·rw[ho,Bcn,Ccg,<- Array.all_toList,Ac6]
     intro e he
     cases hb:Region.binds .any e with
     |false=>rfl
     | true =>
      have hlt:=a0f q _ (by rw[Bc1];exact ho) e he hb;have:=ih e.on hlt (by omega);simpa[dn] using this
   rw[h]at this;simp at this
theorem Wah {l:Array Bool}{i:Nat}(hi:i<l.size)(q:Nat):dn (l.setIfInBounds i true) q=(decide (q=i)||dn l q):=by
 unfold dn;rw[Bck,Bck,Array.getElem?_setIfInBounds];by_cases h:i=q
 ·subst h
  simp[hi]
 ·rw[if_neg h]
  have:(decide (q=i):Bool)=false:=by simp;exact fun e=>h e.symm
  rw[this,Dcg]
theorem Hbb (hti:vZ P E.ti)(cI:Ban P E F cf){ops:Array Oper}{s:St}{is:List OpI}{ρ:List D}(hd:Jbc E ops cf ρ s is){Q:Exit->Act->World->Prop}
  (hQ:∀ a' w' G',R E.ntmps F (sig (fun _=>true) 0 is s.get) ρ a' w' G'->Q .normal a' w') :
  ∀ (fuel:Nat) (l:Array Bool) (a:Act) (w:World) (G:Gh),l.size=ops.size->l.toList.count false<=fuel->Closed ops l->R E.ntmps F (sig (dn l) 0 is s.get) ρ a w G ->
  wpAny P .any ops Q fuel l a w:=by
 have xf:∀ (l:Array Bool) (a:Act) (w:World) (G:Gh),l.size=ops.size->R E.ntmps F (sig (dn l) 0 is s.get) ρ a w G->Region.ready .any ops l=[]->Q .normal a w:=by
  intro l a w G hl hR hr;have cT:=ready_nil hl hd.low hr;refine hQ a w G ?_
  have:sig (fun _=>true) 0 is s.get=sig (dn l) 0 is s.get:=by
   funext k;refine Ba0 (fun p a hp _=>?_) rfl;have hlt:=(Zb7.1 hp).1;rw[hd.len]at hlt;rw[cT _ (by omega)]
  rw[this];exact hR
 intro fuel
 induction fuel with
 | zero =>
  intro l a w G hl ru ir hR
  have fk:Region.ready .any ops l=[]:=by
   cases hr:Region.ready .any ops l with
   |nil=>rfl
   | cons i r =>
    exfalso;obtain⟨o,h1,h2,h3⟩:=Laq hl (by rw[hr];exact Acs:i∈Region.ready .any ops l);rw[<- Bc1]at h2;have:=Uad h2;omega
  exact⟨fk,xf l a w G hl hR fk⟩
 | succ fuel ih =>
  intro l a w G hl ru ir hR;refine⟨xf l a w G hl hR,fun i hi=>?_⟩;obtain⟨o,ho,zx,tR⟩:=Laq hl hi;have hoL:ops.toList[i]?=some o:=by rw[Bc1];exact ho
  have lO:i<l.size:=by
   rw[<- Bc1]at zx;have:=(Zb7.1 zx).1;simpa using this
  obtain⟨ai,hai,je⟩:=hd.at_ i o hoL;obtain⟨mv,dv,nv,bj,ba⟩:=je.run
  have u4:dn l i=false:=by
   unfold dn;rw[Bck,zx];rfl
  have xF:∀ w p,(waits ops.toList [])[i]?=some w->Cc9 w p=true->dn l p=true:=by
   intro w' p hw hb;obtain⟨e,he,hbe,h1⟩:=Oa5 (acc:=[]) (p:=i) hoL (by simpa using hw) p hb
   rcases h1 with h1|⟨w'',h1,h2⟩
   ·rw[h1];exact tR e he hbe
   ·exact ir e.on w'' p (tR e he hbe) h1 h2
  have oq:∀ p b,p<i->is[p]?=some b->dn l p=false->rJ b ai=true:=by
   intro p b hpi hb q9
   rcases hd.free p i b ai hpi hb hai with ⟨w',h1,h2⟩|h
   ·rw[xF w' p h1 h2]at q9;cases q9
   ·exact h
  have lP:∀ q b,i<q->is[q]?=some b->dn l q=true->rJ ai b=true:=by
   intro q b hiq hb y3
   rcases hd.free i q ai b hiq hai hb with ⟨w',h1,h2⟩|h
   ·rw[ir q w' i y3 h1 h2]at u4;cases u4
   ·exact h
  have a2b:∀ k∈ai.log,sig (dn l) 0 is s.get k=sig (fun q=>decide (q<0+i)) 0 is s.get k:=by
   intro k hk;refine Ba0 (fun p b hb hw=>?_) rfl;rw[Bcb,Bcb]
   rcases Dcu p i with h|h|h
   ·have e:(decide (p<i):Bool)=true:=by simpa using h
    rw[e]
    cases hdp:dn l p with
    |true=>rfl
    |false=>exact absurd hk ((apart_spec (oq p b h hb hdp)).1 k hw)
   ·subst h
    rw[u4];simp
   ·have e:(decide (p<i):Bool)=false:=by simp;omega
    rw[e]
    cases hdp:dn l p with
    |false=>rfl
    |true=>exact absurd hw ((apart_spec (lP p b h hb hdp)).2.2.1 k hk)
  have xe:=RdM.run_eval (RdM.run_same bj a2b)
  have ll:∀ (p:Nat) (b:OpI),is[p]?=some b->∃ nv' ,b.res.upd.all (fun x=>zS E.ntmps (s.nb+p) (s.nr+cB*p) x.1)=true/\nv'=nv:=by
   intro p b hb;have hlt:=(Zb7.1 hb).1
   have kr:ops.toList[p]?=some ops.toList[p]!:=by
    rw[List.getElem!_eq_getElem?_getD,Acb (by simpa[<- hd.len] using hlt)];rfl
   obtain⟨b',di,zg⟩:=hd.at_ p _ kr;rw[hb]at di;obtain rfl:=Ac9 di;obtain⟨mv',a3i,nv',hr',-⟩:=zg.run;have:=(jY (RdM.run_eval hr')).2.2.2;rw[zg.nb,zg.nr]at this;exact⟨nv,this,rfl⟩
  have qw:Dax (sig (dn l) 0 is s.get) ai.nb ai.nr:=by
   have hf:=Rad (s:=s);refine⟨?_,fun j hj1 jo=>?_⟩
   ·rw[wJ fun p b hb hw=>?_]
    ·rw[je.nb]
     unfold St.get vW kB;have e:(3*(s.nb+i)+1) % 3=1:=by omega
     have e2:(3*(s.nb+i)+1) / 3=s.nb+i:=by omega
     rw[e,e2]
     have:Bcx (s.nb+i) s.nb=false:=by
      cases hb:Bcx (s.nb+i) s.nb with
      |false=>rfl
      |true=>simp only[Bch]at hb;omega
     rw[this];rfl
    ·rw[Bcb]
     obtain⟨_,hk,-⟩:=ll p b hb;have h1:=Ab2 (Va3 hk hw);rw[je.nb]at h1
     rcases Dcu p i with h|h|h
     ·omega
     ·rw[h];exact u4
     ·cases hdp:dn l p with
      |false=>rfl
      | true =>
       have:=(apart_spec (lP p b h hb hdp)).2.2.2 _ hw;unfold Na7 at this;rw[Qax]at this;have e2:kB ai.nb / 3=ai.nb:=by unfold kB;omega
       rw[e2]at this;simp at this
   ·rw[wJ fun p b hb hw=>?_]
    ·unfold St.get vW kR
     have e:(3*j+2) % 3=2:=by omega
     have e2:(3*j+2) / 3=j:=by omega
     rw[e,e2]
     have:Bcx j s.nr=false:=by
      cases hb:Bcx j s.nr with
      |false=>rfl
      |true=>simp only[Bch]at hb;rw[je.nr]at hj1;omega
     rw[this];rfl
    ·rw[Bcb]
     obtain⟨_,hk,-⟩:=ll p b hb;have h1:=Eal (Va3 hk hw)
     rcases Dcu p i with h|h|h
     ·rw[je.nr]at hj1
      have:cB*(p+1)<=cB*i:=Nat.mul_le_mul_left _ h;rw[Nat.mul_succ]at this;omega
     ·rw[h];exact u4
     ·cases hdp:dn l p with
      |false=>rfl
      | true =>
       have:=(apart_spec (lP p b h hb hdp)).2.2.2 _ hw;unfold Na7 at this;rw[Qaw]at this;have e2:kR j / 3=j:=by unfold kR;omega
       rw[e2]at this;have e3:Nat.ble ai.nr j=true:=by simpa using hj1
       have e4:Bcx j (ai.nr+cB)=true:=by simpa using jo
       rw[e3,e4]at this;simp at this
  have fb:Lbt P E F (sig (dn l) 0 is s.get) ρ ops o Q ai.res.upd a w:=by
   refine Bay hR hti hd.dst qw xe ba fun f args argTypes vz=>?_
   obtain⟨h2,h3,h4,h5⟩:=jY xe;rw[Lac vz]at h4;exact cI _ ρ a w G ai.g o Q mv dv nv _ _ ai.res f args argTypes hR h3 qw vz h4 h5 ba
  have a1l:sig (dn (l.setIfInBounds i true)) 0 is s.get=upds (sig (dn l) 0 is s.get) ai.res.upd:=by
   funext k;by_cases hw:Wr ai k
   ·refine Vac hai (by rw[Bcb,Wah lO];simp) hw fun q b hiq hb zt=>?_
    rw[Bcb,Wah lO];have e:(decide (q=i):Bool)=false:=by simp;omega
    rw[e,Dcg]
    cases y3:dn l q with
    |false=>rfl
    |true=>exact absurd zt ((apart_spec (lP q b hiq hb y3)).2.1 k hw)
   ·rw[Ma1 hw]
    refine Ba0 (fun p b hb zt=>?_) rfl;rw[Bcb,Wah lO]
    have e:(decide (p=i):Bool)=false:=by
     simp;intro e;subst e;rw[hai]at hb;obtain rfl:=Ac9 hb;exact hw zt
    rw[e,Dcg]
  have a6g:Closed ops (l.setIfInBounds i true):=by
   intro q w' p y3 hw hb;rw[Wah lO]at y3 ⊢;by_cases e:q=i
   ·subst e
    rw[xF w' p hw hb,Dcx]
   ·have e':(decide (q=i):Bool)=false:=by simp[e]
    rw[e',Dcg]at y3;rw[ir q w' p y3 hw hb,Dcx]
  have xk:∀ a w,Nx E.ntmps F (sig (dn l) 0 is s.get) ρ ai.res.upd a w->wpAny P .any ops Q fuel (l.setIfInBounds i true) a w:=by
   intro a' w' ⟨G',ja⟩;rw[<- a1l]at ja;refine ih _ a' w' G' (by simp[hl]) ?_ a6g ja;rw[Array.toList_setIfInBounds];rw[<- Bc1]at zx;have:=Uad zx;omega
  unfold wpOp;rw[ho];unfold Lbt at fb;dsimp only;split
  ·rename_i hw
   rw[if_pos hw]at fb;exact .inl (Oper.wp_mono xk fb)
  ·rename_i hw
   rw[if_neg hw]at fb;exact xk _ _ fb
end
section
variable {P:Program} {E:Env} {F:bK} {cf:Nat->List D->Option (List D)} {n:Nat} {σ:Nat->Option aS} {ρ:List D} {a:Act} {w:World} {G:Gh}
theorem R.world {w':World}(h:R n F σ ρ a w G)(hh:w'.heap=w.heap)(ho:w'.os=w.os)(ht:w'.tape=w.tape)(hp:w'.output=w.output):R n F σ ρ a w' G:=by
 have ew:Fr σ G w (upds σ []) G w':=by
  refine⟨fun b hb _=>⟨hb,by rw[hh]⟩,fun r k _ h=>h,fun r k h=>h,fun r k b p _ _ h=>⟨.inl h,by rw[hh]⟩,fun r k m _ h=>⟨h,fun b p h=>h⟩,fun _ _=>rfl,fun _ _=>rfl,fun k h=>h,fun _ _ _ _ _ _ _ h=>h⟩
 exact h.upd [] ew h.tmps h.defers ⟨ho.trans h.frame.os,ht.trans h.frame.tape,hp.trans h.frame.output,by rw[hh];exact h.frame.size,
  fun b hb hf=>by rw[hh];exact h.frame.keep b hb hf,fun b j hb hj=>by rw[hh];exact h.frame.boxes b j hb hj,fun b hb=>h.frame.fresh b (by rw[<- hh];exact hb)⟩
  (fun t _=>rfl) (fun b ro ls _ _=>⟨rfl,by rw[hh]⟩) (fun b ls hb=>by simp at hb) (fun k c hk=>by simp at hk)
theorem Pax (hti:vZ P E.ti)(cI:Ban P E F cf)(hm:P.follows .mixedOrders=true){kq:Nat}{ops:Array Oper}{draw:Bool}{s:St}{o:Out St}
  (h:Ec cf (Ma2 E false kq ops.toList draw s) ρ=some o) (hl:ρ.length=s.nv) (hi:Daw E s) :
  (o.kind=.fall/\o.env.length=o.ext.nv/\Daw E o.ext/\∃ ds,o.env=ρ++ds) /\
  ∀ a w G Q,R E.ntmps F s.get ρ a w G->(∀ a' w' G',R E.ntmps F o.ext.get o.env a' w' G'->Q .normal a' w')->(Code.region kq ops draw).wp P Q a w:=by
 unfold Ma2 at h;split at h
 case h_2=>simp only[cond_false,jM]at h;cases h
 rename_i is s' a5c;obtain⟨js,hjs,hc⟩:=Haq a5c;simp only[List.reverse_nil,Bco]at hjs;subst hjs;have oB:=Cbu hc
 cases hb:(!draw||(Dah ops.toList 0&&wV is (waits ops.toList []) 0)) with
 |false=>rw[hb]at h;simp only[cond_false,jM]at h;cases h
 | true =>
  rw[hb,cond_true]at h;obtain⟨h1,h2,h3,⟨ds,h4⟩,h5⟩:=Xad hc yM.1 hl h;have um:=h5 [];rw[Ac4]at um;refine⟨⟨h1,by rw[h2,yM.1];exact h3,by rw[h2];exact (Cbt hc hi).trim,ds,h4⟩,fun a w G Q hR hQ=>?_⟩;rw[h2,Oa8]at hQ;have ja:R E.ntmps F s.get o.env a w G:=by rw[h4];exact hR.ext hi.sc (by omega) ds
  cases draw with
  | false =>
   refine wp_region ?_;rw[List.range_eq_range'];have:=Cbs hti cI (ops:=ops) oB hc (by simp) ja hi um hQ;simpa using this
  | true =>
   simp only[Dcf,Dcg,Zb5]at hb;obtain⟨hlen,vf,je⟩:=Hbw (ρ:=o.env) (cf:=cf) hc hi um;have a1p:is.length=ops.size:=by rw[hlen];simp
   have hd:Jbc E ops cf o.env s is:=by
    refine⟨a1p,je,fun p q x y hpq hp hq=>?_,fun p o' hp e he hbe=>?_,oB⟩
    ·obtain⟨w',h6,h7⟩:=Cai hb.2 hpq hp hq
     rw[Bcb]at h7;exact h7.imp (fun h7=>⟨w',h6,h7⟩) id
    ·have:=Fa5 hb.1 hp e he hbe
     omega
   refine wp_region_any hm ?_;refine Hbb hti cI hd (fun a' w' G' tf=>hQ a' w' G' (by rw[vf];exact tf)) ops.size _ a _ G (by simp) ?_ ?_ ?_
   ·simp only[Array.toList_replicate,List.count_replicate_self,Acn]
   ·intro q w' p hq
    unfold dn at hq;rw[Bck,Array.getElem?_replicate]at hq;split at hq<;>simp at hq
   ·rw[Vab fun q _=>by
     unfold dn;rw[Bck,Array.getElem?_replicate];split<;>rfl]
    exact ja.world rfl rfl rfl rfl
end
theorem Caz {s:St}{k:Nat}{c:aS}(h:s.get k=some c):vW s.nt s.nb s.nr k=true:=by
 unfold St.get at h
 cases e:vW s.nt s.nb s.nr k with
 |true=>rfl
 |false=>rw[e]at h;cases h
theorem Qav {nt nb nr r:Nat}(h:r<nr):vW nt nb nr (kR r)=true:=by
 unfold vW;rw[Qaw];have:kR r / 3=r:=by unfold kR;omega
 rw[this];simpa using h
theorem yY {s:St}{u:List (Nat×aS)}(h:∀ k c,(k,c)∈u->vW s.nt s.nb s.nr k=true):(s.puts u).get=upds s.get u:=by
 funext k;obtain⟨e1,e2,e3,e4⟩:=jD u s;unfold St.get;rw[e2,e3,e4,Nal];by_cases hm:∃ c,(k,c)∈u
 ·obtain⟨c,hc⟩:=hm
  rw[h k c hc,cond_true];exact Gap _ _ _ _ ⟨c,hc⟩
 ·have hn:∀ c,(k,c)∉u:=fun c hc=>hm ⟨c,hc⟩
  rw[fA _ _ _ hn,fA _ _ _ hn]
def La9 (σ:Nat->Option aS)(k j:Nat):Option aR :=
 match σ k with
 |some (.slot none (.one a))=>if j=0 then some a else none
 |some (.slot none (.agg ls))=>ls[j]?
 |some (.box _ ls)=>ls[j]?
 |_=>none
theorem Abt {k j:Nat}{s:St}:xD k j s=(La9 s.get k j).getD .dead:=by
 unfold xD La9;split
 ·rename_i v hk
  rw[hk]
  cases v with
  |dead=>simp[tZ]
  | one a =>
   simp only[tZ]
   cases j with
   |zero=>rfl
   |succ j=>simp
  |agg ls=>simp[tZ,Acg]
  |tup ts=>simp[tZ]
 ·rename_i ro ls hk
  rw[hk];simp[Acg]
 ·rename_i h1 h2
  cases hs:s.get k with
  |none=>rfl
  | some c =>
   cases c with
   | slot g v =>
    cases g with
    |none=>exact absurd hs (h1 v)
    |some g=>rfl
   |box ro ls=>exact absurd hs (h2 ro ls)
   |root=>rfl
theorem jR {k j:Nat}{s:St}{l:aR}(h:xD k j s=l)(hl:l≠.dead):La9 s.get k j=some l:=by
 rw[Abt]at h
 cases e:La9 s.get k j with
 |none=>rw[e]at h;exact absurd h.symm hl
 |some l'=>rw[e,Ccg]at h;rw[h]
section
variable {E:Env} {F:bK} {n:Nat} {σ:Nat->Option aS} {ρ:List D} {a:Act} {w:World} {G G':Gh}
inductive ValAt (n:Nat) (gh:Nat->Value) (a:Act) (w:World) (bx:Nat->Addr):aS->Nat->Nat->Value->Prop
 |one (t:Nat) (l:aR):ValAt n gh a w bx (.slot none (.one l)) (kT t) 0 (Bao n a gh t)
 |agg (t:Nat) (ls:List aR) (vs:List Value) (j:Nat) (v:Value) (h:Bao n a gh t=.agg vs.toArray) (hv:vs[j]?=some v):ValAt n gh a w bx (.slot none (.agg ls)) (kT t) j v
 |box (b j:Nat) (ro:Bool) (ls:List aR) (v:Value) (h:w.cell? ((bx b).add j)=some v):ValAt n gh a w bx (.box ro ls) (kB b) j v
theorem R.valAt (h:R n F σ ρ a w G){k j:Nat}{l:aR}(hl:La9 σ k j=some l):∃ v c,σ k=some c/\ValAt n F.gh a w G.bx c k j v/\aB σ ρ G w l v:=by
 unfold La9 at hl;split at hl
 ·rename_i l' hk
  obtain⟨t,rfl,h1⟩:=h.cont _ _ hk;split at hl
  ·rename_i hj
   subst hj;obtain rfl:=Ac9 hl;exact⟨_,_,hk,.one t l',h1 rfl⟩
  ·cases hl
 ·rename_i ls hk
  obtain⟨t,rfl,h1⟩:=h.cont _ _ hk;obtain⟨vs,h2,h3⟩:dB σ ρ G w (.agg ls) _:=h1 rfl;obtain⟨v,h4,h5⟩:=h3.get hl;exact⟨v,_,hk,.agg t ls vs j v h2 h4,h5⟩
 ·rename_i ro ls hk
  obtain⟨b,rfl,h1,h2,h3⟩:=h.cont _ _ hk;obtain⟨v,h4,h5,h6⟩:=h3 j l hl;exact⟨v,_,hk,.box b j ro ls v h4,h6⟩
 ·cases hl
theorem Fr.nonroot (σ:Nat->Option aS)(G:Gh)(w:World)(u:List (Nat×aS))(hu:∀ k c,(k,c)∈u->∀ r,k≠kR r):Fr σ G w (upds σ u) G w:=by
 have hr:∀ r,upds σ u (kR r)=σ (kR r):=fun r=>fA _ _ _ fun c hc=>hu _ _ hc r rfl
 refine⟨fun b h _=>⟨h,rfl⟩,fun r k _ h=>?_,fun r k h=>?_,fun r k b p _ _ h=>⟨.inl h,rfl⟩,fun r k m _ h=>⟨?_,fun b p h=>h⟩,fun _ _=>rfl,fun _ _=>rfl,fun k h=>eG _ _ _ (.inl h),fun _ _ _ _ _ _ _ h=>h⟩
 ·obtain⟨x,m,st,e,h⟩:=h
  exact⟨x,m,st,by rw[<- hr];exact e,h⟩
 ·obtain⟨x,m,bc,st,e,h⟩:=h
  exact⟨x,m,bc,st,by rw[hr];exact e,h⟩
 ·obtain⟨x,e⟩:=h
  exact⟨x,by rw[<- hr];exact e⟩
theorem Gaf {α:Type}{x y:List α}(h:x.toArray=y.toArray):x=y:=by
 have:=congrArg Array.toList h;simpa using this
structure Ibe (s s':St):Prop where
 nr:s'.nr=s.nr
 nt:s'.nt=s.nt
 root:∀ r,s'.get (kR r)=s.get (kR r)
theorem R.putAt {s:St}(h:R n F s.get ρ a w G){k j:Nat}{l:aR}{c0:aS}(hk:s.get k=some c0){v:Value}(hv:ValAt n F.gh a w G.bx c0 k j v)(hl:aB s.get ρ G w l v) :
  R n F (Go.Proofs.YtcbkmmhkccnamaaGreat.Rf.putAt k j l s).get ρ a w G/\Ibe s (Go.Proofs.YtcbkmmhkccnamaaGreat.Rf.putAt k j l s)/\(Go.Proofs.YtcbkmmhkccnamaaGreat.Rf.putAt k j l s).nv=s.nv:=by
 have mS:∀ c,Wba j l c0=some c->(∀ r,k≠kR r)->(∃ t,(k=kT t/\∃ sv,c=.slot none sv/\dB (upds s.get [(k,c)]) ρ G w sv (Bao n a F.gh t))\/(k=kB t/\∃ ro ls,c=.box ro ls/\Mav (upds s.get [(k,c)]) ρ G w t ro ls))->(∀ b ls,k=kB b->c=.box false ls->∃ ju,c0=.box false ju/\ls.length=ju.length) ->
   R n F (Go.Proofs.YtcbkmmhkccnamaaGreat.Rf.putAt k j l s).get ρ a w G/\Ibe s (Go.Proofs.YtcbkmmhkccnamaaGreat.Rf.putAt k j l s)/\(Go.Proofs.YtcbkmmhkccnamaaGreat.Rf.putAt k j l s).nv=s.nv:=by
  intro c hc mh hcr hbl
  have e:Go.Proofs.YtcbkmmhkccnamaaGreat.Rf.putAt k j l s=s.puts [(k,c)]:=by
   unfold Go.Proofs.YtcbkmmhkccnamaaGreat.Rf.putAt;rw[hk,Acf,hc];rfl
  have hg:(s.puts [(k,c)]).get=upds s.get [(k,c)]:=yY fun k' c' hm=>by
   simp only[Zb9,Ac0]at hm;rw[hm.1];exact Caz hk
  obtain⟨e1,e2,e3,e4⟩:=jD [(k,c)] s
  have da:∀ k' c',(k',c')∈[(k,c)]->k'=k/\c'=c:=by
   intro k' c' hm;simpa using hm
  rw[e];refine⟨?_,⟨e3,e4,fun r=>?_⟩,e1⟩
  ·rw[hg]
   have ew:=Fr.nonroot s.get G w [(k,c)] fun k' c' hm r=>by rw[(da _ _ hm).1];exact mh r
   refine h.upd _ ew h.tmps h.defers h.frame (fun _ _=>rfl) (fun _ _ _ _ _=>⟨rfl,rfl⟩) (fun b ls hm hb ho=>?_) (fun k' c' hm _=>?_)
   ·obtain⟨e5,e6⟩:=da _ _ hm
    obtain⟨ju,h1,h2⟩:=hbl b ls e5.symm e6.symm;rw[h1]at hk;rw[h2];exact h.rng b ju (by rw[e5];exact hk) hb ho
   ·obtain⟨rfl,rfl⟩:=da _ _ hm
    obtain⟨t,⟨e7,sv,e8,h8⟩|⟨e7,ro,ls,e8,h8⟩⟩:=hcr
    ·subst e8
     exact⟨t,e7,fun _=>h8⟩
    ·subst e8
     exact⟨t,e7,h8⟩
  ·rw[hg]
   exact fA _ _ _ fun c' hm=>mh r (da _ _ hm).1.symm
 have ew:∀ c,(∀ r,k≠kR r)->Fr s.get G w (upds s.get [(k,c)]) G w:=fun c mh=>Fr.nonroot s.get G w [(k,c)] fun k' c' hm r=>by
  simp only[Zb9,Ac0]at hm;rw[hm.1];exact mh r
 cases hv with
 | one t l0 =>
  exact mS (.slot none (.one l)) rfl (fun r=>iW) ⟨t,.inl ⟨rfl,_,rfl,aB.mono (ew _ fun r=>iW) l _ hl⟩⟩ (fun b ls e=>absurd e lX)
 | agg t ls vs _ _ h2 hvj =>
  have h1:=h.slot hk rfl;obtain⟨td,u6,h3⟩:dB s.get ρ G w (.agg ls) _:=h1;rw[h2]at u6
  injection u6 with e
  have e:=Gaf e;subst e;have hf:=ew (.slot none (.agg (ls.set j l))) fun r=>iW
  refine mS (.slot none (.agg (ls.set j l))) rfl (fun r=>iW) ⟨t,.inl ⟨rfl,_,rfl,vs,h2,?_⟩⟩ (fun b ls e=>absurd e lX);refine aG.of_get (by simp[h3.len]) fun i l' v' hi yW=>?_
  rw[Ccq]at hi;split at hi
  ·rename_i si
   subst si;split at hi
   ·obtain rfl:=Ac9 hi
    rw[yW]at hvj;obtain rfl:=Ac9 hvj;exact aB.mono hf _ _ hl
   ·cases hi
  ·obtain⟨u,hu,tn⟩:=h3.get hi
   rw[yW]at hu;obtain rfl:=Ac9 hu;exact aB.mono hf _ _ tn
 | box b _ ro ls _ hb =>
  obtain⟨h1,h2,h3⟩:=h.box hk;have hf:=ew (.box ro (ls.set j l)) fun r=>fH
  refine mS (.box ro (ls.set j l)) rfl (fun r=>fH) ⟨b,.inr ⟨rfl,_,_,rfl,h1,h2,fun i l' hi=>?_⟩⟩ (fun b' ke e e'=>?_)
  ·rw[Ccq]at hi
   split at hi
   ·rename_i si
    subst si;split at hi
    ·rename_i hlt
     obtain rfl:=Ac9 hi;obtain⟨v0,h4,h5,h6⟩:=h3 _ _ (Acb hlt);rw[h4]at hb;obtain rfl:=Ac9 hb;exact⟨v0,h4,h5,aB.mono hf _ _ hl⟩
    ·cases hi
   ·obtain⟨u,h4,h5,h6⟩:=h3 i l' hi
    exact⟨u,h4,h5,aB.mono hf _ _ h6⟩
  ·injection e' with e1 e2
   subst e1 e2;exact⟨ls,rfl,by simp⟩
end
section
variable {E:Env} {F:bK} {σ:Nat->Option aS} {ρ:List D} {a:Act} {w:World} {G G':Gh}
def Wbc:Oper:={ (default:Oper) with dst:=none }
theorem R.roots (h:R E.ntmps F σ ρ a w G){ur:List (Nat×aS)}{f:Nat->List Nat->Ow}
  (hu:∀ k c,(k,c)∈ur->∃ r,k=kR r) (a6:∀ b,G'.own b=nC f (G.own b))
  (hun:∀ b r p,G.own b=.slc r p->(∀ c,(kR r,c)∉ur)->f r p=.slc r p)
  (zu:∀ r c,(kR r,c)∈ur->upds σ ur (kR r)=some c->Chg σ G w G' w r c)
  (pj:∀ r x m k,σ (kR r)=some (.root x m k .frozen)->∀ s p q,f s p=.slc r q->s=r/\p=q)
  (uf:∀ r,(σ (kR r)).isSome->G'.hdr r=G.hdr r) (gl:G'.bx=G.bx)
  (eW:∀ r c,(kR r,c)∈ur->upds σ ur (kR r)=some c->∃ x m bc st,c=.root x m bc st/\bV (upds σ ur) ρ G' w r x m st):R E.ntmps F (upds σ ur) ρ a w G':=by
 have h0:dY Wbc none .dead=[]:=rfl
 have:=h.own (o:=Wbc) (g:=none) (sv:=.dead) (v:=undef) (ur:=ur) (f:=f) (wr:=fun _=>False) (G':=G') (w':=w) (fun d hd=>by cases hd) hu (fun b _=>a6 b)
  (fun b hb=>by rw[a6,h.frame.fresh b hb];rfl) ⟨rfl,rfl,rfl,Acn _⟩ (fun b hb=>.inl (by rw[a6,h.frame.fresh b hb];rfl)) (fun _ _ _=>rfl) (fun b hb=>hb.elim) hun
  (by rw[h0,Bco];exact zu) pj uf gl (fun _ _=>trivial) (by rw[h0,Bco];exact fun _=>eW)
 rw[h0,Bco]at this;exact this
def mvF (r rN m:Nat)(s:Nat)(p:List Nat):Ow:=if s=r then (if p.length<m then .slc rN p else .frz) else .slc s p
theorem R.moveRoot (h:R E.ntmps F σ ρ a w G){r rN m m' v:Nat}{x x0:aM}(hr:σ (kR r)=some (.root x0 m' v .live))(hN:σ (kR rN)=none)(hm:m<=m'){u:Value}
  (fp:Rp G.own w r [] m' u (x.val ρ)) {st:RSt} (ba:st=.gone\/(st=.fwd rN/\u=G.hdr r)) :
  ∃ G',R E.ntmps F (upds σ [(kR r,.root (.c .hole) 0 0 st),(kR rN,.root x m 0 .live)]) ρ a w G'/\G'.hdr rN=u/\G'.bx=G.bx:=by
 have cJ:r≠rN:=fun e=>by rw[e,hN]at hr;cases hr
 let G':Gh:={ own:=fun b=>nC (mvF r rN m) (G.own b),hdr:=fun s=>if s=rN then u else G.hdr s,bx:=G.bx }
 have e1:upds σ [(kR r,aS.root (.c .hole) 0 0 st),(kR rN,.root x m 0 .live)] (kR r)=some (.root (.c .hole) 0 0 st):=by
  simp only[upds,Vad];rw[if_neg fun e=>cJ (fC e)];simp
 have e2:upds σ [(kR r,aS.root (.c .hole) 0 0 st),(kR rN,.root x m 0 .live)] (kR rN)=some (.root x m 0 .live):=by
  simp[upds,Vad]
 have da:∀ s c,(kR s,c)∈[(kR r,aS.root (.c .hole) 0 0 st),(kR rN,.root x m 0 .live)]->s=r\/s=rN:=by
  intro s c hc;simp only[Acj,Ac0,Bc7,or_false]at hc;exact hc.imp (fun e=>fC e.1) (fun e=>fC e.1)
 refine⟨G',h.roots (f:=mvF r rN m) ?_ (fun b=>rfl) ?_ ?_ ?_ ?_ rfl ?_,by simp[G'],rfl⟩
 ·intro k c hc
  simp only[Acj,Ac0,Bc7,or_false]at hc
  rcases hc with ⟨e,-⟩|⟨e,-⟩<;>exact⟨_,e⟩
 ·intro b s p hb hn
  unfold mvF;rw[if_neg fun e=>hn _ (by rw[e];exact Acs)]
 ·intro s c hc gj
  rcases da s c hc with rfl|rfl
  ·rw[e1]at gj
   obtain rfl:=Ac9 gj;refine .inr (.inr (.inl ⟨_,_,_,_,rfl,?_,?_⟩))<;>rcases ba with e|⟨e,-⟩<;>rw[e]<;>simp
  ·rw[e2]at gj
   obtain rfl:=Ac9 gj;exact .inl ⟨hN,_,_,_,_,rfl⟩
 ·intro r0 x1 m1 k1 hk s p q hf
  unfold mvF at hf;split at hf
  ·split at hf
   ·injection hf with f1 f2
    rw[<- f1,hN]at hk;cases hk
   ·cases hf
  ·injection hf with f1 f2
   exact⟨f1,f2⟩
 ·intro s hs
  show (if s=rN then u else G.hdr s)=_
  rw[if_neg];intro e;rw[e,hN]at hs;cases hs
 ·intro s c hc gj
  rcases da s c hc with rfl|rfl
  ·rw[e1]at gj
   obtain rfl:=Ac9 gj;refine⟨_,_,_,_,rfl,?_⟩
   rcases ba with e|⟨e,hu⟩
   ·subst e;trivial
   ·subst e
    refine⟨?_,by rw[e2];rfl⟩;show (if s=rN then u else G.hdr s)=(if rN=rN then u else G.hdr rN)
    rw[if_neg cJ,if_pos rfl,hu]
  ·rw[e2]at gj
   obtain rfl:=Ac9 gj;refine⟨_,_,_,_,rfl,?_⟩;show Rp G'.own w s [] m (if s=s then u else G.hdr s) (x.val ρ)
   rw[if_pos rfl]
   have hw:=fp.weaken (own':=fun b=>nC (fun s' p=>if s'=r then (if p.length<m then .slc r p else .frz) else .slc s' p) (G.own b)) (fun b hb=>by rw[hb];rfl) m hm (fun b t hb=>by
    rw[hb];simp only[nC,if_pos rfl,Bco]
    rfl)
   have:=hw.mono (own':=G'.own) (w':=w) (q:=[]) (q':=[]) (r':=s) (fun b hb=>⟨?_,rfl⟩) [] rfl (fun b t hb=>⟨?_,rfl⟩)
   ·simpa using this
   ·show nC _ (G.own b)=_
    cases e:G.own b with
    | slc s' p =>
     rw[e]at hb;simp only[nC]at hb ⊢;unfold mvF;split at hb
     ·rename_i kc
      rw[if_pos kc];split at hb
      ·cases hb
      ·rename_i hl;rw[if_neg hl]
     ·cases hb
    |_=>rw[e]at hb;simpa[nC] using hb
   ·show nC _ (G.own b)=_
    cases e:G.own b with
    | slc s' p =>
     rw[e]at hb;simp only[nC]at hb ⊢;unfold mvF;split at hb
     ·rename_i kc
      rw[if_pos kc];split at hb
      ·rename_i hl
       rw[if_pos hl]
       injection hb with f1 f2
       rw[f2]
      ·cases hb
     ·rename_i kc
      injection hb with f1 f2
      exact absurd f1 kc
    |_=>rw[e]at hb;simp[nC]at hb
theorem R.nilRoot (h:R E.ntmps F σ ρ a w G){rN m z:Nat}(hN:σ (kR rN)=none) :
  ∃ G',R E.ntmps F (upds σ [(kR rN,.root (.c (.rows z [])) m 0 .live)]) ρ a w G'/\G'.hdr rN=.slice none 0 0/\G'.bx=G.bx:=by
 let G':Gh:={ own:=G.own,hdr:=fun s=>if s=rN then .slice none 0 0 else G.hdr s,bx:=G.bx }
 have e2:upds σ [(kR rN,aS.root (.c (.rows z [])) m 0 .live)] (kR rN)=some (.root (.c (.rows z [])) m 0 .live):=by
  simp[upds,Vad]
 have da:∀ s c,(kR s,c)∈[(kR rN,aS.root (.c (.rows z [])) m 0 .live)]->s=rN:=by
  intro s c hc;simp only[Acj,Ac0,Bc7,or_false]at hc;exact fC hc.1
 refine⟨G',h.roots (f:=fun s p=>.slc s p) ?_ (fun b=>?_) (fun _ _ _ _ _=>rfl) ?_ (fun _ _ _ _ _ s p q hf=>?_) ?_ rfl ?_,by simp[G'],rfl⟩
 ·intro k c hc
  simp only[Acj,Ac0,Bc7,or_false]at hc;exact⟨_,hc.1⟩
 ·show G.own b=_
  cases G.own b<;>rfl
 ·intro s c hc gj
  obtain rfl:=da s c hc;rw[e2]at gj;obtain rfl:=Ac9 gj;exact .inl ⟨hN,_,_,_,_,rfl⟩
 ·injection hf with f1 f2
  exact⟨f1,f2⟩
 ·intro s hs
  show (if s=rN then _ else G.hdr s)=_
  rw[if_neg];intro e;rw[e,hN]at hs;cases hs
 ·intro s c hc gj
  obtain rfl:=da s c hc;rw[e2]at gj;obtain rfl:=Ac9 gj;refine⟨_,_,_,_,rfl,?_⟩;show Rp G.own w s [] m (if s=s then _ else G.hdr s) (.rows z [])
  rw[if_pos rfl]
  cases m with
  |zero=>exact .fz (.rows none ⟨0,0,none⟩ 0 0 z [] (fun _ _=>undef) rfl (Acn _) (.inl rfl) (by simp) (by simp) (by simp))
  |succ m=>exact .sl none ⟨0,0,none⟩ 0 0 z [] (fun _ _=>undef) rfl (Acn _) (.inr ⟨rfl,rfl⟩) (by simp) (fun e=>by cases e) (by simp) (by simp)
def fzF (rs:List Nat)(s:Nat)(p:List Nat):Ow:=if s∈rs then .frz else .slc s p
theorem R.freeze (h:R E.ntmps F σ ρ a w G){rs:List Nat}{fr:List (Nat×aS)}(ew:(dW rs).eval σ=some fr) :
  ∃ G',R E.ntmps F (upds σ fr) ρ a w G'/\(∀ b,G'.own b=nC (fzF rs) (G.own b))/\G'.hdr=G.hdr/\G'.bx=G.bx:=by
 obtain⟨h1,h2⟩:=gP ew
 let G':Gh:={ own:=fun b=>nC (fzF rs) (G.own b),hdr:=G.hdr,bx:=G.bx }
 have a7p:∀ b r p,G.own b=.slc r p->r∈rs->∃ c,(kR r,c)∈fr:=by
  intro b r p hb hr
  rcases h1 r hr with ⟨x,m,bc,-,h4⟩|⟨x,m,bc,h4⟩
  ·exact⟨_,h4⟩
  ·exact absurd hb ((h.root h4).2 b p)
 have du:∀ r c,(kR r,c)∈fr->∃ x m bc,c=.root x m bc .frozen/\σ (kR r)=some (.root x m bc .live)/\r∈rs:=by
  intro r c hc;obtain⟨s,hs,x,m,bc,e,e',h3⟩:=h2 _ _ hc;obtain rfl:=fC e;exact⟨x,m,bc,e',h3,hs⟩
 have zo:∀ r x m bc,σ (kR r)=some (.root x m bc .live)->r∈rs->Rd (fun b=>G'.own b=.frz) w (G.hdr r) (x.val ρ):=by
  intro r x m bc hk hr;have h3:=h.root hk;simp only[bV]at h3;refine h3.rd.mono fun b hb=>⟨?_,rfl⟩
  show nC _ _=_
  rcases hb with hb|⟨q,hb⟩
  ·rw[hb];rfl
  ·rw[hb];simp only[nC,fzF];rw[if_pos hr]
 refine⟨G',h.roots (f:=fzF rs) ?_ (fun b=>rfl) ?_ ?_ ?_ (fun _ _=>rfl) rfl ?_,fun b=>rfl,rfl,rfl⟩
 ·intro k c hc
  obtain⟨s,-,x,m,bc,e,-⟩:=h2 _ _ hc;exact⟨s,e⟩
 ·intro b r p hb hn
  unfold fzF;rw[if_neg];intro hr;obtain⟨c,hc⟩:=a7p b r p hb hr;exact hn c hc
 ·intro r c hc _
  obtain⟨x,m,bc,rfl,h3,h4⟩:=du r c hc;refine .inr (.inr (.inr ⟨x,m,bc,h3,rfl,fun b p hb=>⟨?_,rfl⟩⟩));show nC _ _=_
  rw[hb];simp only[nC,fzF];rw[if_pos h4]
 ·intro r x m k hk s p q hf
  unfold fzF at hf;split at hf
  ·cases hf
  ·injection hf with f1 f2
   exact⟨f1,f2⟩
 ·intro r c hc _
  obtain⟨x,m,bc,rfl,h3,h4⟩:=du r c hc;refine⟨_,_,_,_,rfl,zo r x m bc h3 h4,fun b p hb=>?_⟩;have hb:nC (fzF rs) (G.own b)=.slc r p:=hb
  cases e:G.own b with
  | slc s q =>
   rw[e]at hb;simp only[nC,fzF]at hb;split at hb
   ·cases hb
   ·rename_i hs
    injection hb with f1 f2
    rw[f1]at hs;exact hs h4
  |_=>rw[e]at hb;simp[nC]at hb
theorem yD {rs:List Nat}{deps:List (Nat×Nat)}(a6:∀ b,G'.own b=nC (fzF rs) (G.own b))(hd:∀ z∈deps,z.1∈rs){b:Nat}(hb:allow G deps b):allow G' [] b:=by
 refine .inl ?_;rw[a6]
 rcases hb with hb|⟨r,k,p,hm,hb⟩
 ·rw[hb];rfl
 ·rw[hb]
  simp only[nC,fzF];rw[if_pos (hd _ hm)]
theorem Jab {s:St}{rs:List Nat}{fr:List (Nat×aS)}(ew:(dW rs).eval s.get=some fr):∀ k c,(k,c)∈fr->vW s.nt s.nb s.nr k=true:=by
 intro k c hc;obtain⟨r,-,x,m,bc,rfl,-,h3⟩:=(gP ew).2 k c hc;exact Caz h3
end
structure RI (nr len i:Nat) (s:St):Prop where
 nr_:s.nr=nr+len
 free:∀ j,i<=j->j<len->s.get (kR (nr+j))=none
section
variable {E:Env} {F:bK} {ρ:List D} {a:Act} {w:World} {G:Gh} {cf:Nat->List D->Option (List D)} {nr len i:Nat} {s s':St}
theorem RI.succ (h:RI nr len i s):RI nr len (i+1) s:=⟨h.nr_,fun j h1 h2=>h.free j (by omega) h2⟩
theorem RI.keeps (h:RI nr len i s)(hk:Ibe s s'):RI nr len i s':=⟨hk.nr.trans h.nr_,fun j h1 h2=>by rw[hk.root];exact h.free j h1 h2⟩
theorem RI.puts (h:RI nr len i s){u:List (Nat×aS)}{i':Nat}(hi:i<=i')(hg:(s.puts u).get=upds s.get u)(hu:∀ j,i'<=j->j<len->∀ c,(kR (nr+j),c)∉u):RI nr len i' (s.puts u) :=
 ⟨(jD u s).2.2.1.trans h.nr_,fun j h1 h2=>by rw[hg,fA _ _ _ (hu j h1 h2)];exact h.free j (by omega) h2⟩
theorem Cac {u:List (Nat×aS)}{G':Gh}(hg:(s.puts u).get=upds s.get u)(ja:R E.ntmps F (upds s.get u) ρ a w G')(gl:G'.bx=G.bx){k j:Nat}{c0:aS}(hk:s.get k=some c0)
  {v:Value} (hv:ValAt E.ntmps F.gh a w G.bx c0 k j v) (hu:∀ c,(k,c)∉u) {l:aR} (hl:aB (upds s.get u) ρ G' w l v) :
  R E.ntmps F (putAt k j l (s.puts u)).get ρ a w G'/\Ibe (s.puts u) (putAt k j l (s.puts u))/\(putAt k j l (s.puts u)).nv=s.nv:=by
 rw[<- hg]at ja hl;have kb:(s.puts u).get k=some c0:=by rw[hg,fA _ _ _ hu];exact hk
 obtain⟨h1,h2,h3⟩:=ja.putAt kb (by rw[gl];exact hv) hl;exact⟨h1,h2,h3.trans (jD u s).1⟩
theorem yL {n:Nat}{gh:Nat->Value}{bx:Nat->Addr}{c0:aS}{k j:Nat}{v:Value}(h:ValAt n gh a w bx c0 k j v):∀ r,k≠kR r:=by
 intro r
 cases h with
 |one=>exact iW
 |agg=>exact iW
 |box=>exact fH
theorem wM (hR:R E.ntmps F s.get ρ a w G)(hI:RI nr len i s){rs:List Nat}{fr:List (Nat×aS)}(ew:(dW rs).eval s.get=some fr){k j:Nat}{c0:aS}(hk:s.get k=some c0)
  {v:Value} (hv:ValAt E.ntmps F.gh a w G.bx c0 k j v) {l:aR} (hl:∀ G' ej,(∀ b,G'.own b=nC (fzF rs) (G.own b))->aB ej ρ G' w l v) :
  (∃ G',R E.ntmps F (putAt k j l (s.puts fr)).get ρ a w G')/\RI nr len (i+1) (putAt k j l (s.puts fr))/\(putAt k j l (s.puts fr)).nt=s.nt/\(putAt k j l (s.puts fr)).nv=s.nv:=by
 obtain⟨G',ja,h1,h2,h3⟩:=hR.freeze ew;have hg:(s.puts fr).get=upds s.get fr:=yY (Jab ew);have hfk:=(gP ew).2
 obtain⟨h4,h5,h6⟩:=Cac hg ja h3 hk hv (fun c hc=>by
  obtain⟨r,-,x,m,bc,e,-⟩:=hfk _ _ hc;exact yL hv r e) (hl G' _ h1)
 refine⟨⟨G',h4⟩,RI.keeps (hI.succ.puts (Acn _) hg fun q kn jr c hc=>?_) h5,h5.nt.trans (jD fr s).2.2.2,h6⟩;obtain⟨r,-,x,m,bc,e,-,h7⟩:=hfk _ _ hc;rw[<- e,hI.free q (by omega) jr]at h7;cases h7
theorem Qac {p:Pos}{ls:List Step}{x:aM}(h:Nai E p nr i s=some (ls,s',x))(hI:RI nr len i s)(hi:i<len)(hR:R E.ntmps F s.get ρ a w G)(ba:aN cf ρ none s.nv ls) :
  (∃ G',R E.ntmps F s'.get ρ a w G')/\RI nr len (i+1) s'/\s'.nt=s.nt/\s'.nv=s.nv+bL ls:=by
 have sA:=hI.free i (Acn _) hi;have hkN:vW s.nt s.nb s.nr (kR (nr+i))=true:=Qav (by rw[hI.nr_];omega);unfold Nai at h;dsimp only at h;split at h
 ·
  simp only[Zb6,Ac0]at h;obtain⟨rfl,rfl,rfl⟩:=h;exact⟨⟨G,hR⟩,hI.succ,rfl,rfl⟩
 ·
  rename_i al r hf hl;split at h
  ·rename_i x0 m0 v0 r' hk
   cases hb:Nat.beq r' (nr+al) with
   |false=>rw[hb]at h;simp[kJ]at h
   | true =>
    rw[hb,cond_true]at h;simp only[Zb6,Ac0]at h;obtain⟨rfl,rfl,rfl⟩:=h;simp only[Ac8]at hb;obtain⟨v,c,oR,pa,iu⟩:=hR.valAt (jR hl (by simp));simp only[aB]at iu;have ve:=hR.root hk;simp only[bV]at ve
    obtain⟨h1,h2,h3⟩:=hR.putAt oR pa (l:=.ex (nr+al)) (by
     simp only[aB];rw[<- hb];exact⟨iu.1.trans ve.1,ve.2,iu.2.2⟩)
    exact⟨⟨G,h1⟩,(hI.keeps h2).succ,h2.nt,h3⟩
  ·simp[kJ]at h
 ·
  simp only[Zb6,Ac0]at h;obtain⟨rfl,rfl,rfl⟩:=h;exact⟨⟨G,hR⟩,hI.succ,rfl,rfl⟩
 ·
  rename_i m r hf hl;split at h
  ·rename_i x0 m' v0 hk
   cases hb:Nat.ble m m' with
   |false=>rw[hb]at h;simp[kJ]at h
   | true =>
    rw[hb,cond_true]at h;simp only[Zb6,Ac0]at h;obtain⟨rfl,rfl,rfl⟩:=h;simp only[Bcq]at hb;obtain⟨v,c,oR,pa,iu⟩:=hR.valAt (jR hl (by simp));simp only[aB]at iu;have ve:=hR.root hk;simp only[bV]at ve;obtain⟨G',ja,h1,h2⟩:=hR.moveRoot hk sA hb ve (.inr ⟨rfl,rfl⟩)
    have hg:=yY (s:=s) (u:=[(kR r,.root (.c .hole) 0 0 (.fwd (nr+i))),(kR (nr+i),.root x0 m 0 .live)]) (fun k c hc=>by
     simp only[Acj,Ac0,Bc7,or_false]at hc
     rcases hc with ⟨e,-⟩|⟨e,-⟩<;>rw[e]
     ·exact Caz hk
     ·exact hkN)
    obtain⟨h3,h4,h5⟩:=Cac (j:=p.j) hg ja h2 oR pa (fun c hc=>by
     simp only[Acj,Ac0,Bc7,or_false]at hc
     rcases hc with ⟨e,-⟩|⟨e,-⟩<;>exact yL pa _ e) (l:=.ex (nr+i)) (by
     simp only[aB];exact⟨by rw[h1];exact iu.1,eG _ _ _ (.inr ⟨.root x0 m 0 .live,by simp⟩),iu.2.2⟩)
    refine⟨⟨G',h3⟩,RI.keeps (hI.puts (Dcm i) hg fun q kn jr c hc=>?_) h4,h4.nt.trans (jD _ s).2.2.2,h5⟩;simp only[Acj,Ac0,Bc7,or_false]at hc
    rcases hc with ⟨e,-⟩|⟨e,-⟩
    ·rw[<- e,hI.free q (by omega) jr]at hk;cases hk
    ·have:=fC e;omega
  ·simp[kJ]at h
 ·
  rename_i m nie z hf hl;simp only[Zb6,Ac0]at h;obtain⟨rfl,rfl,rfl⟩:=h;obtain⟨v,c,oR,pa,iu⟩:=hR.valAt (jR hl (by simp));simp only[aB]at iu;have hv0:v=.slice none 0 0:=(iu.2 (by simp)).2.1 trivial z rfl;obtain⟨G',ja,h1,h2⟩:=hR.nilRoot (m:=m) (z:=z) sA
  have hg:=yY (s:=s) (u:=[(kR (nr+i),.root (.c (.rows z [])) m 0 .live)]) (fun k c hc=>by
   simp only[Acj,Ac0,Bc7,or_false]at hc;rw[hc.1];exact hkN)
  obtain⟨h3,h4,h5⟩:=Cac (j:=p.j) hg ja h2 oR pa (fun c hc=>by
   simp only[Acj,Ac0,Bc7,or_false]at hc
   exact yL pa _ hc.1) (l:=.ex (nr+i)) (by
   simp only[aB];exact⟨by rw[h1];exact hv0,eG _ _ _ (.inr ⟨.root (.c (.rows z [])) m 0 .live,by simp⟩),iu.1.1⟩)
  refine⟨⟨G',h3⟩,RI.keeps (hI.puts (Dcm i) hg fun q kn jr c hc=>?_) h4,h4.nt.trans (jD _ s).2.2.2,h5⟩;simp only[Acj,Ac0,Bc7,or_false]at hc;have:=fC hc.1;omega
 ·
  rename_i m r k nie x0 hf hl;split at h
  ·rename_i x1 m' v0 hk
   cases hb:(Nat.ble m m'&&Nat.beq v0 k) with
   |false=>rw[hb]at h;simp[kJ]at h
   | true =>
    rw[hb,cond_true]at h;simp only[Zb6,Ac0]at h;obtain⟨rfl,rfl,rfl⟩:=h;simp only[Zb5,Bcq,Ac8]at hb;obtain⟨hb,rfl⟩:=hb;obtain⟨v,c,oR,pa,iu⟩:=hR.valAt (jR hl (by simp));simp only[aB]at iu
    obtain⟨-,-,h0⟩:=iu.2 fun z hz=>by
     simp only[Zb9]at hz;subst hz;exact⟨x1,m',.live,hk,.inl rfl⟩
    have fp:=h0 r v0 m' rfl ⟨x1,hk⟩;obtain⟨G',ja,h1,h2⟩:=hR.moveRoot hk sA hb fp (.inl rfl)
    have hg:=yY (s:=s) (u:=[(kR r,.root (.c .hole) 0 0 .gone),(kR (nr+i),.root x0 m 0 .live)]) (fun k c hc=>by
     simp only[Acj,Ac0,Bc7,or_false]at hc
     rcases hc with ⟨e,-⟩|⟨e,-⟩<;>rw[e]
     ·exact Caz hk
     ·exact hkN)
    obtain⟨h3,h4,h5⟩:=Cac (j:=p.j) hg ja h2 oR pa (fun c hc=>by
     simp only[Acj,Ac0,Bc7,or_false]at hc
     rcases hc with ⟨e,-⟩|⟨e,-⟩<;>exact yL pa _ e) (l:=.ex (nr+i)) (by
     simp only[aB];exact⟨h1.symm,eG _ _ _ (.inr ⟨.root x0 m 0 .live,by simp⟩),iu.1.1⟩)
    refine⟨⟨G',h3⟩,RI.keeps (hI.puts (Dcm i) hg fun q kn jr c hc=>?_) h4,h4.nt.trans (jD _ s).2.2.2,h5⟩;simp only[Acj,Ac0,Bc7,or_false]at hc
    rcases hc with ⟨e,-⟩|⟨e,-⟩
    ·rw[<- e,hI.free q (by omega) jr]at hk;cases hk
    ·have:=fC e;omega
  ·simp[kJ]at h
 ·
  rename_i hf;split at h
  ·rename_i x0 fr iw
   simp only[Zb6,Ac0]at h;obtain⟨rfl,rfl,rfl⟩:=h;simp only[aA,Zb4,aF,Zb6,Ac0]at iw;obtain⟨sl,h1,fr',h2,rfl,rfl⟩:=iw;obtain⟨v,c,oR,pa,iu⟩:=hR.valAt (jR (k:=p.k) (j:=p.j) rfl (by intro e;rw[e]at h1;cases h1));have hs:=dZ hR h1 iu;have lB:v.oneCell'=true:=iu.one (by cases fx:xD p.k p.j s<;>first|rfl|(rw[fx]at h1;cases h1));refine wM hR hI h2 oR pa fun G' ej a6=>?_
   simp only[aB];exact⟨⟨lB,by simp⟩,fun _=>⟨hs.rd.mono fun b hb=>⟨yD a6 (fun z hz=>Bcy hz) hb,rfl⟩,fun e=>absurd e (by decide),trivial⟩⟩
  ·simp[kJ]at h
 ·
  rename_i z hf hl;simp only[Zb6,Ac0]at h;obtain⟨rfl,rfl,rfl⟩:=h;obtain⟨v,c,oR,pa,iu⟩:=hR.valAt (jR hl (by simp));simp only[aB]at iu
  obtain⟨h1,h2,h3⟩:=hR.putAt oR pa (l:=.rp [] z (.c (.rows z []))) (by
   simp only[aB];exact⟨⟨by rw[iu];rfl,by simp⟩,fun _=>.inl ⟨iu,z,rfl⟩⟩)
  exact⟨⟨G,h1⟩,(hI.keeps h2).succ,h2.nt,h3⟩
 ·
  rename_i z deps z' x0 hf hl;split at h
  ·rename_i fr iw
   simp only[Zb6,Ac0]at h;obtain⟨rfl,rfl,rfl⟩:=h;simp only[aA,Zb4]at iw;obtain⟨ds,h1,h2⟩:=iw;obtain⟨v,c,oR,pa,iu⟩:=hR.valAt (jR hl (by simp));simp only[aB]at iu;obtain⟨h3,h4,h5⟩:=jG h1;refine wM hR hI h2 oR pa fun G' ej a6=>?_
   simp only[aB];refine⟨⟨iu.1.1,by simp⟩,fun _=>?_⟩
   rcases iu.2 h3 with h6|⟨ad,row,h6,h7,h8⟩
   ·exact .inl h6
   ·exact .inr ⟨ad,row,h6,h7,(h8.drop hR h5).mono fun b hb=>⟨yD a6 (fun z hz=>Bcy hz) hb,rfl⟩⟩
  ·simp[kJ]at h
 ·
  rename_i z l z' ix hf hl;split at h
  ·rename_i x0 fr iw
   simp only[Zb6,Ac0]at h;obtain⟨rfl,rfl,rfl⟩:=h;simp only[aA,Zb4,aF,Zb6,Ac0]at iw;obtain⟨sl,h1,fr',h2,rfl,rfl⟩:=iw;obtain⟨v,c,oR,pa,iu⟩:=hR.valAt (jR hl (by simp));simp only[aB]at iu;obtain⟨ad,n,cp,ik,iv,h3,h4,h5,h6,h7⟩:=iu;have hs:=dZ hR h1 h3;obtain⟨d,bj,hd⟩:=gD ba rfl;simp only[List.map_cons,List.map_nil,h4]at bj
   have ij:∃ sz rs r,sl.x.val ρ=.rows sz rs/\sz=z'/\rs[iv.toNat]?=some r/\d=.rows z' [r]:=by
    cases hx:sl.x.val ρ with
    | rows sz rs =>
     rw[hx]at bj;simp only[aU.run]at bj;split at bj
     ·rename_i hc
      split at bj
      ·rename_i r hr
       simp only[Zb6,List.cons.injEq,and_true]at bj;exact⟨sz,rs,r,rfl,hc.1,hr,bj.symm⟩
      ·cases bj
     ·cases bj
    |_=>rw[hx]at bj;simp[aU.run]at bj
   obtain⟨sz,rs,r,hx,rfl,hr,rfl⟩:=ij;have iw:=hs.rd;rw[hx]at iw;obtain⟨A',b,n',c',vs,e1,e2,e3,e4,e5,e6,e7⟩:=iw.inv
   injection e1 with e1 e1' e1''
   have hlt:iv.toNat<rs.length:=(Zb7.1 hr).1;have hA:some ad=some b:=by rw[e1];exact e4.resolve_left (by omega)
   obtain rfl:=Ac9 hA;have se:r.length=sz:=e5 r (List.mem_of_getElem? hr)
   obtain⟨q1,q2,q3,q4⟩:=wM hR hI h2 oR pa (l:=.rp [] z (.v s.nv)) fun G' ej a6=>by
    simp only[aB];refine⟨⟨by rw[h7];rfl,by simp⟩,fun _=>.inr ⟨_,r,h7,by rw[hd,se],?_⟩⟩;have p5:∀ {b:Nat},allow G sl.deps b->allow G' [] b:=fun hb=>yD a6 (fun z hz=>Bcy hz) hb
    refine .rows _ (ad.add (iv.toNat*sz+0)) 1 1 r.length [r] (fun _ j=>vs iv.toNat j) rfl (Acn _) (.inr rfl) (by simp) (fun i0 r0 n9 j d0 hj=>?_) (fun i0 r0 n9 j d0 hj=>?_)
    ·cases i0 with
     | zero =>
      simp only[Ach,Zb6]at n9;subst n9;obtain⟨k1,k2⟩:=e6 _ _ hr j d0 hj;refine⟨by rw[add_block];exact p5 k1,?_⟩;rw[add_add];rw[show iv.toNat*sz+0+(0*r.length+j)=iv.toNat*sz+j by omega];exact k2
     |succ i0=>simp at n9
    ·cases i0 with
     | zero =>
      simp only[Ach,Zb6]at n9;subst n9;exact (e7 _ _ hr j d0 hj).mono fun b hb=>⟨p5 hb,rfl⟩
     |succ i0=>simp at n9
   exact⟨q1,⟨q2.nr_,q2.free⟩,q3,rfl⟩
  ·simp[kJ]at h
 ·simp only[Zb6,Ac0]at h
  obtain⟨rfl,rfl,rfl⟩:=h;exact⟨⟨G,hR⟩,hI.succ,rfl,rfl⟩
 ·simp only[Zb6,Ac0]at h
  obtain⟨rfl,rfl,rfl⟩:=h;exact⟨⟨G,hR⟩,hI.succ,rfl,rfl⟩
 ·simp[kJ]at h
theorem wN:∀ {ps:List Pos} {i:Nat} {s s':St} {ls:List Step} {xs:List aM} {G:Gh},kE E nr ps i s=some (ls,s',xs)->RI nr len i s->i+ps.length=len->R E.ntmps F s.get ρ a w G->aN cf ρ none s.nv ls ->
  (∃ G',R E.ntmps F s'.get ρ a w G')/\s'.nt=s.nt/\s'.nr=s.nr/\s'.nv=s.nv+bL ls
 | [], i, s, s', ls, xs, G, h, hI, hl, hR, ba => by
  simp only[kE,Zb6,Ac0]at h;obtain⟨rfl,rfl,rfl⟩:=h;exact⟨⟨G,hR⟩,rfl,rfl,rfl⟩
 | p :: ps, i, s, s', ls, xs, G, h, hI, hl, hR, ba => by
  simp only[kE,bind,Zb4]at h;obtain⟨⟨l1,s1,x1⟩,h1,⟨l2,s2,xs2⟩,h2,h3⟩:=h;simp only[Zb6,Ac0]at h3;obtain⟨rfl,rfl,rfl⟩:=h3;simp only[Aco]at hl;obtain⟨oA,lz⟩:=aN.append ba;obtain⟨⟨G1,rz⟩,hI1,h4,h5⟩:=Qac h1 hI (by omega) hR oA;rw[<- h5]at lz;obtain⟨h6,h7,h8,h9⟩:=wN h2 hI1 (by omega) rz lz;refine⟨h6,h7.trans h4,h8.trans (hI1.nr_.trans hI.nr_.symm),?_⟩;rw[h9,h5,fG,Nat.add_assoc]
theorem qP:∀ {ps:List Pos} {i:Nat} {s s':St} {ls:List Step} {xs:List aM},kE E nr ps i s=some (ls,s',xs)->xs.length=ps.length
 | [], i, s, s', ls, xs, h => by
  simp only[kE,Zb6,Ac0]at h;obtain⟨rfl,rfl,rfl⟩:=h;rfl
 | p :: ps, i, s, s', ls, xs, h => by
  simp only[kE,bind,Zb4]at h;obtain⟨⟨l1,s1,x1⟩,h1,⟨l2,s2,xs2⟩,h2,h3⟩:=h;simp only[Zb6,Ac0]at h3;obtain⟨rfl,rfl,rfl⟩:=h3;simp[qP h2]
theorem mX {τ:St}:∀ {rs:List Nat} {s s':St} {G:Gh},iH τ rs s=some s'->R E.ntmps F s.get ρ a w G->∃ G',R E.ntmps F s'.get ρ a w G'
 | [], s, s', G, h, hR => by
  simp only[iH,Zb6]at h;subst h;exact⟨G,hR⟩
 | r :: rs, s, s', G, h, hR => by
  simp only[iH]at h;split at h
  ·rename_i x m v _ hk
   have ew:(dW [r]).eval s.get=some [(kR r,.root x m v .frozen)]:=by
    simp only[dW,aA,aT,Acf];rw[hk];rfl
   obtain⟨G',ja,-,-,-⟩:=hR.freeze ew;have hg:(s.puts [(kR r,.root x m v .frozen)]).get=upds s.get [(kR r,.root x m v .frozen)]:=yY (Jab ew);rw[<- hg]at ja;exact mX h ja
  ·exact mX h hR
theorem Jaa {s:St}(h:nR s.tr s.nr len=true):RI s.nr len 0 { s with nr:=s.nr+len }:=by
 refine⟨rfl,fun j _ hj=>?_⟩;unfold St.get;dsimp only;rw[zH h (s.nr+j) (by omega) (by omega)];cases vW s.nt s.nb (s.nr+len) (kR (s.nr+j))<;>rfl
theorem Wao {s:St}(h:nR s.tr s.nr len=true):({ s with nr:=s.nr+len }:St).get=s.get:=by
 funext k;unfold St.get;dsimp only;unfold vW
 cases b0:Nat.beq (k % 3) 0 with
 |true=>rfl
 | false =>
  rw[cond_false,cond_false]
  cases b1:Nat.beq (k % 3) 1 with
  |true=>rfl
  | false =>
   rw[cond_false,cond_false];have n0:k % 3≠0:=fun e=>by rw[e]at b0;cases b0
   have n1:k % 3≠1:=fun e=>by rw[e]at b1;cases b1
   cases hb:Bcx (k / 3) s.nr with
   | true =>
    have:Bcx (k / 3) (s.nr+len)=true:=by simp only[Bch]at hb ⊢;omega
    rw[this]
   | false =>
    cases di:Bcx (k / 3) (s.nr+len) with
    |false=>rfl
    | true =>
     simp only[Bch]at di
     have my:s.nr<=k / 3:=by
      rcases Acy (k / 3) s.nr with h1|h1
      ·rw[<- Bch,hb]at h1;cases h1
      ·exact h1
     have:k=kR (k / 3):=by unfold kR;omega
     rw[cond_true,cond_false,this];exact zH h _ my di
theorem Uac {s0:St}{b8:Nat}{aE:List Pos}{τ:St}{kind:Kind}{r:Tm St}(h:Jay E s0.nv s0.nr b8 aE τ kind s=some r)(lA:Aar E s0 b8 aE.length τ){ρ0 e:List D}(hρ:ρ=ρ0++e)(h0:ρ0.length=s0.nv)
  {o:Out St} (ho:Ec cf r ρ=some o) (hl:ρ.length=s.nv) (hi:Daw E s) :
  o.kind=kind/\o.vals.length=aE.length/\∀ a w G,R E.ntmps F s.get ρ a w G->∃ G',R E.ntmps F τ.get (ρ0++o.vals) a w G':=by
 unfold Jay at h;simp only[bind,Zb4]at h;obtain⟨⟨ls,s1,xs⟩,h1,s2,h2,h3⟩:=h;dsimp only at h1 h2 h3;generalize hb:(nN E s0.nv xs s0.nr b8 s.nr aE.length τ s2&&nR s.tr s.nr aE.length&&Nat.ble s0.nr s.nr&&eU s.nv ls&&xs.all (bC (s.nv+bL ls)))=b at h3
 cases b with
 |false=>simp[kJ]at h3
 | true =>
  rw[cond_true]at h3;obtain rfl:=Ac9 h3;simp only[Zb5,Bcq]at hb;obtain⟨⟨⟨⟨qh,gx⟩,tB⟩,hb4⟩,hb5⟩:=hb;obtain⟨ds,h4,h5,h6⟩:=wD (g:=none) rfl (by rw[hl];exact hb4) ho;rw[fZ]at h5;obtain rfl:=Ac9 h5;refine⟨rfl,by simp[Out.vals,qP h1],fun a w G hR=>?_⟩;have h6':=h6 [];rw[Ac4,hl]at h6'
  have rz:R E.ntmps F ({ s with nr:=s.nr+aE.length }:St).get (ρ++ds) a w G:=by
   rw[Wao gx];exact hR.ext hi.sc (by omega) ds
  obtain⟨⟨G1,zl⟩,h7,h8,h9⟩:=wN (cf:=cf) h1 (Jaa gx) (by simp) rz h6';obtain⟨G2,hR3⟩:=mX h2 zl;subst hρ;rw[Aci]at hR3;have:=hR3.fit h0 (qP h1) lA qh tB;rw[Aci];exact this
end
theorem sG (b c k:Nat):lI b c (lI b c k)=k:=by
 unfold lI
 cases h1:Nat.beq k b with
 | true =>
  simp only[Ac8]at h1;subst h1;rw[cond_true]
  cases h2:Nat.beq c k with
  |true=>simp only[Ac8]at h2;rw[cond_true];exact h2
  |false=>rw[cond_false,show Nat.beq c c=true by simp,cond_true]
 | false =>
  rw[cond_false]
  cases h2:Nat.beq k c with
  | true =>
   simp only[Ac8]at h2;subst h2;rw[cond_true,show Nat.beq b b=true by simp,cond_true]
  |false=>rw[cond_false,h1,h2,cond_false,cond_false]
theorem Pai {b c k K:Nat}(hk:k<K)(hb:K<=b)(hc:K<=c):lI b c k=k:=by
 unfold lI
 have h1:Nat.beq k b=false:=by cases h:Nat.beq k b with
  |false=>rfl
  |true=>simp only[Ac8]at h;omega
 have h2:Nat.beq k c=false:=by cases h:Nat.beq k c with
  |false=>rfl
  |true=>simp only[Ac8]at h;omega
 rw[h1,h2];rfl
theorem Fbx {b c k n:Nat}(hb:b<n)(hc:c<n):lI b c k<n↔k<n:=by
 unfold lI
 cases h1:Nat.beq k b with
 |true=>simp only[Ac8]at h1;rw[cond_true];omega
 | false =>
  rw[cond_false]
  cases h2:Nat.beq k c with
  |true=>simp only[Ac8]at h2;rw[cond_true];omega
  |false=>rw[cond_false]
def swS (b c:Nat)(σ:Nat->Option aS):Nat->Option aS:=fun k=>(σ (mR b c k)).map (oC b c)
def swO (b c:Nat):Ow->Ow
 |.box j=>.box (lI b c j)
 |o=>o
def swG (b c:Nat)(G:Gh):Gh:=⟨fun x=>swO b c (G.own x),G.hdr,fun j=>G.bx (lI b c j)⟩
theorem Cay (b c r:Nat):mR b c (kR r)=kR r:=by
 unfold mR;rw[show Nat.beq (kR r % 3) 1=false by unfold kR;rw[show (3*r+2) % 3=2 by omega];rfl];rfl
theorem Qau (b c j:Nat):mR b c (kB j)=kB (lI b c j):=by
 unfold mR;have e1:kB j % 3=1:=by unfold kB;omega
 have e2:kB j / 3=j:=by unfold kB;omega
 rw[e1,e2];rfl
theorem Ma7 {b c:Nat}{o:Ow}:swO b c o=.frz↔o=.frz:=by cases o<;>simp[swO]
theorem Ma6 {b c:Nat}{o:Ow}{r:Nat}{p:List Nat}:swO b c o=.slc r p↔o=.slc r p:=by cases o<;>simp[swO]
theorem Oai {b c:Nat}{y:aS}{x:aM}{m v:Nat}{st:RSt}:oC b c y=.root x m v st↔y=.root x m v st:=by cases y<;>simp[oC]
theorem Ma5 {b c:Nat}{σ:Nat->Option aS}{r:Nat}{x:aM}{m v:Nat}{st:RSt}:swS b c σ (kR r)=some (.root x m v st)↔σ (kR r)=some (.root x m v st):=by
 unfold swS;rw[Cay]
 cases σ (kR r) with
 |none=>simp
 |some y=>simp only[Bcn,Zb6];exact Oai
theorem Gas {b c:Nat}{σ:Nat->Option aS}{k:Nat}:(swS b c σ k).isSome=(σ (mR b c k)).isSome:=by
 unfold swS;cases σ (mR b c k)<;>rfl
section
variable {b c:Nat} {σ:Nat->Option aS} {ρ:List D} {G:Gh} {w:World}
theorem Ua2 {r k:Nat}:mJ (swS b c σ) r k↔mJ σ r k:=by
 unfold mJ;simp only[Ma5]
theorem Ua3 {r k:Nat}:jK (swS b c σ) r k↔jK σ r k:=by
 unfold jK;simp only[Ma5]
theorem Saw {r k m:Nat}:zQ (swS b c σ) r k m↔zQ σ r k m:=by
 unfold zQ;simp only[Ma5]
theorem Ua4 {deps:List (Nat×Nat)}{x:Nat}(h:allow G deps x):allow (swG b c G) deps x:=by
 rcases h with h|⟨r,k,p,hm,h⟩
 ·exact .inl (Ma7.2 h)
 ·exact .inr ⟨r,k,p,hm,Ma6.2 h⟩
theorem Jbh {r:Nat}{p:List Nat}{m:Nat}{v:Value}{d:D}(h:Rp G.own w r p m v d):Rp (swG b c G).own w r p m v d:=by
 have:=h.mono (own':=(swG b c G).own) (w':=w) (r':=r) (q:=[]) (q':=[]) (fun x hx=>⟨Ma7.2 hx,rfl⟩) p rfl (fun x t hx=>⟨Ma6.2 hx,rfl⟩);simpa using this
theorem Jbi {r:Nat}{q p:List Nat}{v u:Value}(h:zZ G.own w r q v p u):zZ (swG b c G).own w r q v p u :=
 zZ.mono p q q v u (fun x t hx=>⟨Ma6.2 hx,rfl⟩) h
theorem Lb1 {deps:List (Nat×Nat)}{v:Value}{d:D}{p:Pth}(h:Dav σ ρ G w deps v d p):Dav (swS b c σ) ρ (swG b c G) w deps v d p:=by
 cases p with
 |no=>trivial
 |view=>exact fun r k m e hl=>Jbh (h r k m e (Saw.1 hl))
 |suf sz lo=>exact fun r k m e hl=>h r k m e (Saw.1 hl)
 | path p =>
  intro r k m e hl;obtain⟨h1,h2,h3⟩:=h r k m e (Saw.1 hl);exact⟨h1,Jbh h2,Jbi h3⟩
mutual
theorem Ma4:∀ (l:aR) (v:Value),aB σ ρ G w l v->aB (swS b c σ) ρ (swG b c G) w (l.swap b c) v
 |.dead,_,hl=>by simpa[aB,aR.swap] using hl
 |.sc x,v,hl=>by simpa[aB,aR.swap] using hl
 |.su g x,v,hl=>by simpa[aB,aR.swap] using hl
 | .ex r, v, hl => by
  simp only[aB,aR.swap]at hl ⊢;exact⟨hl.1,by rw[Gas,Cay];exact hl.2.1,hl.2.2⟩
 | .sn deps p nie x, v, hl => by
  simp only[aB,aR.swap]at hl ⊢;refine⟨⟨hl.1.1,fun z hz=>Ua3.2 (hl.1.2 z hz)⟩,fun hv=>?_⟩;obtain⟨h1,h2,h3⟩:=hl.2 (fun z hz=>Ua2.1 (hv z hz));exact⟨h1.mono fun x hx=>⟨Ua4 hx,rfl⟩,h2,Lb1 h3⟩
 | .px k off, v, hl => by
  simp only[aB,aR.swap]at hl ⊢;refine⟨?_,?_⟩
  ·show v=.pointer (some ((G.bx (lI b c (lI b c k))).add off))
   rw[sG];exact hl.1
  ·rw[Gas,Qau,sG];exact hl.2
 | .pe l sz i off, v, hl => by
  simp only[aB,aR.swap]at hl ⊢;obtain⟨a,n,c',k,iv,h1,h2⟩:=hl;exact⟨a,n,c',k,iv,Ma4 l _ h1,h2⟩
 | .rp deps sz x, v, hl => by
  simp only[aB,aR.swap]at hl ⊢;refine⟨⟨hl.1.1,fun z hz=>Ua3.2 (hl.1.2 z hz)⟩,fun hv=>?_⟩
  rcases hl.2 (fun z hz=>Ua2.1 (hv z hz)) with h1|⟨a,row,h1,h2,h3⟩
  ·exact .inl h1
  ·exact .inr ⟨a,row,h1,h2,h3.mono fun x hx=>⟨Ua4 hx,rfl⟩⟩
 |.pn,v,hl=>by simpa[aB,aR.swap] using hl
 | .clo f fu, v, hl => by
  simp only[aB,aR.swap]at hl ⊢;obtain⟨vs,h1,h2⟩:=hl;exact⟨vs,h1,Bau fu vs h2⟩
theorem Bau:∀ (ls:List aR) (vs:List Value),aG σ ρ G w ls vs->aG (swS b c σ) ρ (swG b c G) w (cK b c ls) vs
 |[],vs,hl=>by simpa[aG,cK] using hl
 | l :: ls, vs, hl => by
  simp only[aG,cK]at hl ⊢;obtain⟨u,us,e,h1,h2⟩:=hl;exact⟨u,us,e,Ma4 l u h1,Bau ls us h2⟩
end
theorem Ibm:∀ (ts:List (Bool×List aR)) (us:List Value),iT σ ρ G w ts us->iT (swS b c σ) ρ (swG b c G) w (ts.map fun t=>(t.1,cK b c t.2)) us
 |[],_,ht=>ht
 | (a, ls) :: r, us, ht => by
  obtain⟨u,cX,vs,e,h1,h2,h3⟩:=ht;exact⟨u,cX,vs,e,Bau ls vs h1,h2,Ibm r cX h3⟩
theorem Sbv {v:SV}{u:Value}(hv:dB σ ρ G w v u):dB (swS b c σ) ρ (swG b c G) w (Zaj b c v) u:=by
 cases v with
 |dead=>trivial
 |one l=>exact Ma4 l u hv
 |agg ls=>obtain⟨vs,e,h1⟩:=hv;exact⟨vs,e,Bau ls vs h1⟩
 |tup ts=>obtain⟨us,e,h1⟩:=hv;exact⟨us,e,Ibm ts us h1⟩
theorem Caq:∀ (ls:List aR) (j:Nat),(cK b c ls)[j]?=(ls[j]?).map (aR.swap b c)
 |[],j=>by simp[cK]
 |l::ls,0=>by simp[cK]
 |l::ls,j+1=>by simp[cK,Caq ls j]
theorem Aaj:∀ (ls:List aR),(cK b c ls).length=ls.length
 |[]=>rfl
 |l::ls=>by simp[cK,Aaj ls]
end
def Ea9 (F:bK)(K:Nat):Prop:=∀ x j,x<F.w0.heap.size->F.own0 x=.box j->j<K
theorem R.swap {n:Nat}{F:bK}{σ:Nat->Option aS}{ρ:List D}{a:Act}{w:World}{G:Gh}(h:R n F σ ρ a w G){K:Nat}(hF:Ea9 F K){b c:Nat}(hb:K<=b)(hc:K<=c):R n F (swS b c σ) ρ a w (swG b c G):=by
 refine⟨h.tmps,h.defers,fun k y hk=>?_,⟨h.frame.os,h.frame.tape,h.frame.output,h.frame.size,fun x hx ho=>?_,fun x j hx ho=>?_,fun x hx=>Ma7.2 (h.frame.fresh x hx)⟩,fun j ls hk hx ho=>?_⟩
 ·unfold swS at hk
  rw[Acl]at hk;obtain⟨z,hz,rfl⟩:=hk;have hr:=h.cont _ _ hz
  cases z with
  | slot g v =>
   obtain⟨t,e,h1⟩:=hr
   have ek:k=kT t:=by
    unfold mR at e
    cases hm:Nat.beq (k % 3) 1 with
    |true=>rw[hm,cond_true]at e;exact absurd e.symm lX
    |false=>rw[hm,cond_false]at e;exact e
   exact⟨t,ek,fun hg=>Sbv (h1 hg)⟩
  | box ro ls =>
   obtain⟨j,e,h1,h2,h3⟩:=hr
   have ek:k=kB (lI b c j):=by
    unfold mR at e
    cases hm:Nat.beq (k % 3) 1 with
    | true =>
     rw[hm,cond_true]at e;simp only[Ac8]at hm;have:=Ca0 e;rw[<- this,sG];unfold kB;omega
    | false =>
     rw[hm,cond_false]at e;rw[e]at hm;have:kB j % 3=1:=by unfold kB;omega
     rw[this]at hm;cases hm
   refine⟨lI b c j,ek,?_,?_,fun i l hl=>?_⟩
   ·show (G.bx (lI b c (lI b c j))).spot=none
    rw[sG];exact h1
   ·show swO b c (G.own (G.bx (lI b c (lI b c j))).block)=_
    rw[sG,h2];cases ro<;>rfl
   ·rw[Caq,Acl]at hl
    obtain⟨l0,nq,rfl⟩:=hl;obtain⟨v,h4,h5,h6⟩:=h3 i l0 nq;show ∃ v,w.cell? ((G.bx (lI b c (lI b c j))).add i)=some v/\w.frozen? ((G.bx (lI b c (lI b c j))).add i)=false/\_
    rw[sG];exact⟨v,h4,h5,Ma4 l0 v h6⟩
  | root x m bc st =>
   obtain⟨r,e,h1,h2⟩:=hr
   have ek:k=kR r:=by
    unfold mR at e
    cases hm:Nat.beq (k % 3) 1 with
    |true=>rw[hm,cond_true]at e;exact absurd e fH
    |false=>rw[hm,cond_false]at e;exact e
   refine⟨r,ek,by rw[Gas,Cay];exact h1,?_⟩
   cases st with
   |live=>exact Jbh h2
   |frozen=>exact⟨h2.1.mono fun x hx=>⟨Ma7.2 hx,rfl⟩,fun x p hx=>h2.2 x p (Ma6.1 hx)⟩
   |gone=>trivial
   |fwd r'=>exact⟨h2.1,by rw[Gas,Cay];exact h2.2⟩
 ·obtain⟨h1,h2⟩:=h.frame.keep x hx ho
  refine⟨h1,?_⟩;show swO b c (G.own x)=_
  rw[h2]
  rcases ho with ho|ho<;>rw[ho]<;>rfl
 ·obtain⟨h1,h2⟩:=h.frame.boxes x j hx ho
  refine⟨?_,h2⟩;show swO b c (G.own x)=_
  rw[h1];show Ow.box (lI b c j)=_
  rw[Pai (hF x j hx ho) hb hc]
 ·have hj:=hF _ j hx ho
  have e:=Pai hj hb hc
  have kb:σ (kB j)=some (.box false ls)\/∃ l0,σ (kB j)=some (.box false l0)/\l0.length=ls.length:=by
   unfold swS at hk;rw[Qau,e,Acl]at hk;obtain⟨z,hz,hs⟩:=hk
   cases z with
   |slot=>simp[oC]at hs
   |root=>simp[oC]at hs
   | box ro l0 =>
    simp only[oC,aS.box.injEq]at hs;obtain⟨rfl,rfl⟩:=hs;exact .inr ⟨l0,hz,(Aaj l0).symm⟩
  have e2:(swG b c G).bx j=G.bx j:=by show G.bx (lI b c j)=_;rw[e]
  rw[e2]at hx ho ⊢
  rcases kb with kb|⟨l0,kb,hl⟩
  ·exact h.rng j ls kb hx ho
  ·rw[<- hl];exact h.rng j l0 kb hx ho
theorem Lar {f:Nat->Option aS}:∀ (L:List Nat) (t:Tr aS) (k:Nat),(Qad f L t).get k=if k∈L then f k else t.get k
 |[],t,k=>by simp[Qad]
 | x :: L, t, k => by
  rw[Qad,Lar L _ k];by_cases h:k∈L
  ·rw[if_pos h,if_pos (Ack _ h)]
  ·rw[if_neg h,Tr.get_set]
   by_cases e:k=x
   ·subst e;rw[if_pos rfl,if_pos Acs]
   ·rw[if_neg e,if_neg (by simp only[Acj,not_or];exact⟨e,h⟩)]
theorem Ob1 {nt nb nr k:Nat}:k∈(range 0 nt).map kT++(range 0 nb).map kB++(range 0 nr).map kR↔vW nt nb nr k=true:=by
 unfold vW;simp only[List.mem_append,Bcd,mem_range];constructor
 ·rintro ((⟨x,hx,rfl⟩|⟨x,hx,rfl⟩)|⟨x,hx,rfl⟩)
  ·rw[show kT x % 3=0 by unfold kT;omega,show kT x / 3=x by unfold kT;omega];simpa using hx.2
  ·rw[show kB x % 3=1 by unfold kB;omega,show kB x / 3=x by unfold kB;omega];simpa using hx.2
  ·rw[show kR x % 3=2 by unfold kR;omega,show kR x / 3=x by unfold kR;omega];simpa using hx.2
 ·have a7n:k % 3=0\/k % 3=1\/k % 3=2:=by omega
  rcases a7n with h|h|h<;>rw[h]<;>intro hk
  ·have kb:k / 3<nt:=by simpa using hk
   exact .inl (.inl ⟨k / 3,⟨Ccc _,by omega⟩,by unfold kT;omega⟩)
  ·have kb:k / 3<nb:=by simpa using hk
   exact .inl (.inr ⟨k / 3,⟨Ccc _,by omega⟩,by unfold kB;omega⟩)
  ·have kb:k / 3<nr:=by simpa using hk
   exact .inr ⟨k / 3,⟨Ccc _,by omega⟩,by unfold kR;omega⟩
theorem Xa3 {nt nb nr b c k:Nat}(hb:b<nb)(hc:c<nb):vW nt nb nr (mR b c k)=vW nt nb nr k:=by
 unfold mR
 cases h:Nat.beq (k % 3) 1 with
 |false=>rfl
 | true =>
  rw[cond_true];simp only[Ac8]at h;unfold vW;rw[show kB (lI b c (k / 3)) % 3=1 by unfold kB;omega,show kB (lI b c (k / 3)) / 3=lI b c (k / 3) by unfold kB;omega,h];show Bcx _ _=Bcx _ _
  have:=Fbx (k:=k / 3) hb hc;cases h1:Bcx (lI b c (k / 3)) nb<;>cases h2:Bcx (k / 3) nb<;>first|rfl|skip
  ·simp only[Bch]at h2
   have:=this.2 h2;rw[<- Bch,h1]at this;cases this
  ·simp only[Bch]at h1
   have:=this.1 h1;rw[<- Bch,h2]at this;cases this
theorem Ua1 {s:St}{b c:Nat}(hb:b<s.nb)(hc:c<s.nb):(s.swap b c).get=swS b c s.get:=by
 funext k;have e0:(s.swap b c).get k=bif vW s.nt s.nb s.nr k then (s.swap b c).tr.get k else none:=rfl;have e1:(s.swap b c).tr.get k=if k∈(range 0 s.nt).map kT++(range 0 s.nb).map kB++(range 0 s.nr).map kR then swS b c s.get k else s.tr.get k:=Lar _ _ k
 rw[e0,e1]
 cases h:vW s.nt s.nb s.nr k with
 |true=>rw[cond_true,if_pos (Ob1.2 h)]
 | false =>
  rw[cond_false];unfold swS St.get;rw[Xa3 hb hc,h];rfl
theorem La8 {b c N:Nat}:∀ l:aR,(l.swap b c).inScope N=l.inScope N:=by
 intro l
 induction l using aR.rec (motive_2:=fun ls=>bF N (cK b c ls)=bF N ls) with
 |dead=>rfl
 |sc=>rfl
 |su=>rfl
 |ex=>rfl
 |sn=>rfl
 |px=>rfl
 |pe l sz i off ih=>simp only[aR.swap,aR.inScope,ih]
 |rp=>rfl
 |pn=>rfl
 |clo f fu ih=>simp only[aR.swap,aR.inScope,ih]
 |nil=>rfl
 |cons l ls h1 h2=>simp only[cK,bF,h1,h2]
theorem qV {b c N:Nat}:∀ ls:List aR,bF N (cK b c ls)=bF N ls
 |[]=>rfl
 |l::ls=>by simp only[cK,bF,La8,qV ls]
theorem Yay {b c N:Nat}(y:aS):cZ N (oC b c y)=cZ N y:=by
 cases y with
 | slot g v =>
  simp only[oC,cZ];congr 1
  cases v with
  |dead=>rfl
  |one l=>exact La8 l
  |agg ls=>exact qV ls
  | tup ts =>
   simp only[Zaj,yP,List.all_map];congr 1;funext t;exact qV t.2
 |box ro ls=>exact qV ls
 |root=>rfl
theorem Daw.swap {E:Env}{s:St}(h:Daw E s){b c:Nat}(hb:b<s.nb)(hc:c<s.nb):Daw E (s.swap b c):=by
 refine⟨h.nt,?_⟩;rw[Ua1 hb hc];intro k y hk;unfold swS at hk;rw[Acl]at hk;obtain⟨z,hz,rfl⟩:=hk;rw[Yay];exact h.sc _ _ hz
theorem zA {E:Env}{F:bK}(hF:Ea9 F E.nbx){τ:St}:∀ (ts:List Nat) (s:St),Daw E s->Daw E (Tak E τ ts s)/\(Tak E τ ts s).nv=s.nv/\∀ {ρ:List D} {a:Act} {w:World} {G:Gh},R E.ntmps F s.get ρ a w G->∃ G',R E.ntmps F (Tak E τ ts s).get ρ a w G'
 |[],s,hi=>⟨hi,rfl,fun hR=>⟨_,hR⟩⟩
 | t :: ts, s, hi => by
  unfold Tak;split
  ·rename_i b c _ _
   cases hg:(!(Nat.beq b c)&&Nat.ble E.nbx b&&Nat.ble E.nbx c&&Bcx b s.nb&&Bcx c s.nb) with
   |false=>rw[cond_false];exact zA hF ts s hi
   | true =>
    rw[cond_true];simp only[Zb5,Bcq,Bch]at hg;obtain⟨⟨⟨⟨-,h1⟩,h2⟩,h3⟩,h4⟩:=hg;obtain⟨k1,k2,k3⟩:=zA hF ts (s.swap b c) (hi.swap h3 h4);refine⟨k1,k2,fun hR=>?_⟩;have:=hR.swap hF h1 h2;rw[<- Ua1 h3 h4]at this;exact k3 this
  ·exact zA hF ts s hi
section
variable {E:Env} {F:bK} {cf:Nat->List D->Option (List D)} {ρ:List D} {s:St}
theorem Mak (hF:Ea9 F E.nbx){s0:St}{b8:Nat}{aE:List Pos}{τ:St}{kind:Kind}{r:Tm St}(h:coerce E s0.nv s0.nr b8 aE τ kind s=some r)(lA:Aar E s0 b8 aE.length τ){ρ0 e:List D}(hρ:ρ=ρ0++e)(h0:ρ0.length=s0.nv)
  {o:Out St} (ho:Ec cf r ρ=some o) (hl:ρ.length=s.nv) (hi:Daw E s) :
  o.kind=kind/\o.vals.length=aE.length/\∀ a w G,R E.ntmps F s.get ρ a w G->∃ G',R E.ntmps F τ.get (ρ0++o.vals) a w G':=by
 obtain⟨h1,h2,h3⟩:=zA hF (τ:=τ) E.pxs s hi;obtain⟨h4,h5,h6⟩:=Uac (F:=F) h lA hρ h0 ho (hl.trans h2.symm) h1;refine⟨h4,h5,fun a w G hR=>?_⟩;obtain⟨G',ja⟩:=h3 hR;exact h6 a w G' ja
end
def Bbv:Kind->Exit
 |.fall=>.normal
 |.exit id=>.exit id
 |.ret=>.ret
 |_=>.outgrown
def Sb3:Kind->Prop
 |.cont=>False
 |.yield _=>False
 |_=>True
structure Post (E:Env) (ρ:List D) (o:Out St):Prop where
 nice:Sb3 o.kind
 len:o.env.length=o.ext.nv
 inv:Daw E o.ext
 pre:∃ ds,o.env=ρ++ds
def Wp (P:Program)(E:Env)(F:bK)(c:Code)(s:St)(ρ:List D)(o:Out St):Prop :=
 ∀ a w G Q,R E.ntmps F s.get ρ a w G->(∀ a' w' G',R E.ntmps F o.ext.get o.env a' w' G'->Q (Bbv o.kind) a' w')->c.wp P Q a w
theorem Post.trans {E:Env}{ρ ds:List D}{o:Out St}(h:Post E (ρ++ds) o):Post E ρ o:=by
 obtain⟨es,h1⟩:=h.pre;exact⟨h.nice,h.len,h.inv,ds++es,by rw[h1,Aci]⟩
theorem Mao {k:Kind}:qF k=true↔k=.fall:=by cases k<;>simp[qF]
section
variable {P:Program} {E:Env} {F:bK} {cf:Nat->List D->Option (List D)} {ρ:List D}
theorem mM {g:Option (aM×Bool)}{kind:Kind}{xs:List aM}{s:St}:∀ {ls:List Step} {ρ:List D} {o:Out St},Ec cf (oN g (.leaf kind xs s) ls) ρ=some o->o.kind=kind
 | [], ρ, o, h => by
  rw[oN,fZ]at h;obtain rfl:=Ac9 h;rfl
 | .prim p ys n :: r, ρ, o, h => by
  rw[oN,Oaw]at h;split at h
  ·simp only[Zb4]at h
   obtain⟨ds,-,h⟩:=h;split at h
   ·exact mM h
   ·cases h
  ·exact mM h
 | .call f ys n olds :: r, ρ, o, h => by
  rw[oN,vF]at h;split at h
  ·simp only[Zb4]at h
   obtain⟨ds,-,h⟩:=h;split at h
   ·exact mM h
   ·cases h
  ·exact mM h
theorem Ra5 {n eI b8:Nat}{aE:List Pos}{τ s:St}{kind:Kind}{r:Tm St}(h:Jay E n eI b8 aE τ kind s=some r){ρ:List D}{o:Out St}(ho:Ec cf r ρ=some o):o.kind=kind:=by
 unfold Jay at h;simp only[bind,Zb4]at h;obtain⟨⟨ls,s1,xs⟩,h1,s2,h2,h3⟩:=h;dsimp only at h3
 revert h3
 generalize (nN E n xs eI b8 s.nr aE.length τ s2&&nR s.tr s.nr aE.length&&Nat.ble eI s.nr&&eU s.nv ls&&xs.all (bC (s.nv+bL ls)))=b;intro h3
 cases b with
 |false=>simp[kJ]at h3
 | true =>
  rw[cond_true]at h3;obtain rfl:=Ac9 h3;exact mM ho
theorem Jax {n eI b8:Nat}{aE:List Pos}{τ s:St}{kind:Kind}{r:Tm St}(h:coerce E n eI b8 aE τ kind s=some r){ρ:List D}{o:Out St}(ho:Ec cf r ρ=some o):o.kind=kind:=Ra5 h ho
theorem Gbs {live:Nat}{s0:St}{i:Nat}{jq:Kind->Bool}{ends:List St}{t t':Tm St}{τ:St}(h:join E live s0 i jq ends t=some (t',τ)) :
  ∃ aE fX,Aar E s0 fX aE.length τ/\t.turn (.yield i) jq (coerce E s0.nv s0.nr fX aE τ (.yield i))=some t':=by
 unfold join at h;dsimp only at h
 revert h
 generalize hb:Fac E s0 _ _ _=b;intro h
 cases b with
 |false=>simp[kJ]at h
 | true =>
  rw[cond_true,Acl]at h;obtain⟨t1,h1,h2⟩:=h;obtain⟨rfl,rfl⟩:=Prod.mk.inj h2;exact⟨_,_,Aav hb,h1⟩
theorem Ab3 (hF:Ea9 F E.nbx){live:Nat}{s0:St}{i:Nat}{jq:Kind->Bool}{ends:List St}{t t' k:Tm St}{τ:St}(h:join E live s0 i jq ends t=some (t',τ))(hc:jq .cont=false)(hy:∀ i,jq (.yield i)=false)
  {o:Out St} (ho:Ec cf (.bind i t' k) ρ=some o) (hl:ρ.length=s0.nv) (hP:∀ o1,Ec cf t ρ=some o1->Post E ρ o1) :
  ∃ o1,Ec cf t ρ=some o1/\((jq o1.kind=true/\∃ vals,Ec cf k (ρ++vals)=some o/\(ρ++vals).length=τ.nv/\Daw E τ/\∀ a w G,R E.ntmps F o1.ext.get o1.env a w G->∃ G',R E.ntmps F τ.get (ρ++vals) a w G')\/(jq o1.kind=false/\o=o1)):=by
 obtain⟨aE,fX,lA,ht⟩:=Gbs h;simp only[rY,Zb4]at ho;obtain⟨o',h1,h2⟩:=ho;obtain⟨o1,h3,h4⟩:=lJ (fun s r hr ρ o ho=>Jax hr ho) hc hy ht h1;refine⟨o1,h3,?_⟩;have hp:=hP o1 h3
 rcases h4 with ⟨h5,h6,r,h7,h8⟩|⟨h5,h6⟩
 ·refine .inl ⟨h5,?_⟩
  rw[if_pos h6]at h2;obtain⟨ds,h9⟩:=hp.pre;obtain⟨cL,ef,fY⟩:=Mak hF h7 lA h9 hl h8 hp.len hp.inv;exact⟨o'.vals,h2,by rw[Ace,hl,ef,lA.nv],⟨lA.nt1,lA.inScope⟩,fY⟩
 ·refine .inr ⟨h5,?_⟩
  subst h6
  have:o'.kind≠.yield i:=fun e=>by
   have:=hp.nice;rw[e]at this;exact this
  rw[if_neg this]at h2;exact (Ac9 h2).symm
theorem Iam {live:Nat}{s:St}{body:St->Option (Tm St)}:∀ {fuel:Nat} {aE:List Pos} {keys:List Nat} {fX:Nat} {seen:List St} {t:Tm St},Ian E live s body fuel aE keys fX seen=some t ->
  ∃ aE fX τ tb p6 xs s1 s2,body τ=some tb/\Aar E s fX aE.length τ/\kE E s.nr aE 0 { s with nr:=s.nr+aE.length }=some ([],s1,xs)/\iH τ (range 0 s.nr) s1=some s2 /\
   nN E s.nv xs s.nr fX s.nr aE.length τ s2=true/\nR s.tr s.nr aE.length=true/\tb.turn .cont qF (coerce E s.nv s.nr fX aE τ .cont)=some p6/\t=.loop xs p6
 |0,_,_,_,_,t,h=>by simp[Ian,kJ]at h
 | fuel + 1, aE, keys, fX, seen, t, h => by
  simp only[Ian]at h;split at h
  ·cases h
  ·rename_i tb hb
   revert h
   generalize hc:(Taj aE _&&_&&_)=b;intro h
   cases b with
   | false =>
    rw[cond_false]at h;exact Iam h
   | true =>
    rw[cond_true]at h;simp only[bind,Zb4]at h;obtain⟨⟨pre,s1,xs⟩,h1,s2,h2,h3⟩:=h;dsimp only at h1 h2 h3
    revert h3
    generalize hd:(nN E s.nv xs s.nr fX s.nr aE.length _ s2&&nR s.tr s.nr aE.length&&pre.isEmpty&&Fac E s fX aE.length _)=b;intro h3
    cases b with
    |false=>simp[kJ]at h3
    | true =>
     rw[cond_true]at h3;simp only[Zb4,Zb6]at h3;obtain⟨p6,h4,h5⟩:=h3;simp only[Zb5,Dcs]at hd;obtain⟨⟨⟨fS,pC⟩,rfl⟩,hd4⟩:=hd;exact⟨aE,fX,_,tb,p6,xs,s1,s2,hb,Aav hd4,h1,h2,fS,pC,h4,h5.symm⟩
theorem Qap {s:St}{body:St->Option (Tm St)}{H:List (Nat×Nat×Nat×Nat)×List Nat×Nat×List Nat}{t:Tm St}(h:Nau E s body H=some t) :
  ∃ aE fX τ tb p6 xs s1 s2,body τ=some tb/\Aar E s fX aE.length τ/\kE E s.nr aE 0 { s with nr:=s.nr+aE.length }=some ([],s1,xs)/\iH τ (range 0 s.nr) s1=some s2 /\
   nN E s.nv xs s.nr fX s.nr aE.length τ s2=true/\nR s.tr s.nr aE.length=true/\tb.turn .cont qF (coerce E s.nv s.nr fX aE τ .cont)=some p6/\t=.loop xs p6:=by
 unfold Nau at h
 revert h
 generalize (H.1.map fun p=>(⟨p.1,p.2.1,Ob6 p.2.2.1 p.2.2.2⟩:Pos))=aE;generalize s.nr+H.2.2.1=fX;intro h;dsimp only at h;split at h
 ·cases h
 ·rename_i tb hb
  simp only[bind,Zb4]at h;obtain⟨⟨pre,s1,xs⟩,h1,s2,h2,h3⟩:=h;dsimp only at h1 h2 h3
  revert h3
  generalize hd:(nN E s.nv xs s.nr fX s.nr aE.length _ s2&&nR s.tr s.nr aE.length&&pre.isEmpty&&Fac E s fX aE.length _)=b;intro h3
  cases b with
  |false=>simp[kJ]at h3
  | true =>
   rw[cond_true]at h3;simp only[Zb4,Zb6]at h3;obtain⟨p6,h4,h5⟩:=h3;simp only[Zb5,Dcs]at hd;obtain⟨⟨⟨fS,pC⟩,rfl⟩,hd4⟩:=hd;exact⟨aE,fX,_,tb,p6,xs,s1,s2,hb,Aav hd4,h1,h2,fS,pC,h4,h5.symm⟩
theorem least {p:Nat->Prop}(h:∃ n,p n):∃ n,p n/\∀ m,p m->n<=m:=by
 obtain⟨n,hn⟩:=h
 induction n using Nat.strongRecOn with
 | _ n ih =>
  by_cases h:∃ m,m<n/\p m
  ·obtain⟨m,h1,h2⟩:=h
   exact ih m h1 h2
  ·refine⟨n,hn,fun m hm=>?_⟩
   rcases Acy m n with h1|h1
   ·exact absurd ⟨m,h1,hm⟩ h
   ·exact h1
open Classical in
theorem Oa4 {c:Code}{Q:Exit->Act->World->Prop}(K:Nat->Act->World->Prop)
  (round:∀ n a w,K n a w->c.wp P (Exit.then (fun a' w'=>∃ m,m<n/\K m a' w') Q) a w) {n:Nat} {a:Act} {w:World} (h0:K n a w):(Code.loop c).wp P Q a w:=by
 refine wp_loop (fun a w=>∃ n,K n a w) (fun a w=>if h:∃ n,K n a w then (least h).choose else 0) ⟨n,h0⟩ fun a w h=>?_
 have h1:=round _ a w (least h).choose_spec.1;refine wp_mono h1 fun e a' w' hq=>?_
 cases e with
 | normal =>
  obtain⟨m,hm,hK⟩:=hq;have h':∃ n,K n a' w':=⟨m,hK⟩;refine⟨h',?_⟩;rw[dif_pos h',dif_pos h];exact Nat.lt_of_le_of_lt ((least h').choose_spec.2 m hK) hm
 |_=>exact hq
theorem Laj (hF:Ea9 F E.nbx){s:St}{body:St->Option (Tm St)}{c:Code}
  (hbody:∀ {τ:St} {t:Tm St} {ρ:List D} {o:Out St},body τ=some t->Ec cf t ρ=some o->ρ.length=τ.nv->Daw E τ->Post E ρ o/\Wp P E F c τ ρ o)
  {t:Tm St} (h:∃ aE fX τ tb p6 xs s1 s2,body τ=some tb/\Aar E s fX aE.length τ/\kE E s.nr aE 0 { s with nr:=s.nr+aE.length }=some ([],s1,xs)/\iH τ (range 0 s.nr) s1=some s2 /\
   nN E s.nv xs s.nr fX s.nr aE.length τ s2=true/\nR s.tr s.nr aE.length=true/\tb.turn .cont qF (coerce E s.nv s.nr fX aE τ .cont)=some p6/\t=.loop xs p6) {o:Out St} (ho:Ec cf t ρ=some o) (hl:ρ.length=s.nv) (hi:Daw E s):Post E ρ o/\Wp P E F (.loop c) s ρ o:=by
 obtain⟨aE,fX,τ,tb,p6,xs,s1,s2,h1,lA,h2,h3,h4,h5,h6,rfl⟩:=h;have a6i:Daw E τ:=⟨lA.nt1,lA.inScope⟩;have nn:=qP h2;rw[Oax]at ho
 have tw:∀ vs o',vs.length=aE.length->Ec cf p6 (ρ++vs)=some o'->∃ o1,Ec cf tb (ρ++vs)=some o1/\Post E (ρ++vs) o1/\Wp P E F c τ (ρ++vs) o1 /\
   ((o1.kind=.fall/\o'.kind=.cont/\o'.vals.length=aE.length/\∀ a w G,R E.ntmps F o1.ext.get o1.env a w G->∃ G',R E.ntmps F τ.get (ρ++o'.vals) a w G')\/(o1.kind≠.fall/\o'=o1)):=by
  intro vs o' lj he;obtain⟨o1,h7,h8⟩:=lJ (fun s r hr ρ o ho=>Jax hr ho) rfl (fun _=>rfl) h6 he;obtain⟨hp,hw⟩:=hbody h1 h7 (by rw[Ace,hl,lj,lA.nv]) a6i;refine⟨o1,h7,hp,hw,?_⟩
  rcases h8 with ⟨h9,cL,r,ef,fY⟩|⟨h9,cL⟩
  ·obtain⟨ds,jf⟩:=hp.pre
   obtain⟨lf,mC,nf⟩:=Mak hF ef lA (jf.trans (Aci ..)) hl fY hp.len hp.inv;exact .inl ⟨Mao.1 h9,lf,mC,nf⟩
  ·exact .inr ⟨(fun e=>by rw[e]at h9;cases h9),cL⟩
 refine⟨?_,fun a w G Q hR hQ=>?_⟩
 ·refine Cb5 (C:=fun vs o=>vs.length=aE.length->Post E ρ o) (fun vs o' he hk lj=>?_) (fun vs o' o2 he hk hC _ lj=>?_) ho (by simp[nn])
  ·obtain⟨o1,-,hp,-,h8⟩:=tw vs o' lj he
   rcases h8 with ⟨-,h9,-⟩|⟨-,h9⟩
   ·exact absurd h9 hk
   ·rw[h9];exact hp.trans
  ·obtain⟨o1,-,hp,-,h8⟩:=tw vs o' lj he
   rcases h8 with ⟨-,-,h9,-⟩|⟨-,h9⟩
   ·exact hC h9
   ·subst h9
    have:=hp.nice;rw[hk]at this;exact this.elim
 ·
  have rz:R E.ntmps F ({ s with nr:=s.nr+aE.length }:St).get ρ a w G:=by rw[Wao h5];exact hR
  obtain⟨⟨G1,zl⟩,-⟩:=wN (cf:=cf) h2 (Jaa h5) (by simp) rz trivial;obtain⟨G2,hR3⟩:=mX h3 zl;obtain⟨G3,hR4⟩:=R.fit (ρ0:=ρ) (e:=[]) (by rw[Ac4];exact hR3) hl nn lA h4 (Acn _);rw[Ac4]at hR4;have s5:=ho;unfold Lc at s5;obtain⟨N,hN⟩:=(gK (Tbg (cf:=cf) p6 ρ (xs.map (·.val ρ)))).1 s5;refine Oa4 (fun n a w=>∃ vs G,iter n (fun vs=>runT cf N p6 (ρ++vs)) vs=some o/\vs.length=aE.length/\R E.ntmps F τ.get (ρ++vs) a w G) (fun n a w hK=>?_) (n:=N) ⟨_,G3,hN,by simp[nn],hR4⟩;obtain⟨vs,G,hn,lj,hRv⟩:=hK
  cases n with
  |zero=>cases hn
  | succ m =>
   simp only[iter,Zb4]at hn;obtain⟨o',h7,h8⟩:=hn;obtain⟨o1,h9,hp,hw,cL⟩:=tw vs o' lj (Kad.2 ⟨N,h7⟩);refine hw a w G _ hRv fun a' w' G' ja=>?_
   rcases cL with ⟨ef,fY,jf,lf⟩|⟨ef,fY⟩
   ·rw[if_pos fY]at h8
    rw[ef];obtain⟨G'',tf⟩:=lf a' w' G' ja;exact⟨m,Nat.lt_succ_self m,o'.vals,G'',h8,jf,tf⟩
   ·subst fY
    have hk:o'.kind≠.cont:=fun e=>by
     have:=hp.nice;rw[e]at this;exact this
    rw[if_neg hk]at h8;obtain rfl:=Ac9 h8;have:=hQ a' w' G' ja
    revert this ef
    have:=hp.nice
    revert this
    cases o'.kind<;>intro h1 h2 h3<;>first|exact h1.elim|exact (h2 rfl).elim|exact h3
theorem rR (hF:Ea9 F E.nbx)(hti:vZ P E.ti)(cI:Ban P E F cf)(hm:P.follows .mixedOrders=true){rb:Nat}:∀ (c:Code) {ex:List (Nat×Nat)} {live:Nat} {s:St} {t:Tm St} {ρ:List D} {o:Out St},sxC E false rb c ex live s=some t ->
  Ec cf t ρ=some o->ρ.length=s.nv->Daw E s->Post E ρ o/\Wp P E F c s ρ o
 | .skip, ex, live, s, t, ρ, o, h, ho, hl, hi => by
  simp only[sxC,Zb6]at h;subst h;rw[fZ]at ho;obtain rfl:=Ac9 ho;exact⟨⟨trivial,hl,hi,[],by simp⟩,fun a w G Q hR hQ=>wp_skip (hQ a w G hR)⟩
 | .label _, ex, live, s, t, ρ, o, h, ho, hl, hi => by
  simp only[sxC,Zb6]at h;subst h;rw[fZ]at ho;obtain rfl:=Ac9 ho;exact⟨⟨trivial,hl,hi,[],by simp⟩,fun a w G Q hR hQ=>wp_label (hQ a w G hR)⟩
 | .ret, ex, live, s, t, ρ, o, h, ho, hl, hi => by
  simp only[sxC,Zb6]at h;subst h;rw[fZ]at ho;obtain rfl:=Ac9 ho;exact⟨⟨trivial,hl,hi,[],by simp⟩,fun a w G Q hR hQ=>wp_ret (hQ a w G hR)⟩
 | .exit id, ex, live, s, t, ρ, o, h, ho, hl, hi => by
  simp only[sxC,Zb6]at h;subst h;rw[fZ]at ho;obtain rfl:=Ac9 ho;exact⟨⟨trivial,hl,hi,[],by simp⟩,fun a w G Q hR hQ=>wp_exit (hQ a w G hR)⟩
 | .region kq ops draw, ex, live, s, t, ρ, o, h, ho, hl, hi => by
  simp only[sxC,Zb6]at h;subst h;obtain⟨⟨h1,h2,h3,h4⟩,h5⟩:=Pax hti cI hm ho hl hi
  exact⟨⟨by rw[h1];trivial,h2,h3,h4⟩,fun a w G Q hR hQ=>h5 a w G Q hR fun a' w' G' ja=>by
   have:=hQ a' w' G' ja;rw[h1]at this;exact this⟩
 | .seq a b, ex, live, s, t, ρ, o, h, ho, hl, hi => by
  simp only[sxC,bind,Zb4]at h;obtain⟨ta,tj,h⟩:=h;have iha:=fun {o1:Out St} (h1:Ec cf ta ρ=some o1)=>rR hF hti cI hm a tj h1 hl hi
  have mN:∀ o1:Out St,Post E ρ o1->Wp P E F a s ρ o1->o1.kind≠.fall->Wp P E F (.seq a b) s ρ o1:=by
   intro o1 hp hw hk a' w G Q hR hQ;refine wp_seq (hw a' w G _ hR fun a1 w1 G1 rz=>?_);have:=hQ a1 w1 G1 rz
   revert this hk
   have:=hp.nice
   revert this
   cases o1.kind<;>intro h1 h2 h3<;>first|exact h1.elim|exact (h2 rfl).elim|exact h3
  cases vn:ta.no qF with
  | true =>
   rw[vn,cond_true,Zb6]at h;subst h;obtain⟨hp,hw⟩:=iha ho;exact⟨hp,mN o hp hw fun e=>by have:=wY vn ho;rw[e]at this;cases this⟩
  | false =>
   rw[vn,cond_false]at h
   have fb:∀ {o1:Out St} {s2:St} {tb:Tm St} {ρ2:List D},Ec cf ta ρ=some o1->o1.kind=.fall->sxC E false rb b ex live s2=some tb->Ec cf tb ρ2=some o->ρ2.length=s2.nv->Daw E s2->(∃ ds,ρ2=ρ++ds) ->
     (∀ a w G,R E.ntmps F o1.ext.get o1.env a w G->∃ G',R E.ntmps F s2.get ρ2 a w G')->Post E ρ o/\Wp P E F (.seq a b) s ρ o:=by
    intro o1 s2 tb ρ2 h1 hk h2 h3 h4 h5 ⟨ds,h6⟩ h7;obtain⟨hp,hw⟩:=rR hF hti cI hm b h2 h3 h4 h5;obtain⟨hp1,hw1⟩:=iha h1;subst h6;refine⟨hp.trans,fun a' w G Q hR hQ=>wp_seq (hw1 a' w G _ hR fun a1 w1 G1 rz=>?_)⟩;rw[hk];obtain⟨G2,zl⟩:=h7 a1 w1 G1 rz;exact hw a1 w1 G2 Q zl hQ
   split at h
   ·obtain⟨o1,h1,h2⟩:=rC h ho
    rcases h2 with ⟨h3,tb,h4,h5⟩|⟨h3,h4⟩
    ·obtain⟨hp,-⟩:=iha h1
     exact fb h1 h3 h4 h5 hp.len hp.inv hp.pre fun a w G hR=>⟨G,hR⟩
    ·subst h4
     obtain⟨hp,hw⟩:=iha h1;exact⟨hp,mN _ hp hw h3⟩
   ·simp only[Zb4]at h
    obtain⟨⟨t',τ⟩,hj,k,hk,h⟩:=h;simp only[Zb6]at h;subst h;obtain⟨o1,h1,h2⟩:=Ab3 hF hj rfl (fun _=>rfl) ho hl fun o1 h1=>(iha h1).1
    rcases h2 with ⟨h3,vals,h4,h5,h6,h7⟩|⟨h3,h4⟩
    ·exact fb h1 (Mao.1 h3) hk h4 h5 h6 ⟨vals,rfl⟩ fun a w G hR=>h7 a w G hR
    ·subst h4
     obtain⟨hp,hw⟩:=iha h1;exact⟨hp,mN _ hp hw fun e=>by rw[e]at h3;cases h3⟩
 | .cond c a b, ex, live, s, t, ρ, o, h, ho, hl, hi => by
  simp only[sxC]at h
  have sk:∀ v,Cbj c=some v->c=.const (.bool v):=by
   intro v hv;unfold Cbj at hv;split at hv
   ·cases hv;rfl
   ·cases hv
  split at h
  ·rename_i hc
   obtain rfl:=sk _ hc;obtain⟨hp,hw⟩:=rR hF hti cI hm a h ho hl hi;exact⟨hp,fun a' w G Q hR hQ=>wp_cond_true rfl (hw a' w G Q hR hQ)⟩
  ·rename_i hc
   obtain rfl:=sk _ hc;obtain⟨hp,hw⟩:=rR hF hti cI hm b h ho hl hi;exact⟨hp,fun a' w G Q hR hQ=>wp_cond_false rfl (hw a' w G Q hR hQ)⟩
  rename_i hcn;clear hcn sk;split at h
  ·rename_i x tt hk
   cases hb:(bC s.nv x&&Bcx tt E.ntmps) with
   | false =>
    rw[hb]at h;simp only[Bool.not_false,cond_true,Zb6]at h;subst h;rw[jM]at ho;cases ho
   | true =>
    rw[hb]at h;simp only[Dcf,cond_false,bind,Zb4,Zb6]at h;obtain⟨ta,tj,tb,htb,rfl⟩:=h;simp only[Zb5,Bch]at hb
    have hev:∀ a' w G,R E.ntmps F s.get ρ a' w G->Sc (a'.eval (.tmp tt)) (x.val ρ):=by
     intro a' w G hR;have:=hR.slot hk rfl;simp only[dB,aB,Bao]at this;rw[if_pos hb.2]at this
     have e:a'.eval (.tmp tt)=a'.tmps.getD tt undef:=by
      simp[Act.eval,Bck]
     rw[e];exact this
    rw[Gac]at ho;split at ho
    ·rename_i hx
     obtain⟨hp,hw⟩:=rR hF hti cI hm a tj ho hl hi;refine⟨hp,fun a' w G Q hR hQ=>wp_cond_true ?_ (hw a' w G Q hR hQ)⟩;have:=hev a' w G hR;rw[hx]at this;exact this.bool_inv
    ·rename_i hx
     obtain⟨hp,hw⟩:=rR hF hti cI hm b htb ho hl hi;refine⟨hp,fun a' w G Q hR hQ=>wp_cond_false ?_ (hw a' w G Q hR hQ)⟩;have:=hev a' w G hR;rw[hx]at this;exact this.bool_inv
    ·cases ho
  ·simp only[Zb6]at h
   subst h;rw[jM]at ho;cases ho
 | .block id b, ex, live, s, t, ρ, o, h, ho, hl, hi => by
  simp only[sxC,bind,Zb4]at h;obtain⟨tb,htb,h⟩:=h;have ihb:=fun {o1:Out St} (h1:Ec cf tb ρ=some o1)=>rR hF hti cI hm b htb h1 hl hi
  have mN:∀ o1:Out St,Post E ρ o1->Wp P E F b s ρ o1->pJ id o1.kind=false->Wp P E F (.block id b) s ρ o1:=by
   intro o1 hp hw hk a' w G Q hR hQ;refine wp_block (hw a' w G _ hR fun a1 w1 G1 rz=>?_);have:=hQ a1 w1 G1 rz
   revert this hk
   have:=hp.nice
   revert this
   cases o1.kind with
   | exit j =>
    intro h1 h2 h3;simp only[Bbv,Exit.inBlock];rw[if_neg]
    ·exact h3
    ·intro e
     simp[pJ,e]at h2
   |fall=>exact fun h1 h2 h3=>h3
   |ret=>exact fun h1 h2 h3=>h3
   |cont=>exact fun h1 h2 h3=>h1.elim
   |yield i=>exact fun h1 h2 h3=>h1.elim
  cases vn:tb.no (pJ id) with
  | true =>
   rw[vn,cond_true,Zb6]at h;subst h;obtain⟨hp,hw⟩:=ihb ho;exact⟨hp,mN o hp hw (wY vn ho)⟩
  | false =>
   rw[vn,cond_false]at h
   have vf:∀ {o1:Out St} {o:Out St},Ec cf tb ρ=some o1->Sac id o1.kind=true->o.kind=.fall->(∀ a w G,R E.ntmps F o1.ext.get o1.env a w G->∃ G',R E.ntmps F o.ext.get o.env a w G')->Wp P E F (.block id b) s ρ o:=by
    intro o1 o h1 hk ho hg a' w G Q hR hQ;obtain⟨hp,hw⟩:=ihb h1;refine wp_block (hw a' w G _ hR fun a1 w1 G1 rz=>?_);obtain⟨G2,zl⟩:=hg a1 w1 G1 rz;have:=hQ a1 w1 G2 zl;rw[ho]at this
    revert hk
    cases o1.kind with
    | exit j =>
     intro hk;simp only[Sac,Ac8]at hk;simp only[Bbv,Exit.inBlock];rw[if_pos hk.symm];exact this
    |fall=>exact fun _=>this
    |ret=>intro hk;cases hk
    |cont=>intro hk;cases hk
    |yield i=>intro hk;cases hk
   split at h
   ·obtain⟨o1,h1,h2⟩:=jT h ho
    obtain⟨hp,hw⟩:=ihb h1
    rcases h2 with ⟨h3,h4⟩|⟨h3,h4⟩
    ·subst h4
     refine⟨⟨trivial,hp.len,hp.inv,hp.pre⟩,vf h1 ?_ rfl fun a w G hR=>⟨G,hR⟩⟩
     revert h3
     cases o1.kind<;>simp[pJ,Sac]
    ·subst h4
     exact⟨hp,mN _ hp hw h3⟩
   ·simp only[Zb4]at h
    obtain⟨⟨t',τ⟩,hj,h⟩:=h;simp only[Zb6]at h;subst h;obtain⟨o1,h1,h2⟩:=Ab3 hF hj rfl (fun _=>rfl) ho hl fun o1 h1=>(ihb h1).1
    rcases h2 with ⟨h3,vals,h4,h5,h6,h7⟩|⟨h3,h4⟩
    ·rw[fZ]at h4
     obtain rfl:=Ac9 h4;exact⟨⟨trivial,h5,h6,vals,rfl⟩,vf h1 h3 rfl fun a w G hR=>h7 a w G hR⟩
    ·subst h4
     obtain⟨hp,hw⟩:=ihb h1;refine⟨hp,mN _ hp hw ?_⟩
     revert h3
     cases o.kind<;>simp[pJ,Sac]
 | .loop b, ex, live, s, t, ρ, o, h, ho, hl, hi => by
  simp only[sxC]at h;split at h
  ·exact Laj hF (fun h1 h2 h3 h4=>rR hF hti cI hm b h1 h2 h3 h4) (Qap h) ho hl hi
  ·exact Laj hF (fun h1 h2 h3 h4=>rR hF hti cI hm b h1 h2 h3 h4) (Iam h) ho hl hi
 | .scope _, ex, live, s, t, ρ, o, h, ho, hl, hi => by
  simp only[sxC,Zb6]at h;subst h;rw[jM]at ho;cases ho
 | .goto _, ex, live, s, t, ρ, o, h, ho, hl, hi => by
  simp only[sxC,Zb6]at h;subst h;rw[jM]at ho;cases ho
 | .rangeFunc _ _ _ _, ex, live, s, t, ρ, o, h, ho, hl, hi => by
  simp only[sxC,Zb6]at h;subst h;rw[jM]at ho;cases ho
 | .refuse _, ex, live, s, t, ρ, o, h, ho, hl, hi => by
  simp only[sxC,Zb6]at h;subst h;rw[jM]at ho;cases ho
end
end Go.Proofs.YtcbkmmhkccnamaaGreat.Rf
