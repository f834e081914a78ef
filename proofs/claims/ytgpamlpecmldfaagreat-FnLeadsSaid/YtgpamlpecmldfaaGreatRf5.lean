import Derived.Test.YtgpamlpecmldfaaGreatRf4
import Derived.Orders
set_option linter.all false
open Array renaming getElem?_eq_getElem → Wbq, getD_eq_getD_getElem? → Wb2, getElem?_toList → Xbk
open Bool renaming and_eq_true → Vbk, not_true → Vbt, not_eq_true' → Vb9, or_eq_true → Wb9, false_or → Xba, or_true → Xbw
open List renaming getElem?_eq_some_iff → Vbn, mem_append_left → Vbo, mem_singleton → Vbp, getElem?_eq_getElem → Vbq, mem_append_right → Vbr, mem_cons → Vbu, getElem?_cons_zero → Vbv, length_append → Vbw, append_assoc → Vbx, getD_eq_getElem?_getD → Vby, mem_cons_of_mem → Vb1, getElem?_append_left → Vb2, mem_cons_self → Vb7, length_cons → Wbb, all_eq_true → Wbg, append_nil → Wbo, nil_append → Wby, mem_map → Wb3, mem_map_of_mem → Xbf, not_mem_nil → Xbl, getElem?_set → Xbu, mem_filter → Xb2, mem_range → Ybu, isEmpty_iff → Ybx
open Nat renaming le_refl → Vb6, lt_or_ge → Wbc, zero_add → Wbj, beq_eq → Wbl, add_zero → Wbv, blt_eq → Wb0, ble_eq → Wb6, blt → Xbe, zero_le → Xby, testBit → Xb6, lt_trichotomy → Ybp, le_succ → Ybq, le_add_right → Yb2
open Option renaming bind_eq_some_iff → Vbj, bind_some → Vbs, map_eq_some_iff → Vb4, map_some → Wb5, getD_some → Xbq
open Option.some renaming injEq → Vbl, inj → Wbk
open Prod.mk renaming injEq → Wbd
namespace Go.Proofs.YtgpamlpecmldfaaGreat.Rf
theorem mem_range {x:Nat}:∀ {n a:Nat},x∈range a n↔a<=x/\x<a+n
 |0,a=>by simp[range]
 | n + 1, a => by
  simp only[range,Vbu,mem_range];omega
theorem uB {cJ ec r:Nat}(h:r<cJ):Tae cJ ec r=r:=by
 unfold Tae
 have:Nat.ble cJ r=false:=by
  cases e:Nat.ble cJ r with
  |false=>rfl
  |true=>simp only[Wb6]at e;omega
 rw[this];rfl
theorem Naz {cJ ec r:Nat}(h:cJ<=r):Tae cJ ec r=ec+(r-cJ):=by
 unfold Tae;have:Nat.ble cJ r=true:=by simpa using h
 rw[this];rfl
def vP (eM ec cJ:Nat):Ow->Ow
 |.slc r p=>if r<eM then .slc r p else if ec<=r then .slc (cJ+(r-ec)) p else .oth
 |o=>o
theorem Wac {eM ec cJ:Nat}{o:Ow}{r:Nat}{p:List Nat}(h0:eM<=cJ)(h:vP eM ec cJ o=.slc r p):o=.slc (Tae cJ ec r) p:=by
 cases o with
 | slc s q =>
  simp only[vP]at h;split at h
  ·injection h with h1 h2
   subst h1 h2;rw[uB (by omega)]
  ·split at h
   ·injection h with h1 h2
    subst h1 h2;rw[Naz (by omega)];congr 1;omega
   ·cases h
 |_=>simp only[vP]at h;cases h
theorem Ha3 {eM ec cJ r:Nat}{p:List Nat}(h0:eM<=cJ)(hB:eM<=ec)(hr:r<eM\/cJ<=r):vP eM ec cJ (.slc (Tae cJ ec r) p)=.slc r p:=by
 simp only[vP]
 rcases hr with h|h
 ·rw[uB (by omega),if_pos h]
 ·rw[Naz h,if_neg (by omega),if_pos (by omega)]
  congr 1;omega
structure Ab1 (τ:St) (σ:Nat->Option aQ) (gn ρ:List D) (G' G:Gh) (N n:Nat) (xs:List aI) (cJ ec eM:Nat):Prop where
 at_:∀ x,aY N x=true->x.val gn=(Na0 n xs x).val ρ
 le:eM<=cJ
 leB:eM<=ec
 hdr:∀ r,G'.hdr r=G.hdr (Tae cJ ec r)
 own:∀ b,G'.own b=vP eM ec cJ (G.own b)
 bx:G'.bx=G.bx
 valid:∀ r k,r<eM->mU τ.get r k->mU σ r k
 live:∀ r k m,r<eM->zI τ.get r k m->zI σ r k m
theorem Da8 {τ:St}{eM:Nat}:∀ {deps:List (Nat×Nat)},Pa1 τ eM deps=true->∀ z∈deps,z.1<eM/\jK τ.get z.1 z.2
 |[],_,z,hz=>by simp at hz
 | (r, k) :: d, h, z, hz => by
  simp only[Pa1,Vbk]at h
  rcases Vbu.1 hz with rfl|hz
  ·refine⟨by simpa using h.1.1,?_⟩
   have h2:=h.1.2;split at h2
   ·rename_i x m v e;exact⟨_,_,_,_,e,fun hs=>by rcases hs with hs|hs<;>cases hs⟩
   ·rename_i x m v r' e;exact⟨_,_,_,_,e,fun hs=>by rcases hs with hs|hs<;>cases hs⟩
   ·rename_i x m v st om rz e;exact⟨_,_,_,_,e,fun _=>by simpa using h2⟩
   ·cases h2
  ·exact Da8 h.2 z hz
section
variable {τ:St} {σ:Nat->Option aQ} {gn ρ:List D} {G' G:Gh} {w:World} {N n:Nat} {xs:List aI} {cJ ec eM:Nat}
theorem Ab1.ownLow (h:Ab1 τ σ gn ρ G' G N n xs cJ ec eM){b r:Nat}{p:List Nat}(hr:r<eM)(hb:G.own b=.slc r p):G'.own b=.slc r p:=by
 rw[h.own,hb];have h1:Tae cJ ec r=r:=uB (by have:=h.le;omega);have h2:=Ha3 (p:=p) h.le h.leB (.inl hr:r<eM\/cJ<=r);rw[h1]at h2;exact h2
theorem Ab1.frz (h:Ab1 τ σ gn ρ G' G N n xs cJ ec eM){b:Nat}(hb:G.own b=.frz):G'.own b=.frz:=by
 rw[h.own,hb];rfl
theorem Ab1.allow (h:Ab1 τ σ gn ρ G' G N n xs cJ ec eM){deps:List (Nat×Nat)}(hd:∀ z∈deps,z.1<eM){b:Nat}(hb:Go.Proofs.YtgpamlpecmldfaaGreat.Rf.allow G deps b):Go.Proofs.YtgpamlpecmldfaaGreat.Rf.allow G' deps b:=by
 rcases hb with hb|⟨r,k,p,hm,hb⟩
 ·exact .inl (h.frz hb)
 ·exact .inr ⟨r,k,p,hm,h.ownLow (hd _ hm) hb⟩
theorem Ab1.path (h:Ab1 τ σ gn ρ G' G N n xs cJ ec eM){p:List (aI×Nat×Nat)}(hp:(p.all fun x=>aY N x.1)=true):bB gn p=bB ρ (p.map fun x=>(Na0 n xs x.1,x.2)):=by
 unfold bB;rw[List.map_map];apply List.map_congr_left;intro x hx;rw[Wbg]at hp;simp only[Function.comp,lN,h.at_ x.1 (hp x hx)]
mutual
theorem aB.fit (h:Ab1 τ σ gn ρ G' G N n xs cJ ec eM):∀ (l:aP) (v:Value),l.inScope N=true->l.wf τ eM=true->aB σ ρ G w (l.sub n xs cJ ec) v->aB τ.get gn G' w l v
 |.dead,_,_,_,hl=>by simpa[aP.sub,aB] using hl
 | .sc x, v, hs, _, hl => by
  simp only[aP.inScope]at hs;simp only[aP.sub,aB]at hl ⊢;rw[h.at_ x hs];exact hl
 | .su g x, v, hs, _, hl => by
  simp only[aP.inScope,Vbk]at hs;obtain⟨y,b⟩:=g;simp only[aP.sub,aB]at hl ⊢;have hg:gOn gn (some (y,b))=gOn ρ (some (Na0 n xs y,b)):=by simp only[gOn,h.at_ y hs.2]
  rw[h.at_ x hs.1,hg];exact hl
 | .ex r, v, _, hw, hl => by
  simp only[aP.wf]at hw;simp only[aP.sub,aB]at hl ⊢;exact⟨by rw[h.hdr];exact hl.1,hw,hl.2.2⟩
 | .sn deps p nie x, v, hs, hw, hl => by
  simp only[aP.inScope,Vbk]at hs;simp only[aP.wf]at hw;have hd:=Da8 hw;simp only[aP.sub,aB]at hl ⊢;rw[h.at_ x hs.1];refine⟨⟨hl.1.1,fun z hz=>(hd z hz).2⟩,fun hv=>?_⟩;obtain⟨h1,h2,h3⟩:=hl.2 fun z hz=>h.valid _ _ (hd z hz).1 (hv z hz)
  refine⟨h1.mono fun b hb=>⟨h.allow (fun z hz=>(hd z hz).1) hb,rfl⟩,h2,?_⟩
  cases p with
  |no=>trivial
  | view =>
   intro r k m e iS;have hr:=(hd (r,k) (by simp[e])).1;have:=(h3 r k m e (h.live r k m hr iS)).mono (own':=G'.own) (w':=w) (q:=[]) (q':=[]) (r':=r) (fun b hb=>⟨h.frz hb,rfl⟩) [] rfl (fun b t hb=>⟨h.ownLow hr hb,rfl⟩);simpa using this
  | suf sz lo =>
   intro r k m e iS;have hr:=(hd (r,k) (by simp[e])).1;have h4:=h3 r k m e (h.live r k m hr iS)
   have h5:lN gn lo=lN ρ (Na0 n xs lo):=by
    unfold lN;rw[h.at_ lo hs.2]
   rw[h5];rw[h.hdr,uB (by have:=h.le;omega)];exact h4
  | path p =>
   intro r k m e iS;have hr:=(hd (r,k) (by simp[e])).1;obtain⟨h4,h5,h6⟩:=h3 r k m e (h.live r k m hr iS);rw[h.path hs.2];rw[List.length_map]at h4 h5;refine⟨h4,?_,?_⟩
   ·have:=h5.mono (own':=G'.own) (w':=w) (q:=[]) (q':=[]) (r':=r) (fun b hb=>⟨h.frz hb,rfl⟩) _ rfl (fun b t hb=>⟨h.ownLow hr hb,rfl⟩)
    rw[Wby]at this;exact this
   ·rw[h.hdr,uB (by have:=h.le;omega)]
    exact zO.mono _ _ _ _ _ (fun b t hb=>⟨h.ownLow hr hb,rfl⟩) h6
 | .px b off, v, _, hw, hl => by
  simp only[aP.wf]at hw;simp only[aP.sub,aB]at hl ⊢;exact⟨by rw[h.bx];exact hl.1,hw⟩
 | .pe l sz i off, v, hs, hw, hl => by
  simp only[aP.inScope,Vbk]at hs;simp only[aP.wf]at hw;simp only[aP.sub,aB]at hl ⊢;obtain⟨a,n,c,k,iv,h1,h2⟩:=hl;exact⟨a,n,c,k,iv,aB.fit h l _ hs.1 hw h1,by rw[h.at_ i hs.2];exact h2⟩
 | .rp deps sz x, v, hs, hw, hl => by
  simp only[aP.inScope]at hs;simp only[aP.wf]at hw;have hd:=Da8 hw;simp only[aP.sub,aB]at hl ⊢;rw[h.at_ x hs];refine⟨⟨hl.1.1,fun z hz=>(hd z hz).2⟩,fun hv=>?_⟩
  rcases hl.2 fun z hz=>h.valid _ _ (hd z hz).1 (hv z hz) with h1|⟨a,row,h1,h2,h3⟩
  ·exact .inl h1
  ·exact .inr ⟨a,row,h1,h2,h3.mono fun b hb=>⟨h.allow (fun z hz=>(hd z hz).1) hb,rfl⟩⟩
 |.pn,v,_,_,hl=>by simpa[aP.sub,aB] using hl
 | .clo f fS, v, hs, hw, hl => by
  simp only[aP.inScope]at hs;simp only[aP.wf]at hw;simp only[aP.sub,aB]at hl ⊢;obtain⟨vs,h1,h2⟩:=hl;exact⟨vs,h1,aD.fit h fS vs hs hw h2⟩
theorem aD.fit (h:Ab1 τ σ gn ρ G' G N n xs cJ ec eM):∀ (ls:List aP) (vs:List Value),bG N ls=true->oQ τ eM ls=true->aD σ ρ G w (iD n xs cJ ec ls) vs->aD τ.get gn G' w ls vs
 |[],vs,_,_,hl=>by simpa[iD,aD] using hl
 | l :: ls, vs, hs, hw, hl => by
  simp only[bG,Vbk]at hs;simp only[oQ,Vbk]at hw;simp only[iD,aD]at hl ⊢;obtain⟨u,us,e,h1,h2⟩:=hl;exact⟨u,us,e,aB.fit h l u hs.1 hw.1 h1,aD.fit h ls us hs.2 hw.2 h2⟩
end
theorem yZ:∀ {d d':List (Nat×Nat)},xL d d'=true->d=d'
 |[],[],_=>rfl
 |[],_::_,h=>by simp[xL]at h
 |_::_,[],h=>by simp[xL]at h
 | (a, b) :: r, (a', b') :: r', h => by
  simp only[xL,Vbk,Wbl]at h;rw[h.1.1,h.1.2,yZ h.2]
theorem Oat:∀ {d d':List (aI×Nat×Nat)},Kap d d'=true->d=d'
 |[],[],_=>rfl
 |[],_::_,h=>by simp[Kap]at h
 |_::_,[],h=>by simp[Kap]at h
 | (a, b, c) :: r, (a', b', c') :: r', h => by
  simp only[Kap,Vbk,Wbl]at h;rw[aI.beq0_eq h.1.1.1,h.1.1.2,h.1.2,Oat h.2]
theorem Pth.beq0_eq {p q:Pth}(h:p.beq0 q=true):p=q:=by
 cases p<;>cases q<;>simp only[Pth.beq0]at h<;>first|rfl|cases h|skip
 ·rw[Oat h]
 ·simp only[Vbk,Wbl]at h
  rw[h.1,aI.beq0_eq h.2]
mutual
theorem aP.beq0_eq:∀ {a b:aP},a.beq0 b=true->a=b
 |.dead,b,h=>by cases b<;>first | rfl | (simp[aP.beq0]at h)
 | .sc x, b, h => by
  cases b<;>simp only[aP.beq0]at h<;>first|cases h|skip
  rw[aI.beq0_eq h]
 | .su g x, b, h => by
  cases b<;>simp only[aP.beq0]at h<;>first|cases h|skip
  rename_i g' x';simp only[Vbk,beq_iff_eq]at h;obtain⟨y,u⟩:=g;obtain⟨y',u'⟩:=g';have h1:=aI.beq0_eq h.1.1;have h2:u=u':=h.1.2;dsimp only at h1;rw[h1,h2,aI.beq0_eq h.2]
 | .ex r, b, h => by
  cases b<;>simp only[aP.beq0]at h<;>first|cases h|skip
  simp only[Wbl]at h;rw[h]
 | .sn d p e x, b, h => by
  cases b<;>simp only[aP.beq0]at h<;>first|cases h|skip
  simp only[Vbk,beq_iff_eq]at h;rw[yZ h.1.1.1,Pth.beq0_eq h.1.1.2,h.1.2,aI.beq0_eq h.2]
 | .px c o, b, h => by
  cases b<;>simp only[aP.beq0]at h<;>first|cases h|skip
  simp only[Vbk,Wbl]at h;rw[h.1,h.2]
 | .pe l s i o, b, h => by
  cases b<;>simp only[aP.beq0]at h<;>first|cases h|skip
  simp only[Vbk,Wbl]at h;rw[aP.beq0_eq h.1.1.1,h.1.1.2,aI.beq0_eq h.1.2,h.2]
 | .rp d s x, b, h => by
  cases b<;>simp only[aP.beq0]at h<;>first|cases h|skip
  simp only[Vbk,Wbl]at h;rw[yZ h.1.1,h.1.2,aI.beq0_eq h.2]
 |.pn,b,h=>by cases b<;>first | rfl | (simp[aP.beq0]at h)
 | .clo f l, b, h => by
  cases b<;>simp only[aP.beq0]at h<;>first|cases h|skip
  simp only[Vbk,Wbl]at h;rw[h.1,Cae h.2]
theorem Cae:∀ {a b:List aP},sW a b=true->a=b
 |[],b,h=>by cases b<;>first | rfl | (simp[sW]at h)
 | a :: r, b, h => by
  cases b<;>simp only[sW]at h<;>first|cases h|skip
  simp only[Vbk]at h;rw[aP.beq0_eq h.1,Cae h.2]
end
theorem wT {a b:aP}(h:yP a b=true){v:Value}(hb:aB σ ρ G w b v):aB σ ρ G w a v:=by
 unfold yP at h;split at h
 ·simp only[aB]
  exact hb.one h
 ·rename_i d x
  split at h
  ·rename_i d' p nie x'
   simp only[Vbk]at h;obtain rfl:=yZ h.1;obtain rfl:=aI.beq0_eq h.2;simp only[aB]at hb ⊢;exact⟨hb.1,fun hv=>⟨(hb.2 hv).1,(fun e=>absurd e (by decide)),trivial⟩⟩
  ·cases h
 ·rw[aP.beq0_eq h];exact hb
theorem Cab:∀ {a b:List aP},eU a b=true->∀ {vs:List Value},aD σ ρ G w b vs->aD σ ρ G w a vs
 |[],[],_,vs,hb=>hb
 |[],_::_,h,vs,hb=>by simp[eU]at h
 |_::_,[],h,vs,hb=>by simp[eU]at h
 | a :: r, b :: s, h, vs, hb => by
  simp only[eU,Vbk]at h;simp only[aD]at hb ⊢;obtain⟨u,us,e,h1,h2⟩:=hb;exact⟨u,us,e,wT h.1 h1,Cab h.2 h2⟩
theorem Cac:∀ {a b:List aP},eU a b=true->a.length=b.length
 |[],[],_=>rfl
 |[],_::_,h=>by simp[eU]at h
 |_::_,[],h=>by simp[eU]at h
 | a :: r, b :: s, h => by
  simp only[eU,Vbk]at h;simp[Cac h.2]
theorem Cad:∀ {a b:List aP},eU a b=true->∀ {j:Nat} {l:aP},a[j]?=some l->∃ m,b[j]?=some m/\yP l m=true
 |[],[],_,j,l,hj=>by simp at hj
 |[],_::_,h,_,_,_=>by simp[eU]at h
 |_::_,[],h,_,_,_=>by simp[eU]at h
 | a :: r, b :: s, h, j, l, hj => by
  simp only[eU,Vbk]at h
  cases j with
  | zero =>
   simp only[Vbv,Vbl]at hj;subst hj;exact⟨b,rfl,h.1⟩
  |succ j=>exact Cad h.2 (by simpa using hj)
theorem Caa:∀ {ls:List aP} {j:Nat} {l:aP},ls[j]?=some l->(iD n xs cJ ec ls)[j]?=some (l.sub n xs cJ ec)
 |[],j,l,h=>by simp at h
 | m :: ls, 0, l, h => by
  simp only[Vbv,Vbl]at h;subst h;rfl
 | m :: ls, j + 1, l, h => by
  simp only[iD,List.getElem?_cons_succ]at h ⊢;exact Caa h
theorem Ba9:∀ {ls:List aP},(iD n xs cJ ec ls).length=ls.length
 |[]=>rfl
 |m::ls=>by simp[iD,Ba9 (ls:=ls)]
theorem Ea0:∀ {ls:List aP} {j:Nat} {l:aP},oQ τ eM ls=true->ls[j]?=some l->l.wf τ eM=true
 |[],j,l,_,h=>by simp at h
 | m :: ls, 0, l, hs, h => by
  simp only[oQ,Vbk]at hs;simp only[Vbv,Vbl]at h;rw[<- h];exact hs.1
 | m :: ls, j + 1, l, hs, h => by
  simp only[oQ,Vbk]at hs;exact Ea0 hs.2 (by simpa using h)
end
theorem Aau {s:St}{k:Nat}{c:aQ}(h:s.get k=some c):(∃ t,k=kT t/\t<s.nt)\/(∃ b,k=kB b/\b<s.nb)\/(∃ r,k=kR r/\r<s.nr):=by
 unfold St.get at h
 cases hk:vT s.nt s.nb s.nr k with
 |false=>rw[hk]at h;cases h
 | true =>
  unfold vT at hk
  cases b0:Nat.beq (k % 3) 0 with
  | true =>
   rw[b0,cond_true,Wb0]at hk;simp only[Wbl]at b0;exact .inl ⟨k / 3,by unfold kT;omega,hk⟩
  | false =>
   rw[b0,cond_false]at hk;have n0:k % 3≠0:=fun e=>by rw[e]at b0;cases b0
   cases b1:Nat.beq (k % 3) 1 with
   | true =>
    rw[b1,cond_true,Wb0]at hk;simp only[Wbl]at b1;exact .inr (.inl ⟨k / 3,by unfold kB;omega,hk⟩)
   | false =>
    rw[b1,cond_false,Wb0]at hk;have n1:k % 3≠1:=fun e=>by rw[e]at b1;cases b1
    exact .inr (.inr ⟨k / 3,by unfold kR;omega,hk⟩)
theorem uO {n:Nat}{xs:List aI}{cJ ec:Nat}{τ s:St}:∀ {ks:List Nat},Car n xs cJ ec τ s ks=true->∀ k∈ks,dB n xs cJ ec (τ.get k) (s.get k)=true
 |[],_,k,hk=>by simp at hk
 | k' :: ks, h, k, hk => by
  simp only[Car,Vbk]at h
  rcases Vbu.1 hk with rfl|hk
  ·exact h.1
  ·exact uO h.2 k hk
theorem Cas {n:Nat}{xs:List aI}{cJ ec:Nat}{τ s:St}:∀ {ks:List Nat},Cat n xs cJ ec τ s ks=true->∀ r∈ks,dB n xs cJ ec (τ.get (kR r)) (s.get (kR (Tae cJ ec r)))=true
 |[],_,k,hk=>by simp at hk
 | k' :: ks, h, k, hk => by
  simp only[Cat,Vbk]at h
  rcases Vbu.1 hk with rfl|hk
  ·exact h.1
  ·exact Cas h.2 k hk
theorem Dal {τ:St}{eM:Nat}:∀ {ks:List Nat},Gaj τ eM ks=true->∀ k∈ks,tK τ eM k (τ.get k)=true
 |[],_,k,hk=>by simp at hk
 | k' :: ks, h, k, hk => by
  simp only[Gaj,Vbk]at h
  rcases Vbu.1 hk with rfl|hk
  ·exact h.1
  ·exact Dal h.2 k hk
theorem Kar {τ:St}:∀ {ks:List Nat},Ta0 τ ks=true->∀ k∈ks,τ.get k=none
 |[],_,k,hk=>by simp at hk
 | k' :: ks, h, k, hk => by
  simp only[Ta0,Vbk,Option.isNone_iff_eq_none]at h
  rcases Vbu.1 hk with rfl|hk
  ·exact h.1
  ·exact Kar h.2 k hk
structure Aae (E:Env) (s0:St) (cJ len:Nat) (τ:St):Prop where
 nv:τ.nv=s0.nv+len
 nt1:E.ntmps<=τ.nt
 nt2:τ.nt<=E.ntmps+E.ngh
 nr:τ.nr=cJ+len
 le:s0.nr<=cJ
 none:∀ r,s0.nr<=r->r<cJ->τ.get (kR r)=none
 wf:∀ k c,τ.get k=some c->tK τ s0.nr k (some c)=true
theorem Aai {E:Env}{s0:St}{cJ len:Nat}{τ:St}(h:Eam E s0 cJ len τ=true):Aae E s0 cJ len τ:=by
 simp only[Eam,Vbk,Wbl,Wb6]at h;obtain⟨⟨⟨⟨⟨⟨h1,h2⟩,h3⟩,h4⟩,h5⟩,h6⟩,h7⟩:=h
 have jo:∀ r,s0.nr<=r->r<cJ->τ.get (kR r)=Option.none:=fun r ha hb =>
  Kar h6 _ (Wb3.2 ⟨r,mem_range.2 ⟨ha,by omega⟩,rfl⟩)
 refine⟨h1,h2,h3,h4,h5,jo,fun k c hk=>?_⟩
 have:k∈(range 0 τ.nt).map kT++(range 0 τ.nb).map kB++((range 0 s0.nr++range cJ len).map kR):=by
  rcases Aau hk with ⟨t,rfl,ht⟩|⟨b,rfl,hb⟩|⟨r,rfl,hr⟩
  ·exact Vbo _ (Vbo _ (Wb3.2 ⟨t,mem_range.2 ⟨by omega,by omega⟩,rfl⟩))
  ·exact Vbo _ (Vbr _ (Wb3.2 ⟨b,mem_range.2 ⟨by omega,by omega⟩,rfl⟩))
  ·refine Vbr _ (Wb3.2 ⟨r,?_,rfl⟩)
   rcases Wbc r s0.nr with h8|h8
   ·exact Vbo _ (mem_range.2 ⟨by omega,by omega⟩)
   ·rcases Wbc r cJ with h9|h9
    ·rw[jo r h8 h9]at hk;cases hk
    ·exact Vbr _ (mem_range.2 ⟨h9,by omega⟩)
 have:=Dal h7 k this;rw[hk]at this;exact this
theorem uV {τ:St}{eM k:Nat}{c:aQ}(h:tK τ eM k (some c)=true):dA τ.nv c=true:=by
 simp only[tK,Vbk]at h;exact h.1
theorem Aae.inScope {E:Env}{s0:St}{cJ len:Nat}{τ:St}(h:Aae E s0 cJ len τ):Aaf τ.get τ.nv:=fun k c hk=>uV (h.wf k c hk)
theorem Ma2 {n:Nat}{xs:List aI}{cJ ec:Nat}{x:aI}{m v:Nat}{st:RSt}{c:Option aQ}(h:dB n xs cJ ec (some (.root x m v st)) c=true) :
  st=.gone\/∃ x',c=some (.root x' m v st)/\Na0 n xs x=x':=by
 cases st with
 |gone=>exact .inl rfl
 | _ =>
  right
  cases c with
  |none=>simp[dB]at h
  | some c =>
   cases c with
   | root x' m' v' ua =>
    simp only[dB,Vbk,Wbl,Baw,decide_eq_true_eq]at h;exact⟨x',by rw[h.1.1.1,h.1.1.2,h.1.2],aI.beq0_eq h.2⟩
   |_=>simp[dB]at h
theorem Pa3 {n:Nat}{xs:List aI}{cJ ec:Nat}{l:aP}{c:Option aQ}(h:dB n xs cJ ec (some (.slot none (.one l))) c=true) :
  ∃ b,c=some (.slot none (.one b))/\yP (l.sub n xs cJ ec) b=true:=by
 cases c with
 |none=>simp[dB]at h
 | some c =>
  cases c with
  | slot g v =>
   cases g with
   |some g=>simp[dB]at h
   |none=>cases v<;>first | exact⟨_,rfl,by simpa[dB] using h⟩ | simp[dB]at h
  |_=>simp[dB]at h
theorem Pa4 {n:Nat}{xs:List aI}{cJ ec:Nat}{l:List aP}{c:Option aQ}(h:dB n xs cJ ec (some (.slot none (.agg l))) c=true) :
  ∃ b,c=some (.slot none (.agg b))/\eU (iD n xs cJ ec l) b=true:=by
 cases c with
 |none=>simp[dB]at h
 | some c =>
  cases c with
  | slot g v =>
   cases g with
   |some g=>simp[dB]at h
   |none=>cases v<;>first | exact⟨_,rfl,by simpa[dB] using h⟩ | simp[dB]at h
  |_=>simp[dB]at h
theorem Faj {n:Nat}{xs:List aI}{cJ ec:Nat}{ro:Bool}{l:List aP}{c:Option aQ}(h:dB n xs cJ ec (some (.box ro l)) c=true) :
  ∃ b,c=some (.box ro b)/\eU (iD n xs cJ ec l) b=true:=by
 cases c with
 |none=>simp[dB]at h
 | some c =>
  cases c with
  | box l7 b =>
   simp only[dB,Vbk,beq_iff_eq]at h;exact⟨b,by rw[h.1],h.2⟩
  |_=>simp[dB]at h
theorem Fbg (t:Nat):kT t % 3=0:=by unfold kT;omega
theorem Oa6 (t:Nat):kB t % 3=1:=by unfold kB;omega
theorem Oa5 (t:Nat):kR t % 3=2:=by unfold kR;omega
theorem Maf {s:St}{k:Nat}{c:aQ}(h:s.get k=some c)(hm:Nat.beq (k % 3) 0=true):∃ t,k=kT t/\t<s.nt:=by
 rw[Wbl]at hm
 rcases Aau h with h|⟨b,rfl,hb⟩|⟨r,rfl,hr⟩
 ·exact h
 ·rw[Oa6]at hm;omega
 ·rw[Oa5]at hm;omega
theorem Gb2 {s:St}{k:Nat}{c:aQ}(h:s.get k=some c)(hm:Nat.beq (k % 3) 1=true):∃ t,k=kB t/\t<s.nb:=by
 rw[Wbl]at hm
 rcases Aau h with ⟨b,rfl,hb⟩|h|⟨r,rfl,hr⟩
 ·rw[Fbg]at hm;omega
 ·exact h
 ·rw[Oa5]at hm;omega
theorem Dbp {s:St}{k:Nat}{c:aQ}(h:s.get k=some c)(hm:Nat.beq (k % 3) 2=true):∃ t,k=kR t/\t<s.nr:=by
 rw[Wbl]at hm
 rcases Aau h with ⟨b,rfl,hb⟩|⟨r,rfl,hr⟩|h
 ·rw[Fbg]at hm;omega
 ·rw[Oa6]at hm;omega
 ·exact h
theorem R.fit {E:Env}{F:bK}{τ s s0:St}{ρ0 e:List D}{a:Act}{w:World}{G:Gh}{xs:List aI}{cJ ec len:Nat}
  (hR:R E.ntmps F s.get (ρ0++e) a w G) (hn:ρ0.length=s0.nv) (uf:xs.length=len) (mc:Aae E s0 cJ len τ)
  (fa:oI E s0.nv xs s0.nr cJ ec len τ s=true) (hle:s0.nr<=ec):∃ G',R E.ntmps F τ.get (ρ0++xs.map (·.val (ρ0++e))) a w G':=by
 simp only[oI,Vbk]at fa;obtain⟨hf1,hf2⟩:=fa
 have lB:∀ t,t<τ.nt->dB s0.nv xs cJ ec (τ.get (kT t)) (s.get (kT t))=true:=fun t ht =>
  uO hf1 _ (Vbo _ (Wb3.2 ⟨t,mem_range.2 ⟨by omega,by have:=mc.nt2;omega⟩,rfl⟩))
 have pA:∀ b,b<τ.nb->dB s0.nv xs cJ ec (τ.get (kB b)) (s.get (kB b))=true:=fun b hb =>
  uO hf1 _ (Vbr _ (Wb3.2 ⟨b,mem_range.2 ⟨by omega,by omega⟩,rfl⟩))
 have fm:∀ r,r<s0.nr\/(cJ<=r/\r<cJ+len)->dB s0.nv xs cJ ec (τ.get (kR r)) (s.get (kR (Tae cJ ec r)))=true:=fun r hr =>
  Cas hf2 r (by
   rcases hr with hr|hr
   ·exact Vbo _ (mem_range.2 ⟨by omega,by omega⟩)
   ·exact Vbr _ (mem_range.2 hr))
 have hrk:∀ r c,τ.get (kR r)=some c->r<s0.nr\/(cJ<=r/\r<cJ+len):=by
  intro r c hk
  rcases Aau hk with ⟨t,e,_⟩|⟨t,e,_⟩|⟨r',e,hr⟩
  ·exact absurd e.symm iQ
  ·exact absurd e.symm fO
  ·obtain rfl:=fJ e
   rw[mc.nr]at hr
   rcases Wbc r s0.nr with h1|h1
   ·exact .inl h1
   ·rcases Wbc r cJ with h2|h2
    ·rw[mc.none r h1 h2]at hk;cases hk
    ·exact .inr ⟨h2,hr⟩
 have nz:∀ r x m v st,τ.get (kR r)=some (.root x m v st)->st=.live\/st=.frozen->∃ x',s.get (kR (Tae cJ ec r))=some (.root x' m v st)/\Na0 s0.nv xs x=x':=by
  intro r x m v st hk cA;have h1:=fm r (hrk r _ hk);rw[hk]at h1
  rcases Ma2 h1 with h2|h2
  ·rw[h2]at cA
   rcases cA with h|h<;>cases h
  ·exact h2
 let ρs:=ρ0++e
 let G':Gh:={ own:=fun b=>vP s0.nr ec cJ (G.own b),hdr:=fun r=>G.hdr (Tae cJ ec r),bx:=G.bx }
 have lE:∀ x,aY τ.nv x=true->x.val (ρ0++xs.map (·.val ρs))=(Na0 s0.nv xs x).val ρs:=by
  intro x hx
  cases x with
  |c d=>rfl
  | v i =>
   simp only[aY,Wb0]at hx;rw[mc.nv]at hx;simp only[Na0]
   cases hb:Xbe i s0.nv with
   | true =>
    simp only[Wb0]at hb;simp only[cond_true,aI.val,Vby,ρs];rw[Vb2 (by omega),Vb2 (by omega)]
   | false =>
    have n4:s0.nv<=i:=by
     rcases Wbc i s0.nv with h|h
     ·rw[<- Wb0,hb]at h;cases h
     ·exact h
    simp only[cond_false];have bj:i-s0.nv<xs.length:=by omega
    rw[Vby,Vbq bj,Xbq];simp only[aI.val,Vby];rw[List.getElem?_append_right (by omega),List.getElem?_map,hn,Vbq bj];rfl
 have H:Ab1 τ s.get (ρ0++xs.map (·.val ρs)) ρs G' G τ.nv s0.nv xs cJ ec s0.nr:=by
  refine⟨lE,mc.le,hle,fun _=>rfl,fun _=>rfl,rfl,fun r k hr hv=>?_,fun r k m hr hv=>?_⟩
  ·obtain⟨x,m,st,hk,cA⟩:=hv
   obtain⟨x',h1,-⟩:=nz r x m k st hk cA;rw[uB (by have:=mc.le;omega)]at h1;exact⟨x',m,st,h1,cA⟩
  ·obtain⟨x,hk⟩:=hv
   obtain⟨x',h1,-⟩:=nz r x m k .live hk (.inl rfl);rw[uB (by have:=mc.le;omega)]at h1;exact⟨x',h1⟩
 refine⟨G',hR.tmps,hR.defers,fun k c hk=>?_,?_,fun b ls hk hb ho=>?_⟩
 ·have mi:=mc.wf k c hk
  have k9:=uV mi
  cases c with
  | slot g v =>
   cases g with
   |some g=>simp[tK]at mi
   | none =>
    cases v with
    | dead =>
     simp only[tK,Vbk]at mi;obtain⟨t,rfl,ht⟩:=Maf hk mi.2;exact⟨t,rfl,fun _=>trivial⟩
    | one l =>
     simp only[tK,Vbk]at mi;obtain⟨t,rfl,ht⟩:=Maf hk mi.2.1;refine⟨t,rfl,fun _=>?_⟩;have h1:=lB t ht;rw[hk]at h1;obtain⟨b,h2,h3⟩:=Pa3 h1;have h4:aB s.get ρs G w b _:=hR.slot h2 rfl;simp only[dA,yD,Vbk]at k9;exact aB.fit H l _ k9.2 mi.2.2 (wT h3 h4)
    | agg ls =>
     simp only[tK,Vbk]at mi;obtain⟨t,rfl,ht⟩:=Maf hk mi.2.1;refine⟨t,rfl,fun _=>?_⟩;have h1:=lB t ht;rw[hk]at h1;obtain⟨b,h2,h3⟩:=Pa4 h1;obtain⟨vs,h4,h5⟩:dC s.get ρs G w (.agg b) _:=hR.slot h2 rfl;simp only[dA,yD,Vbk]at k9;exact⟨vs,h4,aD.fit H ls _ k9.2 mi.2.2 (Cab h3 h5)⟩
    |tup ts=>simp[tK]at mi
  | box ro ls =>
   simp only[tK,Vbk]at mi;obtain⟨b,rfl,hb⟩:=Gb2 hk mi.2.1;have h1:=pA b hb;rw[hk]at h1;obtain⟨bs,h2,h3⟩:=Faj h1;obtain⟨h4,h5,h6⟩:=hR.box h2;refine⟨b,rfl,h4,?_,fun j l hj=>?_⟩
   ·show vP _ _ _ _=_
    rw[h5];cases ro<;>rfl
   ·obtain⟨m,h7,h8⟩:=Cad h3 (Caa hj)
    obtain⟨v,h9,da,eo⟩:=h6 j m h7;simp only[dA]at k9;exact⟨v,h9,da,aB.fit H l v (oC k9 hj) (Ea0 mi.2.2 hj) (wT h8 eo)⟩
  | root x m cy st =>
   have hm:Nat.beq (k % 3) 2=true:=by
    cases st<;>simp only[tK,Vbk]at mi<;>first|exact mi.2|(exact absurd mi.2 (by decide))
   obtain⟨r,rfl,hr⟩:=Dbp hk hm;have ri:=hrk r _ hk;refine⟨r,rfl,by rw[hk];rfl,?_⟩;simp only[dA]at k9;have a7r:r<s0.nr\/cJ<=r:=ri.imp id (·.1)
   cases st with
   | live =>
    obtain⟨x',h1,h2⟩:=nz r x m cy .live hk (.inl rfl);have h3:=hR.root h1;simp only[bW]at h3 ⊢;rw[lE x k9,h2]
    have:=h3.mono (own':=G'.own) (w':=w) (q:=[]) (q':=[]) (r':=r) (fun b hb=>⟨H.frz hb,rfl⟩) [] rfl (fun b t hb=>⟨by
     show vP _ _ _ _=_
     rw[hb];exact Ha3 mc.le hle a7r,rfl⟩)
    simpa using this
   | frozen =>
    obtain⟨x',h1,h2⟩:=nz r x m cy .frozen hk (.inr rfl);obtain⟨h3,h4⟩:=hR.root h1;simp only[bW];rw[lE x k9,h2];refine⟨h3.mono fun b hb=>⟨H.frz hb,rfl⟩,fun b p hb=>?_⟩;exact h4 b p (Wac mc.le hb)
   |gone=>trivial
   |fwd r'=>simp[tK]at mi
 ·refine⟨hR.frame.os,hR.frame.tape,hR.frame.output,hR.frame.size,fun b hb ho=>?_,fun b j hb ho=>?_,fun b hb=>?_⟩
  ·obtain⟨h1,h2⟩:=hR.frame.keep b hb ho
   refine⟨h1,?_⟩;show vP _ _ _ _=_
   rw[h2]
   rcases ho with ho|ho<;>rw[ho]<;>rfl
  ·obtain⟨h1,h2⟩:=hR.frame.boxes b j hb ho
   refine⟨?_,h2⟩;show vP _ _ _ _=_
   rw[h1];rfl
  ·show vP _ _ _ _=_
   rw[hR.frame.fresh b hb];rfl
 ·have h1:=pA b (by
   rcases Aau hk with ⟨t,e,_⟩|⟨t,e,ht⟩|⟨r',e,hr⟩
   ·exact absurd e.symm mK
   ·obtain rfl:=Caj e;exact ht
   ·exact absurd e fO)
  rw[hk]at h1;obtain⟨bs,h2,h3⟩:=Faj h1;have h4:=hR.rng b bs h2 hb ho;rw[h4,<- Cac h3,Ba9]
def Yal (draw:Bool)(s:St)(r:bS):St:={ (s.puts r.upd) with nv:=s.nv+bM r.lets,nb:=s.nb+1,nr:=Sal draw s.nr r.upd }
inductive Naj (E:Env) (draw:Bool) (kq:Nat) (ops:List Oper):Nat->List Oper->St->List OpI->St->Prop
 |nil (i:Nat) (s:St):Naj E draw kq ops i [] s [] s
 | cons {i : Nat} {o : Oper} {os : List Oper} {s : St} {g : Option (aI × Bool)} {r : bS} {log : List Nat} {is : List OpI} {s' : St} (mv dw : Bool)
   (h1:(lY E ops mv dw s.nv s.nb s.nr o).run s.get=some ((g,r),log)) (h2:Dbk s g r=true)
   (h3:Naj E draw kq ops (i+1) os (Yal draw s r) is s'):Naj E draw kq ops i (o::os) s (⟨g,r,log,s.nb,s.nr⟩::is) s'
theorem Gaq {E:Env}{draw:Bool}{kq:Nat}{ops:List Oper}:∀ {os:List Oper} {i:Nat} {s:St} {acc is:List OpI} {s':St},Xai E draw kq ops i os s acc=.inl (is,s') ->
  ∃ js,is=acc.reverse++js/\Naj E draw kq ops i os s js s'
 | [], i, s, acc, is, s', h => by
  simp only[Xai,Sum.inl.injEq,Wbd]at h;obtain⟨rfl,rfl⟩:=h;exact⟨[],by simp,.nil i s⟩
 | o :: os, i, s, acc, is, s', h => by
  simp only[Xai]at h;split at h
  ·rename_i g r log cC
   cases ka:Dbk s g r with
   |false=>rw[ka]at h;simp at h
   | true =>
    rw[ka]at h;simp only[Vbt,cond_false]at h;obtain⟨js,h1,h2⟩:=Gaq h;exact⟨⟨g,r,log,s.nb,s.nr⟩::js,by rw[h1];simp,.cons _ _ cC ka h2⟩
  ·cases h
structure Dah (E:Env) (s:St):Prop where
 nt:E.ntmps<=s.nt
 sc:Aaf s.get s.nv
def Nai (cf:Nat->List D->Option (List D))(ρ:List D):Nat->List OpI->Prop
 |_,[]=>True
 |nv,a::r=>aJ cf ρ a.g nv a.res.lets/\Nai cf ρ (nv+bM a.res.lets) r
def Aa5 (P:Program)(E:Env)(F:bK)(cf:Nat->List D->Option (List D)):Prop :=
 ∀ (σ:Nat->Option aQ) (ρ:List D) (a:Act) (w:World) (G:Gh) (g:Option (aI×Bool)) (o:Oper) (Q:Exit->Act->World->Prop) (mv dw:Bool) (nv nb nr:Nat) (res:bS) (f:Operand) (args:Array Operand) (argTypes:Array TypeId),
  R E.ntmps F σ ρ a w G->fQ E.ntmps o->Dai σ nb nr->o.op=.call { callee:=.value f,args,argTypes } ->
  (qP E mv dw nv nb nr g o).eval σ=some res->res.upd.all (fun x=>zJ E.ntmps nb nr x.1)=true->aJ cf ρ g nv res.lets->gW P E F σ ρ a w g o Q res.upd
section
variable {P:Program} {E:Env} {F:bK} {cf:Nat->List D->Option (List D)} {draw:Bool}
theorem Kaq {s:St}{g:Option (aI×Bool)}{r:bS}(h:Dbk s g r=true) :
  qG s.nv g=true/\fD s.nv r.lets=true/\r.upd.all (fun x=>dA (s.nv+bM r.lets) x.2)=true:=by
 simp only[Dbk,Vbk]at h;exact⟨h.1.1.2,h.1.2,h.2⟩
theorem La7 {ops:List Oper}{mv dw:Bool}{s:St}{o:Oper}{g:Option (aI×Bool)}{r:bS}{log:List Nat}(hi:E.ntmps<=s.nt)
  (h1:(lY E ops mv dw s.nv s.nb s.nr o).run s.get=some ((g,r),log)) (h2:Dbk s g r=true):(Yal draw s r).get=upds s.get r.upd:=by
 funext k;exact Dbj h2 hi (jZ (RdM.run_eval h1)).2.2.2 draw _ k
theorem Dah.next {ops:List Oper}{mv dw:Bool}{s:St}{o:Oper}{g:Option (aI×Bool)}{r:bS}{log:List Nat}(hi:Dah E s)
  (h1:(lY E ops mv dw s.nv s.nb s.nr o).run s.get=some ((g,r),log)) (h2:Dbk s g r=true):Dah E (Yal draw s r):=by
 refine⟨?_,?_⟩
 ·show E.ntmps<=(s.puts r.upd).nt
  rw[(iY r.upd s).2.2.2];exact hi.nt
 ·rw[La7 hi.nt h1 h2]
  exact hi.sc.upds (Yb2 ..) (Kaq h2).2.2
theorem Ua9 {kq:Nat}{ops:List Oper}{i:Nat}{os:List Oper}{s s':St}{is:List OpI}(hc:Naj E draw kq ops i os s is s') :
  ∀ {s'':St} {ρ:List D} {o:Out St},s''.nv=s'.nv->ρ.length=s.nv->Ec cf (Gas (.leaf .fall [] s'') is) ρ=some o ->
  o.kind=.fall/\o.ext=s''/\o.env.length=s'.nv/\(∃ ds,o.env=ρ++ds)/\∀ ext,Nai cf (o.env++ext) s.nv is:=by
 induction hc with
 | nil i s =>
  intro s'' ρ o hv hl h;simp only[Gas,gH,Vbl]at h;subst h;exact⟨rfl,rfl,hl,⟨[],by simp⟩,fun _=>trivial⟩
 | cons mv dw h1 h2 h3 ih =>
  rename_i i o' os s g r log is s';intro s'' ρ o hv hl h;simp only[Gas]at h;obtain⟨hg,hs,-⟩:=Kaq h2;obtain⟨ds,h4,h5,h6⟩:=vZ (by rw[hl];exact hg) (by rw[hl];exact hs) h;obtain⟨h7,h8,h9,⟨es,da⟩,eo⟩:=ih hv (by rw[Vbw,h4,hl];rfl) h5;refine⟨h7,h8,h9,⟨ds++es,by rw[da,Vbx]⟩,fun ext=>⟨?_,eo ext⟩⟩;have:=h6 (es++ext);rw[hl]at this;rw[da];simpa[Vbx] using this
theorem Abf {kq:Nat}{ops:List Oper}{i:Nat}{os:List Oper}{s s':St}{is:List OpI}(hc:Naj E draw kq ops i os s is s')(hi:Dah E s):Dah E s':=by
 induction hc with
 |nil i s=>exact hi
 |cons mv dw h1 h2 h3 ih=>exact ih (hi.next h1 h2)
theorem Dah.trim {lo:Nat}{d:Bool}{s:St}(h:Dah E s):Dah E (trimS d lo s) :=
 ⟨by rw[yA.2.2];exact h.nt,by rw[Nao,yA.1];exact h.sc⟩
theorem Abg {kq:Nat}{ops:List Oper}{i:Nat}{os:List Oper}{s s':St}{is:List OpI}(hc:Naj E draw kq ops i os s is s'):∀ o∈os,fQ E.ntmps o:=by
 induction hc with
 |nil i s=>simp
 | cons mv dw h1 h2 h3 ih =>
  intro o ho
  rcases Vbu.1 ho with rfl|ho
  ·exact (jZ (RdM.run_eval h1)).2.1
  ·exact ih o ho
theorem Pbe (hti:vV P E.ti)(cY:Aa5 P E F cf){ops:Array Oper}(pr:∀ o∈ops.toList,fQ E.ntmps o){mv dw:Bool}{s:St}{o:Oper}{g:Option (aI×Bool)}{r:bS}{ρ:List D}{a:Act}{w:World}{G:Gh}{Q:Exit->Act->World->Prop}
  {σ:Nat->Option aQ} (hf:Dai σ s.nb s.nr)
  (hR:R E.ntmps F σ ρ a w G) (h1:(lY E ops.toList mv dw s.nv s.nb s.nr o).eval σ=some (g,r)) (cA:aJ cf ρ g s.nv r.lets):Ibu P E F σ ρ ops o Q r.upd a w:=by
 refine Bal hR hti pr hf h1 cA fun f args argTypes ho=>?_
 obtain⟨h2,h3,h4,h5⟩:=jZ h1;rw[Ja1 ho]at h4;exact cY σ ρ a w G g o Q mv dw s.nv s.nb s.nr r f args argTypes hR h3 hf ho h4 h5 cA
theorem Abe (hti:vV P E.ti)(cY:Aa5 P E F cf){kq:Nat}{ops:Array Oper}(pr:∀ o∈ops.toList,fQ E.ntmps o){Q:Exit->Act->World->Prop}{i:Nat}{os:List Oper}{s s':St}{is:List OpI}(hc:Naj E draw kq ops.toList i os s is s') :
  ∀ {ρ:List D} {a:Act} {w:World} {G:Gh},ops.toList.drop i=os->R E.ntmps F s.get ρ a w G->Dah E s->Nai cf ρ s.nv is ->
  (∀ a' w' G',R E.ntmps F s'.get ρ a' w' G'->Q .normal a' w')->wpOps P ops Q (List.range' i os.length) a w:=by
 induction hc with
 | nil i s =>
  intro ρ a w G hdr hR hi cA hQ;exact hQ a w G hR
 | cons mv dw h1 h2 h3 ih =>
  rename_i i o os s g r log is s';intro ρ a w G hdr hR hi cA hQ
  have ni:ops[i]?=some o:=by
   rw[<- Xbk];have:(ops.toList.drop i)[0]?=some o:=by rw[hdr];rfl
   rwa[List.getElem?_drop,Wbv]at this
  rw[Wbb,List.range'_succ,wpOps_cons];unfold wpOp;rw[ni];have fL:=Pbe (Q:=Q) hti cY pr Pak hR (RdM.run_eval h1) cA.1
  have xe:∀ a w,Nx E.ntmps F s.get ρ r.upd a w->wpOps P ops Q (List.range' (i+1) os.length) a w:=by
   intro a' w' ⟨G',iu⟩;rw[<- La7 hi.nt h1 h2]at iu;exact ih (by rw[<- List.drop_drop,hdr];rfl) iu (hi.next h1 h2) cA.2 hQ
  unfold Ibu at fL;dsimp only;split
  ·rename_i hw
   rw[if_pos hw]at fL;exact .inl (Oper.wp_mono xe fL)
  ·rename_i hw
   rw[if_neg hw]at fL;exact xe _ _ fL
end
theorem pY {a b:List Nat}(h:meets a b=false){k:Nat}(ha:k∈a):k∉b:=by
 intro hb
 have:meets a b=true:=by
  unfold meets;rw[List.any_eq_true];exact⟨k,ha,nD.2 hb⟩
 rw[h]at this;cases this
theorem Gal {acc:List Nat}:∀ {es:List Edge} {m b:Nat},Xb6 (Aag acc es m) b=true->Xb6 m b=true\/∃ e∈es,Region.binds .any e=true/\(b=e.on\/Xb6 (acc.getD e.on 0) b=true)
 |[],m,b,h=>.inl h
 | e :: es, m, b, h => by
  have h':Xb6 (Aag acc es (bif Region.binds .any e then (m ||| 2 ^ e.on) ||| acc.getD e.on 0 else m)) b=true:=h
  rcases Gal (es:=es) h' with h1|⟨e',he',h1⟩
  ·cases hb:Region.binds .any e with
   |false=>rw[hb,cond_false]at h1;exact .inl h1
   | true =>
    rw[hb,cond_true]at h1;simp only[Nat.testBit_or,Wb9,Nat.testBit_two_pow,decide_eq_true_eq]at h1
    rcases h1 with (h1|h1)|h1
    ·exact .inl h1
    ·exact .inr ⟨e,Vb7,hb,.inl h1.symm⟩
    ·exact .inr ⟨e,Vb7,hb,.inr h1⟩
  ·exact .inr ⟨e',Vb1 _ he',h1⟩
theorem Gak:∀ {os:List Oper} {acc:List Nat} {i w:Nat},acc[i]?=some w->(waits os acc)[i]?=some w
 |[],_,_,_,h=>h
 | o :: os, acc, i, w, h => by
  refine Gak (os:=os) ?_;rw[Vb2 (Vbn.1 h).1];exact h
theorem Nam:∀ {os:List Oper} {acc:List Nat} {p w:Nat} {o:Oper},os[p]?=some o->(waits os acc)[acc.length+p]?=some w->∀ b,Xb6 w b=true ->
  ∃ e∈o.after.toList,Region.binds .any e=true/\(b=e.on\/∃ w',(waits os acc)[e.on]?=some w'/\Xb6 w' b=true)
 |[],acc,p,w,o,ho,_,_,_=>by simp at ho
 | o' :: os, acc, 0, w, o, ho, hw, b, hb => by
  simp only[Vbv,Vbl]at ho;subst ho;have h1:(acc++[Aag acc o'.after.toList 0])[acc.length]?=some (Aag acc o'.after.toList 0):=by simp
  have h2:=Gak (os:=os) h1;simp only[waits,Wbv]at hw;rw[h2]at hw;obtain rfl:=Wbk hw
  rcases Gal hb with h3|⟨e,he,h4,h5⟩
  ·simp at h3
  ·refine⟨e,he,h4,h5.imp id fun h6=>?_⟩
   rw[Vby]at h6
   cases ha:acc[e.on]? with
   |none=>rw[ha]at h6;simp at h6
   | some w' =>
    rw[ha,Xbq]at h6;have bj:=(Vbn.1 ha).1;exact⟨w',Gak (os:=os) (by rw[Vb2 bj];exact ha),h6⟩
 | o' :: os, acc, p + 1, w, o, ho, hw, b, hb => by
  have:=Nam (os:=os) (acc:=acc++[Aag acc o'.after.toList 0]) (p:=p) (w:=w) (o:=o) (by simpa using ho) (by
   simp only[Vbw,List.length_singleton];simp only[waits]at hw;rw[<- hw];congr 1
   omega) b hb
  exact this
theorem Ea9 {a:OpI}{i:Nat}:∀ {bs:List OpI} {ws:List Nat},Cao a i bs ws=true->∀ {q:Nat} {b:OpI},bs[q]?=some b->∃ w,ws[q]?=some w/\(Xb6 w i=true\/rM a b=true)
 |[],_,_,q,b,h=>by simp at h
 |_::_,[],h,_,_,_=>by simp[Cao]at h
 | b :: bs, w :: ws, h, q, b', hq => by
  simp only[Cao,Vbk,Wb9]at h
  cases q with
  | zero =>
   simp only[Vbv,Vbl]at hq;subst hq;exact⟨w,rfl,h.1⟩
  |succ q=>exact Ea9 h.2 (by simpa using hq)
theorem Ba4:∀ {is:List OpI} {ws:List Nat} {i:Nat},wN is ws i=true->∀ {p q:Nat} {a b:OpI},p<q->is[p]?=some a->is[q]?=some b ->
  ∃ w,ws[q]?=some w/\(Xb6 w (i+p)=true\/rM a b=true)
 |[],_,_,_,p,q,a,b,_,hp,_=>by simp at hp
 | x :: is, ws, i, h, p, q, a, b, hpq, hp, hq => by
  simp only[wN,Vbk]at h
  cases q with
  |zero=>omega
  | succ q =>
   cases p with
   | zero =>
    simp only[Vbv,Vbl]at hp;subst hp;obtain⟨w,h1,h2⟩:=Ea9 h.1 (q:=q) (by simpa using hq);exact⟨w,by rw[List.getElem?_tail]at h1;exact h1,h2⟩
   | succ p =>
    obtain⟨w,h1,h2⟩:=Ba4 h.2 (p:=p) (q:=q) (by omega) (by simpa using hp) (by simpa using hq);exact⟨w,by rw[List.getElem?_tail]at h1;exact h1,by rw[show i+(p+1)=i+1+p by omega];exact h2⟩
theorem Fah:∀ {os:List Oper} {i:Nat},Caz os i=true->∀ {p:Nat} {o:Oper},os[p]?=some o->∀ e∈o.after.toList,Region.binds .any e=true->e.on<i+p
 |[],_,_,p,o,h,_,_,_=>by simp at h
 | x :: os, i, h, p, o, hp, e, he, hb => by
  simp only[Caz,Vbk,Wbg,Wb9,Vb9,Wb0]at h
  cases p with
  | zero =>
   simp only[Vbv,Vbl]at hp;subst hp
   rcases h.1 e he with h1|h1
   ·rw[hb]at h1;cases h1
   ·omega
  | succ p =>
   have:=Fah h.2 (p:=p) (by simpa using hp) e he hb;omega
def sig (D:Nat->Bool):Nat->List OpI->(Nat->Option aQ)->Nat->Option aQ
 |_,[],σ=>σ
 |i,a::r,σ=>sig D (i+1) r (bif D i then upds σ a.res.upd else σ)
def Wr (a:OpI)(k:Nat):Prop:=∃ c,(k,c)∈a.res.upd
theorem Lah {a:OpI}{σ:Nat->Option aQ}{k:Nat}(h:¬ Wr a k):upds σ a.res.upd k=σ k:=fH _ _ _ fun c hc=>h ⟨c,hc⟩
theorem Ban {D D':Nat->Bool}{k:Nat}:∀ {is:List OpI} {i:Nat} {σ ep:Nat->Option aQ},(∀ p a,is[p]?=some a->Wr a k->D (i+p)=D' (i+p))->σ k=ep k->sig D i is σ k=sig D' i is ep k
 |[],i,σ,ep,_,h=>h
 | a :: r, i, σ, ep, hd, h => by
  simp only[sig];refine Ban (fun p b hb hw=>?_) ?_
  ·have:=hd (p+1) b (by simpa using hb) hw
   rw[show i+(p+1)=i+1+p by omega]at this;exact this
  ·by_cases hw:Wr a k
   ·have:=hd 0 a rfl hw
    rw[Wbv]at this;rw[this]
    cases D' i with
    |false=>exact h
    |true=>exact sG _ _ _ _ h
   ·have e:∀ (x:Bool) (τ:Nat->Option aQ),(bif x then upds τ a.res.upd else τ) k=τ k:=by
     intro x τ
     cases x with
     |false=>rfl
     |true=>exact Lah hw
    rw[e,e];exact h
theorem wD {D:Nat->Bool}{k:Nat}:∀ {is:List OpI} {i:Nat} {σ:Nat->Option aQ},(∀ p a,is[p]?=some a->Wr a k->D (i+p)=false)->sig D i is σ k=σ k
 |[],i,σ,_=>rfl
 | a :: r, i, σ, hd => by
  simp only[sig]
  rw[wD fun p b hb hw=>by
   have:=hd (p+1) b (by simpa using hb) hw;rw[show i+(p+1)=i+1+p by omega]at this;exact this]
  by_cases hw:Wr a k
  ·have:=hd 0 a rfl hw
   rw[Wbv]at this;rw[this];rfl
  ·cases D i with
   |false=>rfl
   |true=>exact Lah hw
theorem Tam {D:Nat->Bool}{k:Nat}:∀ {is:List OpI} {i p:Nat} {a:OpI} {σ τ:Nat->Option aQ},is[p]?=some a->D (i+p)=true->Wr a k->(∀ q b,p<q->is[q]?=some b->Wr b k->D (i+q)=false) ->
  sig D i is σ k=upds τ a.res.upd k
 |[],i,p,a,σ,τ,hp,_,_,_=>by simp at hp
 | x :: r, i, 0, a, σ, τ, hp, hD, hw, hq => by
  simp only[Vbv,Vbl]at hp;subst hp;rw[Wbv]at hD;simp only[sig]
  rw[wD fun q b hb zu=>by
   have:=hq (q+1) b (by omega) (by simpa using hb) zu;rw[show i+(q+1)=i+1+q by omega]at this;exact this,hD,cond_true]
  exact Fax _ _ _ _ hw
 | x :: r, i, p + 1, a, σ, τ, hp, hD, hw, hq => by
  simp only[sig];refine Tam (p:=p) (by simpa using hp) (by rw[show i+1+p=i+(p+1) by omega];exact hD) hw fun q b hpq hb zu=>?_
  have:=hq (q+1) b (by omega) (by simpa using hb) zu;rw[show i+(q+1)=i+1+q by omega]at this;exact this
section
variable {P:Program} {E:Env} {F:bK} {cf:Nat->List D->Option (List D)}
theorem Tal {D:Nat->Bool}{is:List OpI}{i:Nat}{σ:Nat->Option aQ}(h:∀ q,i<=q->D q=false):sig D i is σ=σ :=
 funext fun k=>wD fun p a _ _=>h _ (Yb2 ..)
structure At (E:Env) (ops:List Oper) (cf:Nat->List D->Option (List D)) (ρ:List D) (σ0:Nat->Option aQ) (i0:Nat) (is:List OpI) (p:Nat) (o:Oper) (a:OpI) (s0:St):Prop where
 run:∃ mv dw nv,(lY E ops mv dw nv a.nb a.nr o).run (sig (fun q=>decide (q<i0+p)) i0 is σ0)=some ((a.g,a.res),a.log)/\aJ cf ρ a.g nv a.res.lets
 nb:a.nb=s0.nb+p
 nr:a.nr=s0.nr+cK*p
theorem Ebp {kq:Nat}{ops:List Oper}{i:Nat}{os:List Oper}{s s':St}{is:List OpI}(hc:Naj E true kq ops i os s is s') :
  ∀ {ρ:List D},Dah E s->Nai cf ρ s.nv is->is.length=os.length/\s'.get=sig (fun _=>true) i is s.get/\∀ p o,os[p]?=some o->∃ a,is[p]?=some a/\At E ops cf ρ s.get i is p o a s:=by
 induction hc with
 |nil i s=>exact fun _ _=>⟨rfl,rfl,by simp⟩
 | cons mv dw h1 h2 h3 ih =>
  rename_i i o os s g r log is s';intro ρ hi cA;obtain⟨h4,h5,h6⟩:=ih (hi.next h1 h2) cA.2;have hg:=La7 (draw:=true) hi.nt h1 h2;refine⟨by simp[h4],?_,fun p o' hp=>?_⟩
  ·rw[h5,hg];rfl
  ·cases p with
   | zero =>
    simp only[Vbv,Vbl]at hp;subst hp;refine⟨_,rfl,⟨mv,dw,s.nv,?_,cA.1⟩,rfl,rfl⟩;rw[Wbv,Tal fun q hq=>by simpa using hq];exact h1
   | succ p =>
    obtain⟨a,h7,h8⟩:=h6 p o' (by simpa using hp);refine⟨a,by simpa using h7,?_,?_,?_⟩
    ·obtain⟨mv',a2u,nv',h9,da⟩:=h8.run
     refine⟨mv',a2u,nv',?_,da⟩;simp only[sig];have:(decide (i<i+(p+1)):Bool)=true:=by simp
     rw[this,cond_true,<- hg,show i+(p+1)=i+1+p by omega];exact h9
    ·rw[h8.nb];show s.nb+1+p=_;omega
    ·rw[h8.nr]
     show s.nr+cK+cK*p=_
     rw[Nat.mul_succ];omega
theorem Ta4 {a:OpI}{n nb nr k:Nat}(h:a.res.upd.all (fun x=>zJ n nb nr x.1)=true)(hw:Wr a k):zJ n nb nr k=true:=by
 obtain⟨c,hc⟩:=hw;rw[Wbg]at h;exact h _ hc
theorem Yaw {n nb nr b:Nat}(h:zJ n nb nr (kB b)=true):b<=nb:=by
 unfold zJ at h;rw[Oa6]at h;have:kB b / 3=b:=by unfold kB;omega
 rw[this]at h;simpa using h
theorem Da0 {n nb nr r:Nat}(h:zJ n nb nr (kR r)=true):r<nr+cK:=by
 unfold zJ at h;rw[Oa5]at h;have:kR r / 3=r:=by unfold kR;omega
 rw[this]at h;simpa using h
structure Fb0 (E:Env) (ops:Array Oper) (cf:Nat->List D->Option (List D)) (ρ:List D) (s:St) (is:List OpI):Prop where
 len:is.length=ops.size
 at_:∀ p o,ops.toList[p]?=some o->∃ a,is[p]?=some a/\At E ops.toList cf ρ s.get 0 is p o a s
 free:∀ p q a b,p<q->is[p]?=some a->is[q]?=some b->(∃ w,(waits ops.toList [])[q]?=some w/\Xb6 w p=true)\/rM a b=true
 low:∀ p o,ops.toList[p]?=some o->∀ e∈o.after.toList,Region.binds .any e=true->e.on<p
 dst:∀ o∈ops.toList,fQ E.ntmps o
def dn (l:Array Bool)(q:Nat):Bool:=l.getD q false
def Closed (ops:Array Oper)(l:Array Bool):Prop:=∀ q w p,dn l q=true->(waits ops.toList [])[q]?=some w->Xb6 w p=true->dn l p=true
theorem apart_spec {a b:OpI}(h:rM a b=true):(∀ k,Wr a k->k∉b.log)/\(∀ k,Wr a k->¬ Wr b k)/\(∀ k,k∈a.log->¬ Wr b k)/\∀ k,Wr b k->Man a k=false:=by
 simp only[rM,Vbk,Vb9]at h;obtain⟨⟨⟨h1,h2⟩,h3⟩,h4⟩:=h
 have key:∀ {x:OpI} {k:Nat},Wr x k↔k∈x.res.upd.map (·.1):=by
  intro x k;simp only[Wb3];constructor
  ·rintro⟨c,hc⟩;exact⟨_,hc,rfl⟩
  ·rintro⟨⟨k',c⟩,hc,rfl⟩;exact⟨c,hc⟩
 refine⟨fun k hk=>pY h1 (key.1 hk),fun k hk hb=>pY h2 (key.1 hk) (key.1 hb),fun k hk hb=>pY h3 hk (key.1 hb),fun k hk=>?_⟩;rw[List.any_eq_false]at h4;simpa using h4 k (key.1 hk)
theorem Sai:∀ {l:List Bool} {i:Nat},l[i]?=some false->(l.set i true).count false+1=l.count false
 |[],i,h=>by simp at h
 | b :: l, 0, h => by
  simp only[Vbv,Vbl]at h;subst h;simp
 | b :: l, i + 1, h => by
  have:=Sai (l:=l) (i:=i) (by simpa using h);simp only[List.set_cons_succ,List.count_cons];omega
theorem Kaj {ops:Array Oper}{l:Array Bool}{i:Nat}(hl:l.size=ops.size)(h:i∈Region.ready .any ops l) :
  ∃ o,ops[i]?=some o/\l[i]?=some false/\∀ e∈o.after.toList,Region.binds .any e=true->dn l e.on=true:=by
 unfold Region.ready at h;rw[Xb2,Ybu]at h;obtain⟨h1,h2⟩:=h;simp only[Vbk,Vb9]at h2;have ho:ops[i]?=some ops[i]:=Wbq h1;rw[ho,Wb5,Xbq]at h2;refine⟨_,ho,?_,fun e he hb=>?_⟩
 ·have h3:=h2.1
  rw[Wb2]at h3;have bj:i<l.size:=by omega
  rw[Wbq bj,Xbq]at h3;rw[Wbq bj,h3]
 ·have h3:=h2.2
  rw[<- Array.all_toList,Wbg]at h3;have:=h3 e he;rw[hb]at this;simpa[dn] using this
theorem ready_nil {ops:Array Oper}{l:Array Bool}(hl:l.size=ops.size)(tp:∀ p o,ops.toList[p]?=some o->∀ e∈o.after.toList,Region.binds .any e=true->e.on<p)
  (h:Region.ready .any ops l=[]):∀ q,q<ops.size->dn l q=true:=by
 intro q
 induction q using Nat.strongRecOn with
 | _ q ih =>
  intro hq
  cases hd:dn l q with
  |true=>rfl
  | false =>
   exfalso;have ho:ops[q]?=some ops[q]:=Wbq hq
   have:q∈Region.ready .any ops l:=by
    unfold Region.ready;rw[Xb2,Ybu];refine⟨hq,?_⟩;simp only[Vbk,Vb9];refine⟨?_,?_⟩
    ·have bj:q<l.size:=by omega
     unfold dn at hd;rw[Wb2,Wbq bj,Xbq]at hd ⊢;exact hd
    ·rw[ho,Wb5,Xbq,<- Array.all_toList,Wbg]
     intro e he
     cases hb:Region.binds .any e with
     |false=>rfl
     | true =>
      have bj:=tp q _ (by rw[Xbk];exact ho) e he hb;have:=ih e.on bj (by omega);simpa[dn] using this
   rw[h]at this;simp at this
theorem Uai {l:Array Bool}{i:Nat}(hi:i<l.size)(q:Nat):dn (l.setIfInBounds i true) q=(decide (q=i)||dn l q):=by
 unfold dn;rw[Wb2,Wb2,Array.getElem?_setIfInBounds];by_cases h:i=q
 ·subst h
  simp[hi]
 ·rw[if_neg h]
  have:(decide (q=i):Bool)=false:=by simp;exact fun e=>h e.symm
  rw[this,Xba]
theorem Ebg (hti:vV P E.ti)(cY:Aa5 P E F cf){ops:Array Oper}{s:St}{is:List OpI}{ρ:List D}(hd:Fb0 E ops cf ρ s is){Q:Exit->Act->World->Prop}
  (hQ:∀ a' w' G',R E.ntmps F (sig (fun _=>true) 0 is s.get) ρ a' w' G'->Q .normal a' w') :
  ∀ (fuel:Nat) (l:Array Bool) (a:Act) (w:World) (G:Gh),l.size=ops.size->l.toList.count false<=fuel->Closed ops l->R E.ntmps F (sig (dn l) 0 is s.get) ρ a w G ->
  wpAny P .any ops Q fuel l a w:=by
 have xT:∀ (l:Array Bool) (a:Act) (w:World) (G:Gh),l.size=ops.size->R E.ntmps F (sig (dn l) 0 is s.get) ρ a w G->Region.ready .any ops l=[]->Q .normal a w:=by
  intro l a w G hl hR hr;have cT:=ready_nil hl hd.low hr;refine hQ a w G ?_
  have:sig (fun _=>true) 0 is s.get=sig (dn l) 0 is s.get:=by
   funext k;refine Ban (fun p a hp _=>?_) rfl;have bj:=(Vbn.1 hp).1;rw[hd.len]at bj;rw[cT _ (by omega)]
  rw[this];exact hR
 intro fuel
 induction fuel with
 | zero =>
  intro l a w G hl uk fW hR
  have fx:Region.ready .any ops l=[]:=by
   cases hr:Region.ready .any ops l with
   |nil=>rfl
   | cons i r =>
    exfalso;obtain⟨o,h1,h2,h3⟩:=Kaj hl (by rw[hr];exact Vb7:i∈Region.ready .any ops l);rw[<- Xbk]at h2;have:=Sai h2;omega
  exact⟨fx,xT l a w G hl hR fx⟩
 | succ fuel ih =>
  intro l a w G hl uk fW hR;refine⟨xT l a w G hl hR,fun i hi=>?_⟩;obtain⟨o,ho,zE,td⟩:=Kaj hl hi;have hoL:ops.toList[i]?=some o:=by rw[Xbk];exact ho
  have oq:i<l.size:=by
   rw[<- Xbk]at zE;have:=(Vbn.1 zE).1;simpa using this
  obtain⟨ai,hai,lE⟩:=hd.at_ i o hoL;obtain⟨mv,dw,nv,cC,cA⟩:=lE.run
  have ub:dn l i=false:=by
   unfold dn;rw[Wb2,zE];rfl
  have x4:∀ w p,(waits ops.toList [])[i]?=some w->Xb6 w p=true->dn l p=true:=by
   intro w' p hw hb;obtain⟨e,he,hbe,h1⟩:=Nam (acc:=[]) (p:=i) hoL (by simpa using hw) p hb
   rcases h1 with h1|⟨w'',h1,h2⟩
   ·rw[h1];exact td e he hbe
   ·exact fW e.on w'' p (td e he hbe) h1 h2
  have ve:∀ p b,p<i->is[p]?=some b->dn l p=false->rM b ai=true:=by
   intro p b hpi hb hnd
   rcases hd.free p i b ai hpi hb hai with ⟨w',h1,h2⟩|h
   ·rw[x4 w' p h1 h2]at hnd;cases hnd
   ·exact h
  have mg:∀ q b,i<q->is[q]?=some b->dn l q=true->rM ai b=true:=by
   intro q b hiq hb yt
   rcases hd.free i q ai b hiq hai hb with ⟨w',h1,h2⟩|h
   ·rw[fW q w' i yt h1 h2]at ub;cases ub
   ·exact h
  have a2e:∀ k∈ai.log,sig (dn l) 0 is s.get k=sig (fun q=>decide (q<0+i)) 0 is s.get k:=by
   intro k hk;refine Ban (fun p b hb hw=>?_) rfl;rw[Wbj,Wbj]
   rcases Ybp p i with h|h|h
   ·have e:(decide (p<i):Bool)=true:=by simpa using h
    rw[e]
    cases hdp:dn l p with
    |true=>rfl
    |false=>exact absurd hk ((apart_spec (ve p b h hb hdp)).1 k hw)
   ·subst h
    rw[ub];simp
   ·have e:(decide (p<i):Bool)=false:=by simp;omega
    rw[e]
    cases hdp:dn l p with
    |false=>rfl
    |true=>exact absurd hw ((apart_spec (mg p b h hb hdp)).2.2.1 k hk)
  have xg:=RdM.run_eval (RdM.run_same cC a2e)
  have lz:∀ (p:Nat) (b:OpI),is[p]?=some b->∃ nv' ,b.res.upd.all (fun x=>zJ E.ntmps (s.nb+p) (s.nr+cK*p) x.1)=true/\nv'=nv:=by
   intro p b hb;have bj:=(Vbn.1 hb).1
   have kv:ops.toList[p]?=some ops.toList[p]!:=by
    rw[List.getElem!_eq_getElem?_getD,Vbq (by simpa[<- hd.len] using bj)];rfl
   obtain⟨b',fg,zz⟩:=hd.at_ p _ kv;rw[hb]at fg;obtain rfl:=Wbk fg;obtain⟨mv',a2u,nv',zy,-⟩:=zz.run;have:=(jZ (RdM.run_eval zy)).2.2.2;rw[zz.nb,zz.nr]at this;exact⟨nv,this,rfl⟩
  have qt:Dai (sig (dn l) 0 is s.get) ai.nb ai.nr:=by
   have hf:=Pak (s:=s);refine⟨?_,fun j uj kn=>?_⟩
   ·rw[wD fun p b hb hw=>?_]
    ·rw[lE.nb]
     unfold St.get vT kB;have e:(3*(s.nb+i)+1) % 3=1:=by omega
     have e2:(3*(s.nb+i)+1) / 3=s.nb+i:=by omega
     rw[e,e2]
     have:Xbe (s.nb+i) s.nb=false:=by
      cases hb:Xbe (s.nb+i) s.nb with
      |false=>rfl
      |true=>simp only[Wb0]at hb;omega
     rw[this];rfl
    ·rw[Wbj]
     obtain⟨_,hk,-⟩:=lz p b hb;have h1:=Yaw (Ta4 hk hw);rw[lE.nb]at h1
     rcases Ybp p i with h|h|h
     ·omega
     ·rw[h];exact ub
     ·cases hdp:dn l p with
      |false=>rfl
      | true =>
       have:=(apart_spec (mg p b h hb hdp)).2.2.2 _ hw;unfold Man at this;rw[Oa6]at this;have e2:kB ai.nb / 3=ai.nb:=by unfold kB;omega
       rw[e2]at this;simp at this
   ·rw[wD fun p b hb hw=>?_]
    ·unfold St.get vT kR
     have e:(3*j+2) % 3=2:=by omega
     have e2:(3*j+2) / 3=j:=by omega
     rw[e,e2]
     have:Xbe j s.nr=false:=by
      cases hb:Xbe j s.nr with
      |false=>rfl
      |true=>simp only[Wb0]at hb;rw[lE.nr]at uj;omega
     rw[this];rfl
    ·rw[Wbj]
     obtain⟨_,hk,-⟩:=lz p b hb;have h1:=Da0 (Ta4 hk hw)
     rcases Ybp p i with h|h|h
     ·rw[lE.nr]at uj
      have:cK*(p+1)<=cK*i:=Nat.mul_le_mul_left _ h;rw[Nat.mul_succ]at this;omega
     ·rw[h];exact ub
     ·cases hdp:dn l p with
      |false=>rfl
      | true =>
       have:=(apart_spec (mg p b h hb hdp)).2.2.2 _ hw;unfold Man at this;rw[Oa5]at this;have e2:kR j / 3=j:=by unfold kR;omega
       rw[e2]at this;have e3:Nat.ble ai.nr j=true:=by simpa using uj
       have e4:Xbe j (ai.nr+cK)=true:=by simpa using kn
       rw[e3,e4]at this;simp at this
  have fL:Ibu P E F (sig (dn l) 0 is s.get) ρ ops o Q ai.res.upd a w:=by
   refine Bal hR hti hd.dst qt xg cA fun f args argTypes sR=>?_
   obtain⟨h2,h3,h4,h5⟩:=jZ xg;rw[Ja1 sR]at h4;exact cY _ ρ a w G ai.g o Q mv dw nv _ _ ai.res f args argTypes hR h3 qt sR h4 h5 cA
  have a00:sig (dn (l.setIfInBounds i true)) 0 is s.get=upds (sig (dn l) 0 is s.get) ai.res.upd:=by
   funext k;by_cases hw:Wr ai k
   ·refine Tam hai (by rw[Wbj,Uai oq];simp) hw fun q b hiq hb zu=>?_
    rw[Wbj,Uai oq];have e:(decide (q=i):Bool)=false:=by simp;omega
    rw[e,Xba]
    cases yt:dn l q with
    |false=>rfl
    |true=>exact absurd zu ((apart_spec (mg q b hiq hb yt)).2.1 k hw)
   ·rw[Lah hw]
    refine Ban (fun p b hb zu=>?_) rfl;rw[Wbj,Uai oq]
    have e:(decide (p=i):Bool)=false:=by
     simp;intro e;subst e;rw[hai]at hb;obtain rfl:=Wbk hb;exact hw zu
    rw[e,Xba]
  have a6s:Closed ops (l.setIfInBounds i true):=by
   intro q w' p yt hw hb;rw[Uai oq]at yt ⊢;by_cases e:q=i
   ·subst e
    rw[x4 w' p hw hb,Xbw]
   ·have e':(decide (q=i):Bool)=false:=by simp[e]
    rw[e',Xba]at yt;rw[fW q w' p yt hw hb,Xbw]
  have xe:∀ a w,Nx E.ntmps F (sig (dn l) 0 is s.get) ρ ai.res.upd a w->wpAny P .any ops Q fuel (l.setIfInBounds i true) a w:=by
   intro a' w' ⟨G',iu⟩;rw[<- a00]at iu;refine ih _ a' w' G' (by simp[hl]) ?_ a6s iu;rw[Array.toList_setIfInBounds];rw[<- Xbk]at zE;have:=Sai zE;omega
  unfold wpOp;rw[ho];unfold Ibu at fL;dsimp only;split
  ·rename_i hw
   rw[if_pos hw]at fL;exact .inl (Oper.wp_mono xe fL)
  ·rename_i hw
   rw[if_neg hw]at fL;exact xe _ _ fL
end
section
variable {P:Program} {E:Env} {F:bK} {cf:Nat->List D->Option (List D)} {n:Nat} {σ:Nat->Option aQ} {ρ:List D} {a:Act} {w:World} {G:Gh}
theorem R.world {w':World}(h:R n F σ ρ a w G)(hh:w'.heap=w.heap)(ho:w'.os=w.os)(ht:w'.tape=w.tape)(hp:w'.output=w.output):R n F σ ρ a w' G:=by
 have eC:Fr σ G w (upds σ []) G w':=by
  refine⟨fun b hb _=>⟨hb,by rw[hh]⟩,fun r k _ h=>h,fun r k h=>h,fun r k b p _ _ h=>⟨.inl h,by rw[hh]⟩,fun r k m _ h=>⟨h,fun b p h=>h⟩,fun _ _=>rfl,fun _ _=>rfl,fun k h=>h,fun _ _ _ _ _ _ _ h=>h⟩
 exact h.upd [] eC h.tmps h.defers ⟨ho.trans h.frame.os,ht.trans h.frame.tape,hp.trans h.frame.output,by rw[hh];exact h.frame.size,
  fun b hb hf=>by rw[hh];exact h.frame.keep b hb hf,fun b j hb hj=>by rw[hh];exact h.frame.boxes b j hb hj,fun b hb=>h.frame.fresh b (by rw[<- hh];exact hb)⟩
  (fun t _=>rfl) (fun b ro ls _ _=>⟨rfl,by rw[hh]⟩) (fun b ls hb=>by simp at hb) (fun k c hk=>by simp at hk)
theorem Na6 (hti:vV P E.ti)(cY:Aa5 P E F cf)(hm:P.follows .mixedOrders=true){kq:Nat}{ops:Array Oper}{draw:Bool}{s:St}{o:Out St}
  (h:Ec cf (Laj E false kq ops.toList draw s) ρ=some o) (hl:ρ.length=s.nv) (hi:Dah E s) :
  (o.kind=.fall/\o.env.length=o.ext.nv/\Dah E o.ext/\∃ ds,o.env=ρ++ds) /\
  ∀ a w G Q,R E.ntmps F s.get ρ a w G->(∀ a' w' G',R E.ntmps F o.ext.get o.env a' w' G'->Q .normal a' w')->(Code.region kq ops draw).wp P Q a w:=by
 unfold Laj at h;split at h
 case h_2=>simp only[cond_false,jM]at h;cases h
 rename_i is s' a5d;obtain⟨js,hjs,hc⟩:=Gaq a5d;simp only[List.reverse_nil,Wby]at hjs;subst hjs;have pr:=Abg hc
 cases hb:(!draw||(Caz ops.toList 0&&wN is (waits ops.toList []) 0)) with
 |false=>rw[hb]at h;simp only[cond_false,jM]at h;cases h
 | true =>
  rw[hb,cond_true]at h;obtain⟨h1,h2,h3,⟨ds,h4⟩,h5⟩:=Ua9 hc yA.1 hl h;have sd:=h5 [];rw[Wbo]at sd;refine⟨⟨h1,by rw[h2,yA.1];exact h3,by rw[h2];exact (Abf hc hi).trim,ds,h4⟩,fun a w G Q hR hQ=>?_⟩;rw[h2,Nao]at hQ;have iu:R E.ntmps F s.get o.env a w G:=by rw[h4];exact hR.ext hi.sc (by omega) ds
  cases draw with
  | false =>
   refine wp_region ?_;rw[List.range_eq_range'];have:=Abe hti cY (ops:=ops) pr hc (by simp) iu hi sd hQ;simpa using this
  | true =>
   simp only[Vbt,Xba,Vbk]at hb;obtain⟨hlen,vo,lE⟩:=Ebp (ρ:=o.env) (cf:=cf) hc hi sd;have a1r:is.length=ops.size:=by rw[hlen];simp
   have hd:Fb0 E ops cf o.env s is:=by
    refine⟨a1r,lE,fun p q x y hpq hp hq=>?_,fun p o' hp e he hbe=>?_,pr⟩
    ·obtain⟨w',h6,h7⟩:=Ba4 hb.2 hpq hp hq
     rw[Wbj]at h7;exact h7.imp (fun h7=>⟨w',h6,h7⟩) id
    ·have:=Fah hb.1 hp e he hbe
     omega
   refine wp_region_any hm ?_;refine Ebg hti cY hd (fun a' w' G' qc=>hQ a' w' G' (by rw[vo];exact qc)) ops.size _ a _ G (by simp) ?_ ?_ ?_
   ·simp only[Array.toList_replicate,List.count_replicate_self,Vb6]
   ·intro q w' p hq
    unfold dn at hq;rw[Wb2,Array.getElem?_replicate]at hq;split at hq<;>simp at hq
   ·rw[Tal fun q _=>by
     unfold dn;rw[Wb2,Array.getElem?_replicate];split<;>rfl]
    exact iu.world rfl rfl rfl rfl
end
theorem Cai {s:St}{k:Nat}{c:aQ}(h:s.get k=some c):vT s.nt s.nb s.nr k=true:=by
 unfold St.get at h
 cases e:vT s.nt s.nb s.nr k with
 |true=>rfl
 |false=>rw[e]at h;cases h
theorem Oa4 {nt nb nr r:Nat}(h:r<nr):vT nt nb nr (kR r)=true:=by
 unfold vT;rw[Oa5];have:kR r / 3=r:=by unfold kR;omega
 rw[this];simpa using h
theorem yJ {s:St}{u:List (Nat×aQ)}(h:∀ k c,(k,c)∈u->vT s.nt s.nb s.nr k=true):(s.puts u).get=upds s.get u:=by
 funext k;obtain⟨e1,e2,e3,e4⟩:=iY u s;unfold St.get;rw[e2,e3,e4,La2];by_cases hm:∃ c,(k,c)∈u
 ·obtain⟨c,hc⟩:=hm
  rw[h k c hc,cond_true];exact Fax _ _ _ _ ⟨c,hc⟩
 ·have hn:∀ c,(k,c)∉u:=fun c hc=>hm ⟨c,hc⟩
  rw[fH _ _ _ hn,fH _ _ _ hn]
def Kat (σ:Nat->Option aQ)(k j:Nat):Option aP :=
 match σ k with
 |some (.slot none (.one a))=>if j=0 then some a else none
 |some (.slot none (.agg ls))=>ls[j]?
 |some (.box _ ls)=>ls[j]?
 |_=>none
theorem Yat {k j:Nat}{s:St}:wU k j s=(Kat s.get k j).getD .dead:=by
 unfold wU Kat;split
 ·rename_i v hk
  rw[hk]
  cases v with
  |dead=>simp[uA]
  | one a =>
   simp only[uA]
   cases j with
   |zero=>rfl
   |succ j=>simp
  |agg ls=>simp[uA,Vby]
  |tup ts=>simp[uA]
 ·rename_i ro ls hk
  rw[hk];simp[Vby]
 ·rename_i h1 h2
  cases hs:s.get k with
  |none=>rfl
  | some c =>
   cases c with
   | slot g v =>
    cases g with
    |none=>exact absurd hs (h1 v)
    |some g=>rfl
   |box ro ls=>exact absurd hs (h2 ro ls)
   |root=>rfl
theorem jQ {k j:Nat}{s:St}{l:aP}(h:wU k j s=l)(hl:l≠.dead):Kat s.get k j=some l:=by
 rw[Yat]at h
 cases e:Kat s.get k j with
 |none=>rw[e]at h;exact absurd h.symm hl
 |some l'=>rw[e,Xbq]at h;rw[h]
section
variable {E:Env} {F:bK} {n:Nat} {σ:Nat->Option aQ} {ρ:List D} {a:Act} {w:World} {G G':Gh}
inductive ValAt (n:Nat) (gh:Nat->Value) (a:Act) (w:World) (bx:Nat->Addr):aQ->Nat->Nat->Value->Prop
 |one (t:Nat) (l:aP):ValAt n gh a w bx (.slot none (.one l)) (kT t) 0 (Aa6 n a gh t)
 |agg (t:Nat) (ls:List aP) (vs:List Value) (j:Nat) (v:Value) (h:Aa6 n a gh t=.agg vs.toArray) (hv:vs[j]?=some v):ValAt n gh a w bx (.slot none (.agg ls)) (kT t) j v
 |box (b j:Nat) (ro:Bool) (ls:List aP) (v:Value) (h:w.cell? ((bx b).add j)=some v):ValAt n gh a w bx (.box ro ls) (kB b) j v
theorem R.valAt (h:R n F σ ρ a w G){k j:Nat}{l:aP}(hl:Kat σ k j=some l):∃ v c,σ k=some c/\ValAt n F.gh a w G.bx c k j v/\aB σ ρ G w l v:=by
 unfold Kat at hl;split at hl
 ·rename_i l' hk
  obtain⟨t,rfl,h1⟩:=h.cont _ _ hk;split at hl
  ·rename_i hj
   subst hj;obtain rfl:=Wbk hl;exact⟨_,_,hk,.one t l',h1 rfl⟩
  ·cases hl
 ·rename_i ls hk
  obtain⟨t,rfl,h1⟩:=h.cont _ _ hk;obtain⟨vs,h2,h3⟩:dC σ ρ G w (.agg ls) _:=h1 rfl;obtain⟨v,h4,h5⟩:=h3.get hl;exact⟨v,_,hk,.agg t ls vs j v h2 h4,h5⟩
 ·rename_i ro ls hk
  obtain⟨b,rfl,h1,h2,h3⟩:=h.cont _ _ hk;obtain⟨v,h4,h5,h6⟩:=h3 j l hl;exact⟨v,_,hk,.box b j ro ls v h4,h6⟩
 ·cases hl
theorem Fr.nonroot (σ:Nat->Option aQ)(G:Gh)(w:World)(u:List (Nat×aQ))(hu:∀ k c,(k,c)∈u->∀ r,k≠kR r):Fr σ G w (upds σ u) G w:=by
 have hr:∀ r,upds σ u (kR r)=σ (kR r):=fun r=>fH _ _ _ fun c hc=>hu _ _ hc r rfl
 refine⟨fun b h _=>⟨h,rfl⟩,fun r k _ h=>?_,fun r k h=>?_,fun r k b p _ _ h=>⟨.inl h,rfl⟩,fun r k m _ h=>⟨?_,fun b p h=>h⟩,fun _ _=>rfl,fun _ _=>rfl,fun k h=>eP _ _ _ (.inl h),fun _ _ _ _ _ _ _ h=>h⟩
 ·obtain⟨x,m,st,e,h⟩:=h
  exact⟨x,m,st,by rw[<- hr];exact e,h⟩
 ·obtain⟨x,m,cy,st,e,h⟩:=h
  exact⟨x,m,cy,st,by rw[hr];exact e,h⟩
 ·obtain⟨x,e⟩:=h
  exact⟨x,by rw[<- hr];exact e⟩
theorem Far {α:Type}{x y:List α}(h:x.toArray=y.toArray):x=y:=by
 have:=congrArg Array.toList h;simpa using this
structure Ebz (s s':St):Prop where
 nr:s'.nr=s.nr
 nt:s'.nt=s.nt
 root:∀ r,s'.get (kR r)=s.get (kR r)
theorem R.putAt {s:St}(h:R n F s.get ρ a w G){k j:Nat}{l:aP}{c0:aQ}(hk:s.get k=some c0){v:Value}(hv:ValAt n F.gh a w G.bx c0 k j v)(hl:aB s.get ρ G w l v) :
  R n F (Go.Proofs.YtgpamlpecmldfaaGreat.Rf.putAt k j l s).get ρ a w G/\Ebz s (Go.Proofs.YtgpamlpecmldfaaGreat.Rf.putAt k j l s)/\(Go.Proofs.YtgpamlpecmldfaaGreat.Rf.putAt k j l s).nv=s.nv:=by
 have j0:∀ c,Sbv j l c0=some c->(∀ r,k≠kR r)->(∃ t,(k=kT t/\∃ sv,c=.slot none sv/\dC (upds s.get [(k,c)]) ρ G w sv (Aa6 n a F.gh t))\/(k=kB t/\∃ ro ls,c=.box ro ls/\Lae (upds s.get [(k,c)]) ρ G w t ro ls))->(∀ b ls,k=kB b->c=.box false ls->∃ jy,c0=.box false jy/\ls.length=jy.length) ->
   R n F (Go.Proofs.YtgpamlpecmldfaaGreat.Rf.putAt k j l s).get ρ a w G/\Ebz s (Go.Proofs.YtgpamlpecmldfaaGreat.Rf.putAt k j l s)/\(Go.Proofs.YtgpamlpecmldfaaGreat.Rf.putAt k j l s).nv=s.nv:=by
  intro c hc mm hcr hbl
  have e:Go.Proofs.YtgpamlpecmldfaaGreat.Rf.putAt k j l s=s.puts [(k,c)]:=by
   unfold Go.Proofs.YtgpamlpecmldfaaGreat.Rf.putAt;rw[hk,Vbs,hc];rfl
  have hg:(s.puts [(k,c)]).get=upds s.get [(k,c)]:=yJ fun k' c' hm=>by
   simp only[Vbp,Wbd]at hm;rw[hm.1];exact Cai hk
  obtain⟨e1,e2,e3,e4⟩:=iY [(k,c)] s
  have ev:∀ k' c',(k',c')∈[(k,c)]->k'=k/\c'=c:=by
   intro k' c' hm;simpa using hm
  rw[e];refine⟨?_,⟨e3,e4,fun r=>?_⟩,e1⟩
  ·rw[hg]
   have eC:=Fr.nonroot s.get G w [(k,c)] fun k' c' hm r=>by rw[(ev _ _ hm).1];exact mm r
   refine h.upd _ eC h.tmps h.defers h.frame (fun _ _=>rfl) (fun _ _ _ _ _=>⟨rfl,rfl⟩) (fun b ls hm hb ho=>?_) (fun k' c' hm _=>?_)
   ·obtain⟨e5,e6⟩:=ev _ _ hm
    obtain⟨jy,h1,h2⟩:=hbl b ls e5.symm e6.symm;rw[h1]at hk;rw[h2];exact h.rng b jy (by rw[e5];exact hk) hb ho
   ·obtain⟨rfl,rfl⟩:=ev _ _ hm
    obtain⟨t,⟨e7,sv,e8,h8⟩|⟨e7,ro,ls,e8,h8⟩⟩:=hcr
    ·subst e8
     exact⟨t,e7,fun _=>h8⟩
    ·subst e8
     exact⟨t,e7,h8⟩
  ·rw[hg]
   exact fH _ _ _ fun c' hm=>mm r (ev _ _ hm).1.symm
 have eC:∀ c,(∀ r,k≠kR r)->Fr s.get G w (upds s.get [(k,c)]) G w:=fun c mm=>Fr.nonroot s.get G w [(k,c)] fun k' c' hm r=>by
  simp only[Vbp,Wbd]at hm;rw[hm.1];exact mm r
 cases hv with
 | one t l0 =>
  exact j0 (.slot none (.one l)) rfl (fun r=>iQ) ⟨t,.inl ⟨rfl,_,rfl,aB.mono (eC _ fun r=>iQ) l _ hl⟩⟩ (fun b ls e=>absurd e mK)
 | agg t ls vs _ _ h2 hvj =>
  have h1:=h.slot hk rfl;obtain⟨uc,uy,h3⟩:dC s.get ρ G w (.agg ls) _:=h1;rw[h2]at uy
  injection uy with e
  have e:=Far e;subst e;have hf:=eC (.slot none (.agg (ls.set j l))) fun r=>iQ
  refine j0 (.slot none (.agg (ls.set j l))) rfl (fun r=>iQ) ⟨t,.inl ⟨rfl,_,rfl,vs,h2,?_⟩⟩ (fun b ls e=>absurd e mK);refine aD.of_get (by simp[h3.len]) fun i l' v' hi za=>?_
  rw[Xbu]at hi;split at hi
  ·rename_i se
   subst se;split at hi
   ·obtain rfl:=Wbk hi
    rw[za]at hvj;obtain rfl:=Wbk hvj;exact aB.mono hf _ _ hl
   ·cases hi
  ·obtain⟨u,hu,hu2⟩:=h3.get hi
   rw[za]at hu;obtain rfl:=Wbk hu;exact aB.mono hf _ _ hu2
 | box b _ ro ls _ hb =>
  obtain⟨h1,h2,h3⟩:=h.box hk;have hf:=eC (.box ro (ls.set j l)) fun r=>fO
  refine j0 (.box ro (ls.set j l)) rfl (fun r=>fO) ⟨b,.inr ⟨rfl,_,_,rfl,h1,h2,fun i l' hi=>?_⟩⟩ (fun b' kO e e'=>?_)
  ·rw[Xbu]at hi
   split at hi
   ·rename_i se
    subst se;split at hi
    ·rename_i bj
     obtain rfl:=Wbk hi;obtain⟨v0,h4,h5,h6⟩:=h3 _ _ (Vbq bj);rw[h4]at hb;obtain rfl:=Wbk hb;exact⟨v0,h4,h5,aB.mono hf _ _ hl⟩
    ·cases hi
   ·obtain⟨u,h4,h5,h6⟩:=h3 i l' hi
    exact⟨u,h4,h5,aB.mono hf _ _ h6⟩
  ·injection e' with e1 e2
   subst e1 e2;exact⟨ls,rfl,by simp⟩
end
section
variable {E:Env} {F:bK} {σ:Nat->Option aQ} {ρ:List D} {a:Act} {w:World} {G G':Gh}
def mvF (r rN m:Nat)(s:Nat)(p:List Nat):Ow:=if s=r then (if p.length<m then .slc rN p else .frz) else .slc s p
theorem R.moveRoot (h:R E.ntmps F σ ρ a w G){r rN m m' v:Nat}{x x0:aI}(hr:σ (kR r)=some (.root x0 m' v .live))(hN:σ (kR rN)=none)(hm:m<=m'){u:Value}
  (fR:Rp G.own w r [] m' u (x.val ρ)) {st:RSt} (cA:st=.gone\/(st=.fwd rN/\u=G.hdr r)) :
  ∃ G',R E.ntmps F (upds σ [(kR r,.root (.c .hole) 0 0 st),(kR rN,.root x m 0 .live)]) ρ a w G'/\G'.hdr rN=u/\G'.bx=G.bx:=by
 have cU:r≠rN:=fun e=>by rw[e,hN]at hr;cases hr
 let G':Gh:={ own:=fun b=>nS (mvF r rN m) (G.own b),hdr:=fun s=>if s=rN then u else G.hdr s,bx:=G.bx }
 have e1:upds σ [(kR r,aQ.root (.c .hole) 0 0 st),(kR rN,.root x m 0 .live)] (kR r)=some (.root (.c .hole) 0 0 st):=by
  simp only[upds,Tan];rw[if_neg fun e=>cU (fJ e)];simp
 have e2:upds σ [(kR r,aQ.root (.c .hole) 0 0 st),(kR rN,.root x m 0 .live)] (kR rN)=some (.root x m 0 .live):=by
  simp[upds,Tan]
 have ev:∀ s c,(kR s,c)∈[(kR r,aQ.root (.c .hole) 0 0 st),(kR rN,.root x m 0 .live)]->s=r\/s=rN:=by
  intro s c hc;simp only[Vbu,Wbd,Xbl,or_false]at hc;exact hc.imp (fun e=>fJ e.1) (fun e=>fJ e.1)
 refine⟨G',h.roots (f:=mvF r rN m) ?_ (fun b=>rfl) ?_ ?_ ?_ ?_ rfl ?_,by simp[G'],rfl⟩
 ·intro k c hc
  simp only[Vbu,Wbd,Xbl,or_false]at hc
  rcases hc with ⟨e,-⟩|⟨e,-⟩<;>exact⟨_,e⟩
 ·intro b s p hb hn
  unfold mvF;rw[if_neg fun e=>hn _ (by rw[e];exact Vb7)]
 ·intro s c hc ij
  rcases ev s c hc with rfl|rfl
  ·rw[e1]at ij
   obtain rfl:=Wbk ij;refine .inr (.inr (.inl ⟨_,_,_,_,rfl,?_,?_⟩))<;>rcases cA with e|⟨e,-⟩<;>rw[e]<;>simp
  ·rw[e2]at ij
   obtain rfl:=Wbk ij;exact .inl ⟨hN,_,_,_,_,rfl⟩
 ·intro r0 x1 m1 k1 hk s p q hf
  unfold mvF at hf;split at hf
  ·split at hf
   ·injection hf with f1 f2
    rw[<- f1,hN]at hk;cases hk
   ·cases hf
  ·injection hf with f1 f2
   exact⟨f1,f2⟩
 ·intro s hs
  show (if s=rN then u else G.hdr s)=_
  rw[if_neg];intro e;rw[e,hN]at hs;cases hs
 ·intro s c hc ij
  rcases ev s c hc with rfl|rfl
  ·rw[e1]at ij
   obtain rfl:=Wbk ij;refine⟨_,_,_,_,rfl,?_⟩
   rcases cA with e|⟨e,hu⟩
   ·subst e;trivial
   ·subst e
    refine⟨?_,by rw[e2];rfl⟩;show (if s=rN then u else G.hdr s)=(if rN=rN then u else G.hdr rN)
    rw[if_neg cU,if_pos rfl,hu]
  ·rw[e2]at ij
   obtain rfl:=Wbk ij;refine⟨_,_,_,_,rfl,?_⟩;show Rp G'.own w s [] m (if s=s then u else G.hdr s) (x.val ρ)
   rw[if_pos rfl]
   have hw:=fR.weaken (own':=fun b=>nS (fun s' p=>if s'=r then (if p.length<m then .slc r p else .frz) else .slc s' p) (G.own b)) (fun b hb=>by rw[hb];rfl) m hm (fun b t hb=>by
    rw[hb];simp only[nS,if_pos rfl,Wby]
    rfl)
   have:=hw.mono (own':=G'.own) (w':=w) (q:=[]) (q':=[]) (r':=s) (fun b hb=>⟨?_,rfl⟩) [] rfl (fun b t hb=>⟨?_,rfl⟩)
   ·simpa using this
   ·show nS _ (G.own b)=_
    cases e:G.own b with
    | slc s' p =>
     rw[e]at hb;simp only[nS]at hb ⊢;unfold mvF;split at hb
     ·rename_i ko
      rw[if_pos ko];split at hb
      ·cases hb
      ·rename_i hl;rw[if_neg hl]
     ·cases hb
    |_=>rw[e]at hb;simpa[nS] using hb
   ·show nS _ (G.own b)=_
    cases e:G.own b with
    | slc s' p =>
     rw[e]at hb;simp only[nS]at hb ⊢;unfold mvF;split at hb
     ·rename_i ko
      rw[if_pos ko];split at hb
      ·rename_i hl
       rw[if_pos hl]
       injection hb with f1 f2
       rw[f2]
      ·cases hb
     ·rename_i ko
      injection hb with f1 f2
      exact absurd f1 ko
    |_=>rw[e]at hb;simp[nS]at hb
theorem R.nilRoot (h:R E.ntmps F σ ρ a w G){rN m z:Nat}(hN:σ (kR rN)=none) :
  ∃ G',R E.ntmps F (upds σ [(kR rN,.root (.c (.rows z [])) m 0 .live)]) ρ a w G'/\G'.hdr rN=.slice none 0 0/\G'.bx=G.bx:=by
 let G':Gh:={ own:=G.own,hdr:=fun s=>if s=rN then .slice none 0 0 else G.hdr s,bx:=G.bx }
 have e2:upds σ [(kR rN,aQ.root (.c (.rows z [])) m 0 .live)] (kR rN)=some (.root (.c (.rows z [])) m 0 .live):=by
  simp[upds,Tan]
 have ev:∀ s c,(kR s,c)∈[(kR rN,aQ.root (.c (.rows z [])) m 0 .live)]->s=rN:=by
  intro s c hc;simp only[Vbu,Wbd,Xbl,or_false]at hc;exact fJ hc.1
 refine⟨G',h.roots (f:=fun s p=>.slc s p) ?_ (fun b=>?_) (fun _ _ _ _ _=>rfl) ?_ (fun _ _ _ _ _ s p q hf=>?_) ?_ rfl ?_,by simp[G'],rfl⟩
 ·intro k c hc
  simp only[Vbu,Wbd,Xbl,or_false]at hc;exact⟨_,hc.1⟩
 ·show G.own b=_
  cases G.own b<;>rfl
 ·intro s c hc ij
  obtain rfl:=ev s c hc;rw[e2]at ij;obtain rfl:=Wbk ij;exact .inl ⟨hN,_,_,_,_,rfl⟩
 ·injection hf with f1 f2
  exact⟨f1,f2⟩
 ·intro s hs
  show (if s=rN then _ else G.hdr s)=_
  rw[if_neg];intro e;rw[e,hN]at hs;cases hs
 ·intro s c hc ij
  obtain rfl:=ev s c hc;rw[e2]at ij;obtain rfl:=Wbk ij;refine⟨_,_,_,_,rfl,?_⟩;show Rp G.own w s [] m (if s=s then _ else G.hdr s) (.rows z [])
  rw[if_pos rfl]
  cases m with
  |zero=>exact .fz (.rows none ⟨0,0,none⟩ 0 0 z [] (fun _ _=>undef) rfl (Vb6 _) (.inl rfl) (by simp) (by simp) (by simp))
  |succ m=>exact .sl none ⟨0,0,none⟩ 0 0 z [] (fun _ _=>undef) rfl (Vb6 _) (.inr ⟨rfl,rfl⟩) (by simp) (fun e=>by cases e) (by simp) (by simp)
theorem xS {rs:List Nat}{deps:List (Nat×Nat)}(cu:∀ b,G'.own b=nS (fzF rs) (G.own b))(hd:∀ z∈deps,z.1∈rs){b:Nat}(hb:allow G deps b):allow G' [] b:=by
 refine .inl ?_;rw[cu]
 rcases hb with hb|⟨r,k,p,hm,hb⟩
 ·rw[hb];rfl
 ·rw[hb]
  simp only[nS,fzF];rw[if_pos (hd _ hm)]
theorem Ha0 {s:St}{rs:List Nat}{fr:List (Nat×aQ)}(eC:(dV rs).eval s.get=some fr):∀ k c,(k,c)∈fr->vT s.nt s.nb s.nr k=true:=by
 intro k c hc;obtain⟨r,-,x,m,cy,rfl,-,h3⟩:=(gU eC).2 k c hc;exact Cai h3
end
structure RI (nr len i:Nat) (s:St):Prop where
 nr_:s.nr=nr+len
 free:∀ j,i<=j->j<len->s.get (kR (nr+j))=none
section
variable {E:Env} {F:bK} {ρ:List D} {a:Act} {w:World} {G:Gh} {cf:Nat->List D->Option (List D)} {nr len i:Nat} {s s':St}
theorem RI.succ (h:RI nr len i s):RI nr len (i+1) s:=⟨h.nr_,fun j h1 h2=>h.free j (by omega) h2⟩
theorem RI.keeps (h:RI nr len i s)(hk:Ebz s s'):RI nr len i s':=⟨hk.nr.trans h.nr_,fun j h1 h2=>by rw[hk.root];exact h.free j h1 h2⟩
theorem RI.puts (h:RI nr len i s){u:List (Nat×aQ)}{i':Nat}(hi:i<=i')(hg:(s.puts u).get=upds s.get u)(hu:∀ j,i'<=j->j<len->∀ c,(kR (nr+j),c)∉u):RI nr len i' (s.puts u) :=
 ⟨(iY u s).2.2.1.trans h.nr_,fun j h1 h2=>by rw[hg,fH _ _ _ (hu j h1 h2)];exact h.free j (by omega) h2⟩
theorem Baz {u:List (Nat×aQ)}{G':Gh}(hg:(s.puts u).get=upds s.get u)(iu:R E.ntmps F (upds s.get u) ρ a w G')(gl:G'.bx=G.bx){k j:Nat}{c0:aQ}(hk:s.get k=some c0)
  {v:Value} (hv:ValAt E.ntmps F.gh a w G.bx c0 k j v) (hu:∀ c,(k,c)∉u) {l:aP} (hl:aB (upds s.get u) ρ G' w l v) :
  R E.ntmps F (putAt k j l (s.puts u)).get ρ a w G'/\Ebz (s.puts u) (putAt k j l (s.puts u))/\(putAt k j l (s.puts u)).nv=s.nv:=by
 rw[<- hg]at iu hl;have jx:(s.puts u).get k=some c0:=by rw[hg,fH _ _ _ hu];exact hk
 obtain⟨h1,h2,h3⟩:=iu.putAt jx (by rw[gl];exact hv) hl;exact⟨h1,h2,h3.trans (iY u s).1⟩
theorem xZ {n:Nat}{gh:Nat->Value}{bx:Nat->Addr}{c0:aQ}{k j:Nat}{v:Value}(h:ValAt n gh a w bx c0 k j v):∀ r,k≠kR r:=by
 intro r
 cases h with
 |one=>exact iQ
 |agg=>exact iQ
 |box=>exact fO
theorem wH (hR:R E.ntmps F s.get ρ a w G)(hI:RI nr len i s){rs:List Nat}{fr:List (Nat×aQ)}(eC:(dV rs).eval s.get=some fr){k j:Nat}{c0:aQ}(hk:s.get k=some c0)
  {v:Value} (hv:ValAt E.ntmps F.gh a w G.bx c0 k j v) {l:aP} (hl:∀ G' ep,(∀ b,G'.own b=nS (fzF rs) (G.own b))->aB ep ρ G' w l v) :
  (∃ G',R E.ntmps F (putAt k j l (s.puts fr)).get ρ a w G')/\RI nr len (i+1) (putAt k j l (s.puts fr))/\(putAt k j l (s.puts fr)).nt=s.nt/\(putAt k j l (s.puts fr)).nv=s.nv:=by
 obtain⟨G',iu,h1,h2,h3⟩:=hR.freeze eC;have hg:(s.puts fr).get=upds s.get fr:=yJ (Ha0 eC);have hfk:=(gU eC).2
 obtain⟨h4,h5,h6⟩:=Baz hg iu h3 hk hv (fun c hc=>by
  obtain⟨r,-,x,m,cy,e,-⟩:=hfk _ _ hc;exact xZ hv r e) (hl G' _ h1)
 refine⟨⟨G',h4⟩,RI.keeps (hI.succ.puts (Vb6 _) hg fun q ql oE c hc=>?_) h5,h5.nt.trans (iY fr s).2.2.2,h6⟩;obtain⟨r,-,x,m,cy,e,-,h7⟩:=hfk _ _ hc;rw[<- e,hI.free q (by omega) oE]at h7;cases h7
theorem Oam {p:Pos}{ls:List Step}{x:aI}(h:Laz E p nr i s=some (ls,s',x))(hI:RI nr len i s)(hi:i<len)(hR:R E.ntmps F s.get ρ a w G)(cA:aJ cf ρ none s.nv ls) :
  (∃ G',R E.ntmps F s'.get ρ a w G')/\RI nr len (i+1) s'/\s'.nt=s.nt/\s'.nv=s.nv+bM ls:=by
 have tE:=hI.free i (Vb6 _) hi;have hkN:vT s.nt s.nb s.nr (kR (nr+i))=true:=Oa4 (by rw[hI.nr_];omega);unfold Laz at h;dsimp only at h;split at h
 ·
  simp only[Vbl,Wbd]at h;obtain⟨rfl,rfl,rfl⟩:=h;exact⟨⟨G,hR⟩,hI.succ,rfl,rfl⟩
 ·
  rename_i al r hf hl;split at h
  ·rename_i x0 m0 v0 r' hk
   cases hb:Nat.beq r' (nr+al) with
   |false=>rw[hb]at h;simp[kK]at h
   | true =>
    rw[hb,cond_true]at h;simp only[Vbl,Wbd]at h;obtain⟨rfl,rfl,rfl⟩:=h;simp only[Wbl]at hb;obtain⟨v,c,qd,oc,iS⟩:=hR.valAt (jQ hl (by simp));simp only[aB]at iS;have ri:=hR.root hk;simp only[bW]at ri
    obtain⟨h1,h2,h3⟩:=hR.putAt qd oc (l:=.ex (nr+al)) (by
     simp only[aB];rw[<- hb];exact⟨iS.1.trans ri.1,ri.2,iS.2.2⟩)
    exact⟨⟨G,h1⟩,(hI.keeps h2).succ,h2.nt,h3⟩
  ·simp[kK]at h
 ·
  simp only[Vbl,Wbd]at h;obtain⟨rfl,rfl,rfl⟩:=h;exact⟨⟨G,hR⟩,hI.succ,rfl,rfl⟩
 ·
  rename_i m r hf hl;split at h
  ·rename_i x0 m' v0 hk
   cases hb:Nat.ble m m' with
   |false=>rw[hb]at h;simp[kK]at h
   | true =>
    rw[hb,cond_true]at h;simp only[Vbl,Wbd]at h;obtain⟨rfl,rfl,rfl⟩:=h;simp only[Wb6]at hb;obtain⟨v,c,qd,oc,iS⟩:=hR.valAt (jQ hl (by simp));simp only[aB]at iS;have ri:=hR.root hk;simp only[bW]at ri;obtain⟨G',iu,h1,h2⟩:=hR.moveRoot hk tE hb ri (.inr ⟨rfl,rfl⟩)
    have hg:=yJ (s:=s) (u:=[(kR r,.root (.c .hole) 0 0 (.fwd (nr+i))),(kR (nr+i),.root x0 m 0 .live)]) (fun k c hc=>by
     simp only[Vbu,Wbd,Xbl,or_false]at hc
     rcases hc with ⟨e,-⟩|⟨e,-⟩<;>rw[e]
     ·exact Cai hk
     ·exact hkN)
    obtain⟨h3,h4,h5⟩:=Baz (j:=p.j) hg iu h2 qd oc (fun c hc=>by
     simp only[Vbu,Wbd,Xbl,or_false]at hc
     rcases hc with ⟨e,-⟩|⟨e,-⟩<;>exact xZ oc _ e) (l:=.ex (nr+i)) (by
     simp only[aB];exact⟨by rw[h1];exact iS.1,eP _ _ _ (.inr ⟨.root x0 m 0 .live,by simp⟩),iS.2.2⟩)
    refine⟨⟨G',h3⟩,RI.keeps (hI.puts (Ybq i) hg fun q ql oE c hc=>?_) h4,h4.nt.trans (iY _ s).2.2.2,h5⟩;simp only[Vbu,Wbd,Xbl,or_false]at hc
    rcases hc with ⟨e,-⟩|⟨e,-⟩
    ·rw[<- e,hI.free q (by omega) oE]at hk;cases hk
    ·have:=fJ e;omega
  ·simp[kK]at h
 ·
  rename_i m nie z hf hl;simp only[Vbl,Wbd]at h;obtain⟨rfl,rfl,rfl⟩:=h;obtain⟨v,c,qd,oc,iS⟩:=hR.valAt (jQ hl (by simp));simp only[aB]at iS;have hv0:v=.slice none 0 0:=(iS.2 (by simp)).2.1 trivial z rfl;obtain⟨G',iu,h1,h2⟩:=hR.nilRoot (m:=m) (z:=z) tE
  have hg:=yJ (s:=s) (u:=[(kR (nr+i),.root (.c (.rows z [])) m 0 .live)]) (fun k c hc=>by
   simp only[Vbu,Wbd,Xbl,or_false]at hc;rw[hc.1];exact hkN)
  obtain⟨h3,h4,h5⟩:=Baz (j:=p.j) hg iu h2 qd oc (fun c hc=>by
   simp only[Vbu,Wbd,Xbl,or_false]at hc
   exact xZ oc _ hc.1) (l:=.ex (nr+i)) (by
   simp only[aB];exact⟨by rw[h1];exact hv0,eP _ _ _ (.inr ⟨.root (.c (.rows z [])) m 0 .live,by simp⟩),iS.1.1⟩)
  refine⟨⟨G',h3⟩,RI.keeps (hI.puts (Ybq i) hg fun q ql oE c hc=>?_) h4,h4.nt.trans (iY _ s).2.2.2,h5⟩;simp only[Vbu,Wbd,Xbl,or_false]at hc;have:=fJ hc.1;omega
 ·
  rename_i m r k nie x0 hf hl;split at h
  ·rename_i x1 m' v0 hk
   cases hb:(Nat.ble m m'&&Nat.beq v0 k) with
   |false=>rw[hb]at h;simp[kK]at h
   | true =>
    rw[hb,cond_true]at h;simp only[Vbl,Wbd]at h;obtain⟨rfl,rfl,rfl⟩:=h;simp only[Vbk,Wb6,Wbl]at hb;obtain⟨hb,rfl⟩:=hb;obtain⟨v,c,qd,oc,iS⟩:=hR.valAt (jQ hl (by simp));simp only[aB]at iS
    obtain⟨-,-,h0⟩:=iS.2 fun z hz=>by
     simp only[Vbp]at hz;subst hz;exact⟨x1,m',.live,hk,.inl rfl⟩
    have fR:=h0 r v0 m' rfl ⟨x1,hk⟩;obtain⟨G',iu,h1,h2⟩:=hR.moveRoot hk tE hb fR (.inl rfl)
    have hg:=yJ (s:=s) (u:=[(kR r,.root (.c .hole) 0 0 .gone),(kR (nr+i),.root x0 m 0 .live)]) (fun k c hc=>by
     simp only[Vbu,Wbd,Xbl,or_false]at hc
     rcases hc with ⟨e,-⟩|⟨e,-⟩<;>rw[e]
     ·exact Cai hk
     ·exact hkN)
    obtain⟨h3,h4,h5⟩:=Baz (j:=p.j) hg iu h2 qd oc (fun c hc=>by
     simp only[Vbu,Wbd,Xbl,or_false]at hc
     rcases hc with ⟨e,-⟩|⟨e,-⟩<;>exact xZ oc _ e) (l:=.ex (nr+i)) (by
     simp only[aB];exact⟨h1.symm,eP _ _ _ (.inr ⟨.root x0 m 0 .live,by simp⟩),iS.1.1⟩)
    refine⟨⟨G',h3⟩,RI.keeps (hI.puts (Ybq i) hg fun q ql oE c hc=>?_) h4,h4.nt.trans (iY _ s).2.2.2,h5⟩;simp only[Vbu,Wbd,Xbl,or_false]at hc
    rcases hc with ⟨e,-⟩|⟨e,-⟩
    ·rw[<- e,hI.free q (by omega) oE]at hk;cases hk
    ·have:=fJ e;omega
  ·simp[kK]at h
 ·
  rename_i hf;split at h
  ·rename_i x0 fr jc
   simp only[Vbl,Wbd]at h;obtain⟨rfl,rfl,rfl⟩:=h;simp only[aA,Vbj,aC,Vbl,Wbd]at jc;obtain⟨sl,h1,fr',h2,rfl,rfl⟩:=jc;obtain⟨v,c,qd,oc,iS⟩:=hR.valAt (jQ (k:=p.k) (j:=p.j) rfl (by intro e;rw[e]at h1;cases h1));have hs:=eH hR h1 iS;have kf:v.oneCell'=true:=iS.one (by cases km:wU p.k p.j s<;>first|rfl|(rw[km]at h1;cases h1));refine wH hR hI h2 qd oc fun G' ep cu=>?_
   simp only[aB];exact⟨⟨kf,by simp⟩,fun _=>⟨hs.rd.mono fun b hb=>⟨xS cu (fun z hz=>Xbf hz) hb,rfl⟩,fun e=>absurd e (by decide),trivial⟩⟩
  ·simp[kK]at h
 ·
  rename_i z hf hl;simp only[Vbl,Wbd]at h;obtain⟨rfl,rfl,rfl⟩:=h;obtain⟨v,c,qd,oc,iS⟩:=hR.valAt (jQ hl (by simp));simp only[aB]at iS
  obtain⟨h1,h2,h3⟩:=hR.putAt qd oc (l:=.rp [] z (.c (.rows z []))) (by
   simp only[aB];exact⟨⟨by rw[iS];rfl,by simp⟩,fun _=>.inl ⟨iS,z,rfl⟩⟩)
  exact⟨⟨G,h1⟩,(hI.keeps h2).succ,h2.nt,h3⟩
 ·
  rename_i z deps z' x0 hf hl;split at h
  ·rename_i fr jc
   simp only[Vbl,Wbd]at h;obtain⟨rfl,rfl,rfl⟩:=h;simp only[aA,Vbj]at jc;obtain⟨ds,h1,h2⟩:=jc;obtain⟨v,c,qd,oc,iS⟩:=hR.valAt (jQ hl (by simp));simp only[aB]at iS;obtain⟨h3,h4,h5⟩:=jC h1;refine wH hR hI h2 qd oc fun G' ep cu=>?_
   simp only[aB];refine⟨⟨iS.1.1,by simp⟩,fun _=>?_⟩
   rcases iS.2 h3 with h6|⟨ad,row,h6,h7,h8⟩
   ·exact .inl h6
   ·exact .inr ⟨ad,row,h6,h7,(h8.drop hR h5).mono fun b hb=>⟨xS cu (fun z hz=>Xbf hz) hb,rfl⟩⟩
  ·simp[kK]at h
 ·
  rename_i z l z' ix hf hl;split at h
  ·rename_i x0 fr jc
   simp only[Vbl,Wbd]at h;obtain⟨rfl,rfl,rfl⟩:=h;simp only[aA,Vbj,aC,Vbl,Wbd]at jc;obtain⟨sl,h1,fr',h2,rfl,rfl⟩:=jc;obtain⟨v,c,qd,oc,iS⟩:=hR.valAt (jQ hl (by simp));simp only[aB]at iS;obtain⟨ad,n,cp,ik,iv,h3,h4,h5,h6,h7⟩:=iS;have hs:=eH hR h1 h3;obtain⟨d,cC,hd⟩:=gJ cA rfl;simp only[List.map_cons,List.map_nil,h4]at cC
   have gj:∃ sz rs r,sl.x.val ρ=.rows sz rs/\sz=z'/\rs[iv.toNat]?=some r/\d=.rows z' [r]:=by
    cases hx:sl.x.val ρ with
    | rows sz rs =>
     rw[hx]at cC;simp only[aT.run]at cC;split at cC
     ·rename_i hc
      split at cC
      ·rename_i r hr
       simp only[Vbl,List.cons.injEq,and_true]at cC;exact⟨sz,rs,r,rfl,hc.1,hr,cC.symm⟩
      ·cases cC
     ·cases cC
    |_=>rw[hx]at cC;simp[aT.run]at cC
   obtain⟨sz,rs,r,hx,rfl,hr,rfl⟩:=gj;have jc:=hs.rd;rw[hx]at jc;obtain⟨A',b,n',c',vs,e1,e2,e3,e4,e5,e6,e7⟩:=jc.inv
   injection e1 with e1 e1' e1''
   have bj:iv.toNat<rs.length:=(Vbn.1 hr).1;have hA:some ad=some b:=by rw[e1];exact e4.resolve_left (by omega)
   obtain rfl:=Wbk hA;have pw:r.length=sz:=e5 r (List.mem_of_getElem? hr)
   obtain⟨q1,q2,q3,q4⟩:=wH hR hI h2 qd oc (l:=.rp [] z (.v s.nv)) fun G' ep cu=>by
    simp only[aB];refine⟨⟨by rw[h7];rfl,by simp⟩,fun _=>.inr ⟨_,r,h7,by rw[hd,pw],?_⟩⟩;have sb:∀ {b:Nat},allow G sl.deps b->allow G' [] b:=fun hb=>xS cu (fun z hz=>Xbf hz) hb
    refine .rows _ (ad.add (iv.toNat*sz+0)) 1 1 r.length [r] (fun _ j=>vs iv.toNat j) rfl (Vb6 _) (.inr rfl) (by simp) (fun i0 r0 kx j d0 hj=>?_) (fun i0 r0 kx j d0 hj=>?_)
    ·cases i0 with
     | zero =>
      simp only[Vbv,Vbl]at kx;subst kx;obtain⟨k1,k2⟩:=e6 _ _ hr j d0 hj;refine⟨by rw[add_block];exact sb k1,?_⟩;rw[add_add];rw[show iv.toNat*sz+0+(0*r.length+j)=iv.toNat*sz+j by omega];exact k2
     |succ i0=>simp at kx
    ·cases i0 with
     | zero =>
      simp only[Vbv,Vbl]at kx;subst kx;exact (e7 _ _ hr j d0 hj).mono fun b hb=>⟨sb hb,rfl⟩
     |succ i0=>simp at kx
   exact⟨q1,⟨q2.nr_,q2.free⟩,q3,rfl⟩
  ·simp[kK]at h
 ·simp only[Vbl,Wbd]at h
  obtain⟨rfl,rfl,rfl⟩:=h;exact⟨⟨G,hR⟩,hI.succ,rfl,rfl⟩
 ·simp only[Vbl,Wbd]at h
  obtain⟨rfl,rfl,rfl⟩:=h;exact⟨⟨G,hR⟩,hI.succ,rfl,rfl⟩
 ·simp[kK]at h
theorem wI:∀ {ps:List Pos} {i:Nat} {s s':St} {ls:List Step} {xs:List aI} {G:Gh},kD E nr ps i s=some (ls,s',xs)->RI nr len i s->i+ps.length=len->R E.ntmps F s.get ρ a w G->aJ cf ρ none s.nv ls ->
  (∃ G',R E.ntmps F s'.get ρ a w G')/\s'.nt=s.nt/\s'.nr=s.nr/\s'.nv=s.nv+bM ls
 | [], i, s, s', ls, xs, G, h, hI, hl, hR, cA => by
  simp only[kD,Vbl,Wbd]at h;obtain⟨rfl,rfl,rfl⟩:=h;exact⟨⟨G,hR⟩,rfl,rfl,rfl⟩
 | p :: ps, i, s, s', ls, xs, G, h, hI, hl, hR, cA => by
  simp only[kD,bind,Vbj]at h;obtain⟨⟨l1,s1,x1⟩,h1,⟨l2,s2,xs2⟩,h2,h3⟩:=h;simp only[Vbl,Wbd]at h3;obtain⟨rfl,rfl,rfl⟩:=h3;simp only[Wbb]at hl;obtain⟨ke,gR⟩:=aJ.append cA;obtain⟨⟨G1,rl⟩,hI1,h4,h5⟩:=Oam h1 hI (by omega) hR ke;rw[<- h5]at gR;obtain⟨h6,h7,h8,h9⟩:=wI h2 hI1 (by omega) rl gR;refine⟨h6,h7.trans h4,h8.trans (hI1.nr_.trans hI.nr_.symm),?_⟩;rw[h9,h5,fM,Nat.add_assoc]
theorem qY:∀ {ps:List Pos} {i:Nat} {s s':St} {ls:List Step} {xs:List aI},kD E nr ps i s=some (ls,s',xs)->xs.length=ps.length
 | [], i, s, s', ls, xs, h => by
  simp only[kD,Vbl,Wbd]at h;obtain⟨rfl,rfl,rfl⟩:=h;rfl
 | p :: ps, i, s, s', ls, xs, h => by
  simp only[kD,bind,Vbj]at h;obtain⟨⟨l1,s1,x1⟩,h1,⟨l2,s2,xs2⟩,h2,h3⟩:=h;simp only[Vbl,Wbd]at h3;obtain⟨rfl,rfl,rfl⟩:=h3;simp[qY h2]
theorem nK {τ:St}:∀ {rs:List Nat} {s s':St} {G:Gh},iC τ rs s=some s'->R E.ntmps F s.get ρ a w G->∃ G',R E.ntmps F s'.get ρ a w G'
 | [], s, s', G, h, hR => by
  simp only[iC,Vbl]at h;subst h;exact⟨G,hR⟩
 | r :: rs, s, s', G, h, hR => by
  simp only[iC]at h;split at h
  ·rename_i x m v _ hk
   have eC:(dV [r]).eval s.get=some [(kR r,.root x m v .frozen)]:=by
    simp only[dV,aA,aR,Vbs];rw[hk];rfl
   obtain⟨G',iu,-,-,-⟩:=hR.freeze eC;have hg:(s.puts [(kR r,.root x m v .frozen)]).get=upds s.get [(kR r,.root x m v .frozen)]:=yJ (Ha0 eC);rw[<- hg]at iu;exact nK h iu
  ·exact nK h hR
theorem Haz {s:St}(h:oL s.tr s.nr len=true):RI s.nr len 0 { s with nr:=s.nr+len }:=by
 refine⟨rfl,fun j _ hj=>?_⟩;unfold St.get;dsimp only;rw[yU h (s.nr+j) (by omega) (by omega)];cases vT s.nt s.nb (s.nr+len) (kR (s.nr+j))<;>rfl
theorem Ual {s:St}(h:oL s.tr s.nr len=true):({ s with nr:=s.nr+len }:St).get=s.get:=by
 funext k;unfold St.get;dsimp only;unfold vT
 cases b0:Nat.beq (k % 3) 0 with
 |true=>rfl
 | false =>
  rw[cond_false,cond_false]
  cases b1:Nat.beq (k % 3) 1 with
  |true=>rfl
  | false =>
   rw[cond_false,cond_false];have n0:k % 3≠0:=fun e=>by rw[e]at b0;cases b0
   have n1:k % 3≠1:=fun e=>by rw[e]at b1;cases b1
   cases hb:Xbe (k / 3) s.nr with
   | true =>
    have:Xbe (k / 3) (s.nr+len)=true:=by simp only[Wb0]at hb ⊢;omega
    rw[this]
   | false =>
    cases fg:Xbe (k / 3) (s.nr+len) with
    |false=>rfl
    | true =>
     simp only[Wb0]at fg
     have n4:s.nr<=k / 3:=by
      rcases Wbc (k / 3) s.nr with h1|h1
      ·rw[<- Wb0,hb]at h1;cases h1
      ·exact h1
     have:k=kR (k / 3):=by unfold kR;omega
     rw[cond_true,cond_false,this];exact yU h _ n4 fg
theorem Sah {s0:St}{cJ:Nat}{ct:List Pos}{τ:St}{kind:Kind}{r:Tm St}(h:Ial E s0.nv s0.nr cJ ct τ kind s=some r)(mc:Aae E s0 cJ ct.length τ){ρ0 e:List D}(hρ:ρ=ρ0++e)(h0:ρ0.length=s0.nv)
  {o:Out St} (ho:Ec cf r ρ=some o) (hl:ρ.length=s.nv) (hi:Dah E s) :
  o.kind=kind/\o.vals.length=ct.length/\∀ a w G,R E.ntmps F s.get ρ a w G->∃ G',R E.ntmps F τ.get (ρ0++o.vals) a w G':=by
 unfold Ial at h;simp only[bind,Vbj]at h;obtain⟨⟨ls,s1,xs⟩,h1,s2,h2,h3⟩:=h;dsimp only at h1 h2 h3;generalize hb:(oI E s0.nv xs s0.nr cJ s.nr ct.length τ s2&&oL s.tr s.nr ct.length&&Nat.ble s0.nr s.nr&&fD s.nv ls&&xs.all (aY (s.nv+bM ls)))=b at h3
 cases b with
 |false=>simp[kK]at h3
 | true =>
  rw[cond_true]at h3;obtain rfl:=Wbk h3;simp only[Vbk,Wb6]at hb;obtain⟨⟨⟨⟨lR,gp⟩,rh⟩,hb4⟩,hb5⟩:=hb;obtain⟨ds,h4,h5,h6⟩:=vZ (g:=none) rfl (by rw[hl];exact hb4) ho;rw[gH]at h5;obtain rfl:=Wbk h5;refine⟨rfl,by simp[Out.vals,qY h1],fun a w G hR=>?_⟩;have h6':=h6 [];rw[Wbo,hl]at h6'
  have rl:R E.ntmps F ({ s with nr:=s.nr+ct.length }:St).get (ρ++ds) a w G:=by
   rw[Ual gp];exact hR.ext hi.sc (by omega) ds
  obtain⟨⟨G1,xz⟩,h7,h8,h9⟩:=wI (cf:=cf) h1 (Haz gp) (by simp) rl h6';obtain⟨G2,hR3⟩:=nK h2 xz;subst hρ;rw[Vbx]at hR3;have:=hR3.fit h0 (qY h1) mc lR rh;rw[Vbx];exact this
end
theorem sI (b c k:Nat):lV b c (lV b c k)=k:=by
 unfold lV
 cases h1:Nat.beq k b with
 | true =>
  simp only[Wbl]at h1;subst h1;rw[cond_true]
  cases h2:Nat.beq c k with
  |true=>simp only[Wbl]at h2;rw[cond_true];exact h2
  |false=>rw[cond_false,show Nat.beq c c=true by simp,cond_true]
 | false =>
  rw[cond_false]
  cases h2:Nat.beq k c with
  | true =>
   simp only[Wbl]at h2;subst h2;rw[cond_true,show Nat.beq b b=true by simp,cond_true]
  |false=>rw[cond_false,h1,h2,cond_false,cond_false]
theorem Nax {b c k K:Nat}(hk:k<K)(hb:K<=b)(hc:K<=c):lV b c k=k:=by
 unfold lV
 have h1:Nat.beq k b=false:=by cases h:Nat.beq k b with
  |false=>rfl
  |true=>simp only[Wbl]at h;omega
 have h2:Nat.beq k c=false:=by cases h:Nat.beq k c with
  |false=>rfl
  |true=>simp only[Wbl]at h;omega
 rw[h1,h2];rfl
theorem Cby {b c k n:Nat}(hb:b<n)(hc:c<n):lV b c k<n↔k<n:=by
 unfold lV
 cases h1:Nat.beq k b with
 |true=>simp only[Wbl]at h1;rw[cond_true];omega
 | false =>
  rw[cond_false]
  cases h2:Nat.beq k c with
  |true=>simp only[Wbl]at h2;rw[cond_true];omega
  |false=>rw[cond_false]
def swS (b c:Nat)(σ:Nat->Option aQ):Nat->Option aQ:=fun k=>(σ (nC b c k)).map (pE b c)
def swO (b c:Nat):Ow->Ow
 |.box j=>.box (lV b c j)
 |o=>o
def swG (b c:Nat)(G:Gh):Gh:=⟨fun x=>swO b c (G.own x),G.hdr,fun j=>G.bx (lV b c j)⟩
theorem Cah (b c r:Nat):nC b c (kR r)=kR r:=by
 unfold nC;rw[show Nat.beq (kR r % 3) 1=false by unfold kR;rw[show (3*r+2) % 3=2 by omega];rfl];rfl
theorem Oa3 (b c j:Nat):nC b c (kB j)=kB (lV b c j):=by
 unfold nC;have e1:kB j % 3=1:=by unfold kB;omega
 have e2:kB j / 3=j:=by unfold kB;omega
 rw[e1,e2];rfl
theorem Lao {b c:Nat}{o:Ow}:swO b c o=.frz↔o=.frz:=by cases o<;>simp[swO]
theorem Lan {b c:Nat}{o:Ow}{r:Nat}{p:List Nat}:swO b c o=.slc r p↔o=.slc r p:=by cases o<;>simp[swO]
theorem Ma1 {b c:Nat}{y:aQ}{x:aI}{m v:Nat}{st:RSt}:pE b c y=.root x m v st↔y=.root x m v st:=by cases y<;>simp[pE]
theorem Lam {b c:Nat}{σ:Nat->Option aQ}{r:Nat}{x:aI}{m v:Nat}{st:RSt}:swS b c σ (kR r)=some (.root x m v st)↔σ (kR r)=some (.root x m v st):=by
 unfold swS;rw[Cah]
 cases σ (kR r) with
 |none=>simp
 |some y=>simp only[Wb5,Vbl];exact Ma1
theorem Fa0 {b c:Nat}{σ:Nat->Option aQ}{k:Nat}:(swS b c σ k).isSome=(σ (nC b c k)).isSome:=by
 unfold swS;cases σ (nC b c k)<;>rfl
section
variable {b c:Nat} {σ:Nat->Option aQ} {ρ:List D} {G:Gh} {w:World}
theorem Taa {r k:Nat}:mU (swS b c σ) r k↔mU σ r k:=by
 unfold mU;simp only[Lam]
theorem Tab {r k:Nat}:jK (swS b c σ) r k↔jK σ r k:=by
 unfold jK;simp only[Lam]
theorem Qa3 {r k m:Nat}:zI (swS b c σ) r k m↔zI σ r k m:=by
 unfold zI;simp only[Lam]
theorem Tac {deps:List (Nat×Nat)}{x:Nat}(h:allow G deps x):allow (swG b c G) deps x:=by
 rcases h with h|⟨r,k,p,hm,h⟩
 ·exact .inl (Lao.2 h)
 ·exact .inr ⟨r,k,p,hm,Lan.2 h⟩
theorem Fb8 {r:Nat}{p:List Nat}{m:Nat}{v:Value}{d:D}(h:Rp G.own w r p m v d):Rp (swG b c G).own w r p m v d:=by
 have:=h.mono (own':=(swG b c G).own) (w':=w) (r':=r) (q:=[]) (q':=[]) (fun x hx=>⟨Lao.2 hx,rfl⟩) p rfl (fun x t hx=>⟨Lan.2 hx,rfl⟩);simpa using this
theorem Fb9 {r:Nat}{q p:List Nat}{v u:Value}(h:zO G.own w r q v p u):zO (swG b c G).own w r q v p u :=
 zO.mono p q q v u (fun x t hx=>⟨Lan.2 hx,rfl⟩) h
theorem Ib4 {deps:List (Nat×Nat)}{v:Value}{d:D}{p:Pth}(h:Dag σ ρ G w deps v d p):Dag (swS b c σ) ρ (swG b c G) w deps v d p:=by
 cases p with
 |no=>trivial
 |view=>exact fun r k m e hl=>Fb8 (h r k m e (Qa3.1 hl))
 |suf sz lo=>exact fun r k m e hl=>h r k m e (Qa3.1 hl)
 | path p =>
  intro r k m e hl;obtain⟨h1,h2,h3⟩:=h r k m e (Qa3.1 hl);exact⟨h1,Fb8 h2,Fb9 h3⟩
mutual
theorem Lal:∀ (l:aP) (v:Value),aB σ ρ G w l v->aB (swS b c σ) ρ (swG b c G) w (l.swap b c) v
 |.dead,_,hl=>by simpa[aB,aP.swap] using hl
 |.sc x,v,hl=>by simpa[aB,aP.swap] using hl
 |.su g x,v,hl=>by simpa[aB,aP.swap] using hl
 | .ex r, v, hl => by
  simp only[aB,aP.swap]at hl ⊢;exact⟨hl.1,by rw[Fa0,Cah];exact hl.2.1,hl.2.2⟩
 | .sn deps p nie x, v, hl => by
  simp only[aB,aP.swap]at hl ⊢;refine⟨⟨hl.1.1,fun z hz=>Tab.2 (hl.1.2 z hz)⟩,fun hv=>?_⟩;obtain⟨h1,h2,h3⟩:=hl.2 (fun z hz=>Taa.1 (hv z hz));exact⟨h1.mono fun x hx=>⟨Tac hx,rfl⟩,h2,Ib4 h3⟩
 | .px k off, v, hl => by
  simp only[aB,aP.swap]at hl ⊢;refine⟨?_,?_⟩
  ·show v=.pointer (some ((G.bx (lV b c (lV b c k))).add off))
   rw[sI];exact hl.1
  ·rw[Fa0,Oa3,sI];exact hl.2
 | .pe l sz i off, v, hl => by
  simp only[aB,aP.swap]at hl ⊢;obtain⟨a,n,c',k,iv,h1,h2⟩:=hl;exact⟨a,n,c',k,iv,Lal l _ h1,h2⟩
 | .rp deps sz x, v, hl => by
  simp only[aB,aP.swap]at hl ⊢;refine⟨⟨hl.1.1,fun z hz=>Tab.2 (hl.1.2 z hz)⟩,fun hv=>?_⟩
  rcases hl.2 (fun z hz=>Taa.1 (hv z hz)) with h1|⟨a,row,h1,h2,h3⟩
  ·exact .inl h1
  ·exact .inr ⟨a,row,h1,h2,h3.mono fun x hx=>⟨Tac hx,rfl⟩⟩
 |.pn,v,hl=>by simpa[aB,aP.swap] using hl
 | .clo f fS, v, hl => by
  simp only[aB,aP.swap]at hl ⊢;obtain⟨vs,h1,h2⟩:=hl;exact⟨vs,h1,Bae fS vs h2⟩
theorem Bae:∀ (ls:List aP) (vs:List Value),aD σ ρ G w ls vs->aD (swS b c σ) ρ (swG b c G) w (cZ b c ls) vs
 |[],vs,hl=>by simpa[aD,cZ] using hl
 | l :: ls, vs, hl => by
  simp only[aD,cZ]at hl ⊢;obtain⟨u,us,e,h1,h2⟩:=hl;exact⟨u,us,e,Lal l u h1,Bae ls us h2⟩
end
theorem Eb9:∀ (ts:List (Bool×List aP)) (us:List Value),iM σ ρ G w ts us->iM (swS b c σ) ρ (swG b c G) w (ts.map fun t=>(t.1,cZ b c t.2)) us
 |[],_,ht=>ht
 | (a, ls) :: r, us, ht => by
  obtain⟨u,dj,vs,e,h1,h2,h3⟩:=ht;exact⟨u,dj,vs,e,Bae ls vs h1,h2,Eb9 r dj h3⟩
theorem Ob7 {v:SV}{u:Value}(hv:dC σ ρ G w v u):dC (swS b c σ) ρ (swG b c G) w (Xaj b c v) u:=by
 cases v with
 |dead=>trivial
 |one l=>exact Lal l u hv
 |agg ls=>obtain⟨vs,e,h1⟩:=hv;exact⟨vs,e,Bae ls vs h1⟩
 |tup ts=>obtain⟨us,e,h1⟩:=hv;exact⟨us,e,Eb9 ts us h1⟩
theorem Ba8:∀ (ls:List aP) (j:Nat),(cZ b c ls)[j]?=(ls[j]?).map (aP.swap b c)
 |[],j=>by simp[cZ]
 |l::ls,0=>by simp[cZ]
 |l::ls,j+1=>by simp[cZ,Ba8 ls j]
theorem zZ:∀ (ls:List aP),(cZ b c ls).length=ls.length
 |[]=>rfl
 |l::ls=>by simp[cZ,zZ ls]
end
def Eah (F:bK)(K:Nat):Prop:=∀ x j,x<F.w0.heap.size->F.own0 x=.box j->j<K
theorem R.swap {n:Nat}{F:bK}{σ:Nat->Option aQ}{ρ:List D}{a:Act}{w:World}{G:Gh}(h:R n F σ ρ a w G){K:Nat}(hF:Eah F K){b c:Nat}(hb:K<=b)(hc:K<=c):R n F (swS b c σ) ρ a w (swG b c G):=by
 refine⟨h.tmps,h.defers,fun k y hk=>?_,⟨h.frame.os,h.frame.tape,h.frame.output,h.frame.size,fun x hx ho=>?_,fun x j hx ho=>?_,fun x hx=>Lao.2 (h.frame.fresh x hx)⟩,fun j ls hk hx ho=>?_⟩
 ·unfold swS at hk
  rw[Vb4]at hk;obtain⟨z,hz,rfl⟩:=hk;have hr:=h.cont _ _ hz
  cases z with
  | slot g v =>
   obtain⟨t,e,h1⟩:=hr
   have ek:k=kT t:=by
    unfold nC at e
    cases hm:Nat.beq (k % 3) 1 with
    |true=>rw[hm,cond_true]at e;exact absurd e.symm mK
    |false=>rw[hm,cond_false]at e;exact e
   exact⟨t,ek,fun hg=>Ob7 (h1 hg)⟩
  | box ro ls =>
   obtain⟨j,e,h1,h2,h3⟩:=hr
   have ek:k=kB (lV b c j):=by
    unfold nC at e
    cases hm:Nat.beq (k % 3) 1 with
    | true =>
     rw[hm,cond_true]at e;simp only[Wbl]at hm;have:=Caj e;rw[<- this,sI];unfold kB;omega
    | false =>
     rw[hm,cond_false]at e;rw[e]at hm;have:kB j % 3=1:=by unfold kB;omega
     rw[this]at hm;cases hm
   refine⟨lV b c j,ek,?_,?_,fun i l hl=>?_⟩
   ·show (G.bx (lV b c (lV b c j))).spot=none
    rw[sI];exact h1
   ·show swO b c (G.own (G.bx (lV b c (lV b c j))).block)=_
    rw[sI,h2];cases ro<;>rfl
   ·rw[Ba8,Vb4]at hl
    obtain⟨l0,nc,rfl⟩:=hl;obtain⟨v,h4,h5,h6⟩:=h3 i l0 nc;show ∃ v,w.cell? ((G.bx (lV b c (lV b c j))).add i)=some v/\w.frozen? ((G.bx (lV b c (lV b c j))).add i)=false/\_
    rw[sI];exact⟨v,h4,h5,Lal l0 v h6⟩
  | root x m cy st =>
   obtain⟨r,e,h1,h2⟩:=hr
   have ek:k=kR r:=by
    unfold nC at e
    cases hm:Nat.beq (k % 3) 1 with
    |true=>rw[hm,cond_true]at e;exact absurd e fO
    |false=>rw[hm,cond_false]at e;exact e
   refine⟨r,ek,by rw[Fa0,Cah];exact h1,?_⟩
   cases st with
   |live=>exact Fb8 h2
   |frozen=>exact⟨h2.1.mono fun x hx=>⟨Lao.2 hx,rfl⟩,fun x p hx=>h2.2 x p (Lan.1 hx)⟩
   |gone=>trivial
   |fwd r'=>exact⟨h2.1,by rw[Fa0,Cah];exact h2.2⟩
 ·obtain⟨h1,h2⟩:=h.frame.keep x hx ho
  refine⟨h1,?_⟩;show swO b c (G.own x)=_
  rw[h2]
  rcases ho with ho|ho<;>rw[ho]<;>rfl
 ·obtain⟨h1,h2⟩:=h.frame.boxes x j hx ho
  refine⟨?_,h2⟩;show swO b c (G.own x)=_
  rw[h1];show Ow.box (lV b c j)=_
  rw[Nax (hF x j hx ho) hb hc]
 ·have hj:=hF _ j hx ho
  have e:=Nax hj hb hc
  have jx:σ (kB j)=some (.box false ls)\/∃ l0,σ (kB j)=some (.box false l0)/\l0.length=ls.length:=by
   unfold swS at hk;rw[Oa3,e,Vb4]at hk;obtain⟨z,hz,hs⟩:=hk
   cases z with
   |slot=>simp[pE]at hs
   |root=>simp[pE]at hs
   | box ro l0 =>
    simp only[pE,aQ.box.injEq]at hs;obtain⟨rfl,rfl⟩:=hs;exact .inr ⟨l0,hz,(zZ l0).symm⟩
  have e2:(swG b c G).bx j=G.bx j:=by show G.bx (lV b c j)=_;rw[e]
  rw[e2]at hx ho ⊢
  rcases jx with jx|⟨l0,jx,hl⟩
  ·exact h.rng j ls jx hx ho
  ·rw[<- hl];exact h.rng j l0 jx hx ho
theorem Kak {f:Nat->Option aQ}:∀ (L:List Nat) (t:Tr aQ) (k:Nat),(Oao f L t).get k=if k∈L then f k else t.get k
 |[],t,k=>by simp[Oao]
 | x :: L, t, k => by
  rw[Oao,Kak L _ k];by_cases h:k∈L
  ·rw[if_pos h,if_pos (Vb1 _ h)]
  ·rw[if_neg h,Tr.get_set]
   by_cases e:k=x
   ·subst e;rw[if_pos rfl,if_pos Vb7]
   ·rw[if_neg e,if_neg (by simp only[Vbu,not_or];exact⟨e,h⟩)]
theorem Kb5 {nt nb nr k:Nat}:k∈(range 0 nt).map kT++(range 0 nb).map kB++(range 0 nr).map kR↔vT nt nb nr k=true:=by
 unfold vT;simp only[List.mem_append,Wb3,mem_range];constructor
 ·rintro ((⟨x,hx,rfl⟩|⟨x,hx,rfl⟩)|⟨x,hx,rfl⟩)
  ·rw[show kT x % 3=0 by unfold kT;omega,show kT x / 3=x by unfold kT;omega];simpa using hx.2
  ·rw[show kB x % 3=1 by unfold kB;omega,show kB x / 3=x by unfold kB;omega];simpa using hx.2
  ·rw[show kR x % 3=2 by unfold kR;omega,show kR x / 3=x by unfold kR;omega];simpa using hx.2
 ·have a5y:k % 3=0\/k % 3=1\/k % 3=2:=by omega
  rcases a5y with h|h|h<;>rw[h]<;>intro hk
  ·have jx:k / 3<nt:=by simpa using hk
   exact .inl (.inl ⟨k / 3,⟨Xby _,by omega⟩,by unfold kT;omega⟩)
  ·have jx:k / 3<nb:=by simpa using hk
   exact .inl (.inr ⟨k / 3,⟨Xby _,by omega⟩,by unfold kB;omega⟩)
  ·have jx:k / 3<nr:=by simpa using hk
   exact .inr ⟨k / 3,⟨Xby _,by omega⟩,by unfold kR;omega⟩
theorem Vax {nt nb nr b c k:Nat}(hb:b<nb)(hc:c<nb):vT nt nb nr (nC b c k)=vT nt nb nr k:=by
 unfold nC
 cases h:Nat.beq (k % 3) 1 with
 |false=>rfl
 | true =>
  rw[cond_true];simp only[Wbl]at h;unfold vT;rw[show kB (lV b c (k / 3)) % 3=1 by unfold kB;omega,show kB (lV b c (k / 3)) / 3=lV b c (k / 3) by unfold kB;omega,h];show Xbe _ _=Xbe _ _
  have:=Cby (k:=k / 3) hb hc;cases h1:Xbe (lV b c (k / 3)) nb<;>cases h2:Xbe (k / 3) nb<;>first|rfl|skip
  ·simp only[Wb0]at h2
   have:=this.2 h2;rw[<- Wb0,h1]at this;cases this
  ·simp only[Wb0]at h1
   have:=this.1 h1;rw[<- Wb0,h2]at this;cases this
theorem Sa9 {s:St}{b c:Nat}(hb:b<s.nb)(hc:c<s.nb):(s.swap b c).get=swS b c s.get:=by
 funext k;have e0:(s.swap b c).get k=bif vT s.nt s.nb s.nr k then (s.swap b c).tr.get k else none:=rfl;have e1:(s.swap b c).tr.get k=if k∈(range 0 s.nt).map kT++(range 0 s.nb).map kB++(range 0 s.nr).map kR then swS b c s.get k else s.tr.get k:=Kak _ _ k
 rw[e0,e1]
 cases h:vT s.nt s.nb s.nr k with
 |true=>rw[cond_true,if_pos (Kb5.2 h)]
 | false =>
  rw[cond_false];unfold swS St.get;rw[Vax hb hc,h];rfl
theorem Kas {b c N:Nat}:∀ l:aP,(l.swap b c).inScope N=l.inScope N:=by
 intro l
 induction l using aP.rec (motive_2:=fun ls=>bG N (cZ b c ls)=bG N ls) with
 |dead=>rfl
 |sc=>rfl
 |su=>rfl
 |ex=>rfl
 |sn=>rfl
 |px=>rfl
 |pe l sz i off ih=>simp only[aP.swap,aP.inScope,ih]
 |rp=>rfl
 |pn=>rfl
 |clo f fS ih=>simp only[aP.swap,aP.inScope,ih]
 |nil=>rfl
 |cons l ls h1 h2=>simp only[cZ,bG,h1,h2]
theorem qZ {b c N:Nat}:∀ ls:List aP,bG N (cZ b c ls)=bG N ls
 |[]=>rfl
 |l::ls=>by simp only[cZ,bG,Kas,qZ ls]
theorem Wan {b c N:Nat}(y:aQ):dA N (pE b c y)=dA N y:=by
 cases y with
 | slot g v =>
  simp only[pE,dA];congr 1
  cases v with
  |dead=>rfl
  |one l=>exact Kas l
  |agg ls=>exact qZ ls
  | tup ts =>
   simp only[Xaj,yD,List.all_map];congr 1;funext t;exact qZ t.2
 |box ro ls=>exact qZ ls
 |root=>rfl
theorem Dah.swap {E:Env}{s:St}(h:Dah E s){b c:Nat}(hb:b<s.nb)(hc:c<s.nb):Dah E (s.swap b c):=by
 refine⟨h.nt,?_⟩;rw[Sa9 hb hc];intro k y hk;unfold swS at hk;rw[Vb4]at hk;obtain⟨z,hz,rfl⟩:=hk;rw[Wan];exact h.sc _ _ hz
theorem yK {E:Env}{F:bK}(hF:Eah F E.nbx){τ:St}:∀ (ts:List Nat) (s:St),Dah E s->Dah E (Rav E τ ts s)/\(Rav E τ ts s).nv=s.nv/\∀ {ρ:List D} {a:Act} {w:World} {G:Gh},R E.ntmps F s.get ρ a w G->∃ G',R E.ntmps F (Rav E τ ts s).get ρ a w G'
 |[],s,hi=>⟨hi,rfl,fun hR=>⟨_,hR⟩⟩
 | t :: ts, s, hi => by
  unfold Rav;split
  ·rename_i b c _ _
   cases hg:(!(Nat.beq b c)&&Nat.ble E.nbx b&&Nat.ble E.nbx c&&Xbe b s.nb&&Xbe c s.nb) with
   |false=>rw[cond_false];exact yK hF ts s hi
   | true =>
    rw[cond_true];simp only[Vbk,Wb6,Wb0]at hg;obtain⟨⟨⟨⟨-,h1⟩,h2⟩,h3⟩,h4⟩:=hg;obtain⟨k1,k2,k3⟩:=yK hF ts (s.swap b c) (hi.swap h3 h4);refine⟨k1,k2,fun hR=>?_⟩;have:=hR.swap hF h1 h2;rw[<- Sa9 h3 h4]at this;exact k3 this
  ·exact yK hF ts s hi
section
variable {E:Env} {F:bK} {cf:Nat->List D->Option (List D)} {ρ:List D} {s:St}
theorem Ka2 (hF:Eah F E.nbx){s0:St}{cJ:Nat}{ct:List Pos}{τ:St}{kind:Kind}{r:Tm St}(h:coerce E s0.nv s0.nr cJ ct τ kind s=some r)(mc:Aae E s0 cJ ct.length τ){ρ0 e:List D}(hρ:ρ=ρ0++e)(h0:ρ0.length=s0.nv)
  {o:Out St} (ho:Ec cf r ρ=some o) (hl:ρ.length=s.nv) (hi:Dah E s) :
  o.kind=kind/\o.vals.length=ct.length/\∀ a w G,R E.ntmps F s.get ρ a w G->∃ G',R E.ntmps F τ.get (ρ0++o.vals) a w G':=by
 obtain⟨h1,h2,h3⟩:=yK hF (τ:=τ) E.pxs s hi;obtain⟨h4,h5,h6⟩:=Sah (F:=F) h mc hρ h0 ho (hl.trans h2.symm) h1;refine⟨h4,h5,fun a w G hR=>?_⟩;obtain⟨G',iu⟩:=h3 hR;exact h6 a w G' iu
end
def Zan:Kind->Exit
 |.fall=>.normal
 |.exit id=>.exit id
 |.ret=>.ret
 |_=>.outgrown
def Pbh:Kind->Prop
 |.cont=>False
 |.yield _=>False
 |_=>True
structure Post (E:Env) (ρ:List D) (o:Out St):Prop where
 nice:Pbh o.kind
 len:o.env.length=o.ext.nv
 inv:Dah E o.ext
 pre:∃ ds,o.env=ρ++ds
def Wp (P:Program)(E:Env)(F:bK)(c:Code)(s:St)(ρ:List D)(o:Out St):Prop :=
 ∀ a w G Q,R E.ntmps F s.get ρ a w G->(∀ a' w' G',R E.ntmps F o.ext.get o.env a' w' G'->Q (Zan o.kind) a' w')->c.wp P Q a w
theorem Post.trans {E:Env}{ρ ds:List D}{o:Out St}(h:Post E (ρ++ds) o):Post E ρ o:=by
 obtain⟨es,h1⟩:=h.pre;exact⟨h.nice,h.len,h.inv,ds++es,by rw[h1,Vbx]⟩
theorem Ka8 {k:Kind}:qN k=true↔k=.fall:=by cases k<;>simp[qN]
section
variable {P:Program} {E:Env} {F:bK} {cf:Nat->List D->Option (List D)} {ρ:List D}
theorem mX {g:Option (aI×Bool)}{kind:Kind}{xs:List aI}{s:St}:∀ {ls:List Step} {ρ:List D} {o:Out St},Ec cf (pR g (.leaf kind xs s) ls) ρ=some o->o.kind=kind
 | [], ρ, o, h => by
  rw[pR,gH]at h;obtain rfl:=Wbk h;rfl
 | .prim p ys n :: r, ρ, o, h => by
  rw[pR,Nag]at h;split at h
  ·simp only[Vbj]at h
   obtain⟨ds,-,h⟩:=h;split at h
   ·exact mX h
   ·cases h
  ·exact mX h
 | .call f ys n olds :: r, ρ, o, h => by
  rw[pR,vE]at h;split at h
  ·simp only[Vbj]at h
   obtain⟨ds,-,h⟩:=h;split at h
   ·exact mX h
   ·cases h
  ·exact mX h
theorem Pa6 {n eM cJ:Nat}{ct:List Pos}{τ s:St}{kind:Kind}{r:Tm St}(h:Ial E n eM cJ ct τ kind s=some r){ρ:List D}{o:Out St}(ho:Ec cf r ρ=some o):o.kind=kind:=by
 unfold Ial at h;simp only[bind,Vbj]at h;obtain⟨⟨ls,s1,xs⟩,h1,s2,h2,h3⟩:=h;dsimp only at h3
 revert h3
 generalize (oI E n xs eM cJ s.nr ct.length τ s2&&oL s.tr s.nr ct.length&&Nat.ble eM s.nr&&fD s.nv ls&&xs.all (aY (s.nv+bM ls)))=b;intro h3
 cases b with
 |false=>simp[kK]at h3
 | true =>
  rw[cond_true]at h3;obtain rfl:=Wbk h3;exact mX ho
theorem Iak {n eM cJ:Nat}{ct:List Pos}{τ s:St}{kind:Kind}{r:Tm St}(h:coerce E n eM cJ ct τ kind s=some r){ρ:List D}{o:Out St}(ho:Ec cf r ρ=some o):o.kind=kind:=Pa6 h ho
theorem Dbs {live:Nat}{s0:St}{i:Nat}{jw:Kind->Bool}{ends:List St}{t t':Tm St}{τ:St}(h:join E live s0 i jw ends t=some (t',τ)) :
  ∃ ct gf,Aae E s0 gf ct.length τ/\t.turn (.yield i) jw (coerce E s0.nv s0.nr gf ct τ (.yield i))=some t':=by
 unfold join at h;dsimp only at h
 revert h
 generalize hb:Eam E s0 _ _ _=b;intro h
 cases b with
 |false=>simp[kK]at h
 | true =>
  rw[cond_true,Vb4]at h;obtain⟨t1,h1,h2⟩:=h;obtain⟨rfl,rfl⟩:=Prod.mk.inj h2;exact⟨_,_,Aai hb,h1⟩
theorem Yax (hF:Eah F E.nbx){live:Nat}{s0:St}{i:Nat}{jw:Kind->Bool}{ends:List St}{t t' k:Tm St}{τ:St}(h:join E live s0 i jw ends t=some (t',τ))(hc:jw .cont=false)(hy:∀ i,jw (.yield i)=false)
  {o:Out St} (ho:Ec cf (.bind i t' k) ρ=some o) (hl:ρ.length=s0.nv) (hP:∀ o1,Ec cf t ρ=some o1->Post E ρ o1) :
  ∃ o1,Ec cf t ρ=some o1/\((jw o1.kind=true/\∃ vals,Ec cf k (ρ++vals)=some o/\(ρ++vals).length=τ.nv/\Dah E τ/\∀ a w G,R E.ntmps F o1.ext.get o1.env a w G->∃ G',R E.ntmps F τ.get (ρ++vals) a w G')\/(jw o1.kind=false/\o=o1)):=by
 obtain⟨ct,gf,mc,ht⟩:=Dbs h;simp only[sF,Vbj]at ho;obtain⟨o',h1,h2⟩:=ho;obtain⟨o1,h3,h4⟩:=lW (fun s r hr ρ o ho=>Iak hr ho) hc hy ht h1;refine⟨o1,h3,?_⟩;have hp:=hP o1 h3
 rcases h4 with ⟨h5,h6,r,h7,h8⟩|⟨h5,h6⟩
 ·refine .inl ⟨h5,?_⟩
  rw[if_pos h6]at h2;obtain⟨ds,h9⟩:=hp.pre;obtain⟨da,eo,gb⟩:=Ka2 hF h7 mc h9 hl h8 hp.len hp.inv;exact⟨o'.vals,h2,by rw[Vbw,hl,eo,mc.nv],⟨mc.nt1,mc.inScope⟩,gb⟩
 ·refine .inr ⟨h5,?_⟩
  subst h6
  have:o'.kind≠.yield i:=fun e=>by
   have:=hp.nice;rw[e]at this;exact this
  rw[if_neg this]at h2;exact (Wbk h2).symm
theorem Haj {live:Nat}{s:St}{body:St->Option (Tm St)}:∀ {fuel:Nat} {ct:List Pos} {keys:List Nat} {gf:Nat} {seen:List St} {t:Tm St},Hak E live s body fuel ct keys gf seen=some t ->
  ∃ ct gf τ tb pk xs s1 s2,body τ=some tb/\Aae E s gf ct.length τ/\kD E s.nr ct 0 { s with nr:=s.nr+ct.length }=some ([],s1,xs)/\iC τ (range 0 s.nr) s1=some s2 /\
   oI E s.nv xs s.nr gf s.nr ct.length τ s2=true/\oL s.tr s.nr ct.length=true/\tb.turn .cont qN (coerce E s.nv s.nr gf ct τ .cont)=some pk/\t=.loop xs pk
 |0,_,_,_,_,t,h=>by simp[Hak,kK]at h
 | fuel + 1, ct, keys, gf, seen, t, h => by
  simp only[Hak]at h;split at h
  ·cases h
  ·rename_i tb hb
   revert h
   generalize hc:(Ras ct _&&_&&_)=b;intro h
   cases b with
   | false =>
    rw[cond_false]at h;exact Haj h
   | true =>
    rw[cond_true]at h;simp only[bind,Vbj]at h;obtain⟨⟨pre,s1,xs⟩,h1,s2,h2,h3⟩:=h;dsimp only at h1 h2 h3
    revert h3
    generalize hd:(oI E s.nv xs s.nr gf s.nr ct.length _ s2&&oL s.tr s.nr ct.length&&pre.isEmpty&&Eam E s gf ct.length _)=b;intro h3
    cases b with
    |false=>simp[kK]at h3
    | true =>
     rw[cond_true]at h3;simp only[Vbj,Vbl]at h3;obtain⟨pk,h4,h5⟩:=h3;simp only[Vbk,Ybx]at hd;obtain⟨⟨⟨im,qq⟩,rfl⟩,hd4⟩:=hd;exact⟨ct,gf,_,tb,pk,xs,s1,s2,hb,Aai hd4,h1,h2,im,qq,h4,h5.symm⟩
theorem Oaz {s:St}{body:St->Option (Tm St)}{H:List (Nat×Nat×Nat×Nat)×List Nat×Nat×List Nat}{t:Tm St}(h:Mab E s body H=some t) :
  ∃ ct gf τ tb pk xs s1 s2,body τ=some tb/\Aae E s gf ct.length τ/\kD E s.nr ct 0 { s with nr:=s.nr+ct.length }=some ([],s1,xs)/\iC τ (range 0 s.nr) s1=some s2 /\
   oI E s.nv xs s.nr gf s.nr ct.length τ s2=true/\oL s.tr s.nr ct.length=true/\tb.turn .cont qN (coerce E s.nv s.nr gf ct τ .cont)=some pk/\t=.loop xs pk:=by
 unfold Mab at h
 revert h
 generalize (H.1.map fun p=>(⟨p.1,p.2.1,Lbd p.2.2.1 p.2.2.2⟩:Pos))=ct;generalize s.nr+H.2.2.1=gf;intro h;dsimp only at h;split at h
 ·cases h
 ·rename_i tb hb
  simp only[bind,Vbj]at h;obtain⟨⟨pre,s1,xs⟩,h1,s2,h2,h3⟩:=h;dsimp only at h1 h2 h3
  revert h3
  generalize hd:(oI E s.nv xs s.nr gf s.nr ct.length _ s2&&oL s.tr s.nr ct.length&&pre.isEmpty&&Eam E s gf ct.length _)=b;intro h3
  cases b with
  |false=>simp[kK]at h3
  | true =>
   rw[cond_true]at h3;simp only[Vbj,Vbl]at h3;obtain⟨pk,h4,h5⟩:=h3;simp only[Vbk,Ybx]at hd;obtain⟨⟨⟨im,qq⟩,rfl⟩,hd4⟩:=hd;exact⟨ct,gf,_,tb,pk,xs,s1,s2,hb,Aai hd4,h1,h2,im,qq,h4,h5.symm⟩
theorem least {p:Nat->Prop}(h:∃ n,p n):∃ n,p n/\∀ m,p m->n<=m:=by
 obtain⟨n,hn⟩:=h
 induction n using Nat.strongRecOn with
 | _ n ih =>
  by_cases h:∃ m,m<n/\p m
  ·obtain⟨m,h1,h2⟩:=h
   exact ih m h1 h2
  ·refine⟨n,hn,fun m hm=>?_⟩
   rcases Wbc m n with h1|h1
   ·exact absurd ⟨m,h1,hm⟩ h
   ·exact h1
open Classical in
theorem Nal {c:Code}{Q:Exit->Act->World->Prop}(K:Nat->Act->World->Prop)
  (round:∀ n a w,K n a w->c.wp P (Exit.then (fun a' w'=>∃ m,m<n/\K m a' w') Q) a w) {n:Nat} {a:Act} {w:World} (h0:K n a w):(Code.loop c).wp P Q a w:=by
 refine wp_loop (fun a w=>∃ n,K n a w) (fun a w=>if h:∃ n,K n a w then (least h).choose else 0) ⟨n,h0⟩ fun a w h=>?_
 have h1:=round _ a w (least h).choose_spec.1;refine wp_mono h1 fun e a' w' hq=>?_
 cases e with
 | normal =>
  obtain⟨m,hm,hK⟩:=hq;have h':∃ n,K n a' w':=⟨m,hK⟩;refine⟨h',?_⟩;rw[dif_pos h',dif_pos h];exact Nat.lt_of_le_of_lt ((least h').choose_spec.2 m hK) hm
 |_=>exact hq
theorem Kac (hF:Eah F E.nbx){s:St}{body:St->Option (Tm St)}{c:Code}
  (hbody:∀ {τ:St} {t:Tm St} {ρ:List D} {o:Out St},body τ=some t->Ec cf t ρ=some o->ρ.length=τ.nv->Dah E τ->Post E ρ o/\Wp P E F c τ ρ o)
  {t:Tm St} (h:∃ ct gf τ tb pk xs s1 s2,body τ=some tb/\Aae E s gf ct.length τ/\kD E s.nr ct 0 { s with nr:=s.nr+ct.length }=some ([],s1,xs)/\iC τ (range 0 s.nr) s1=some s2 /\
   oI E s.nv xs s.nr gf s.nr ct.length τ s2=true/\oL s.tr s.nr ct.length=true/\tb.turn .cont qN (coerce E s.nv s.nr gf ct τ .cont)=some pk/\t=.loop xs pk) {o:Out St} (ho:Ec cf t ρ=some o) (hl:ρ.length=s.nv) (hi:Dah E s):Post E ρ o/\Wp P E F (.loop c) s ρ o:=by
 obtain⟨ct,gf,τ,tb,pk,xs,s1,s2,h1,mc,h2,h3,h4,h5,h6,rfl⟩:=h;have a5r:Dah E τ:=⟨mc.nt1,mc.inScope⟩;have uf:=qY h2;rw[Nah]at ho
 have tw:∀ vs o',vs.length=ct.length->Ec cf pk (ρ++vs)=some o'->∃ o1,Ec cf tb (ρ++vs)=some o1/\Post E (ρ++vs) o1/\Wp P E F c τ (ρ++vs) o1 /\
   ((o1.kind=.fall/\o'.kind=.cont/\o'.vals.length=ct.length/\∀ a w G,R E.ntmps F o1.ext.get o1.env a w G->∃ G',R E.ntmps F τ.get (ρ++o'.vals) a w G')\/(o1.kind≠.fall/\o'=o1)):=by
  intro vs o' ic he;obtain⟨o1,h7,h8⟩:=lW (fun s r hr ρ o ho=>Iak hr ho) rfl (fun _=>rfl) h6 he;obtain⟨hp,hw⟩:=hbody h1 h7 (by rw[Vbw,hl,ic,mc.nv]) a5r;refine⟨o1,h7,hp,hw,?_⟩
  rcases h8 with ⟨h9,da,r,eo,gb⟩|⟨h9,da⟩
  ·obtain⟨ds,jk⟩:=hp.pre
   obtain⟨ln,mz,na⟩:=Ka2 hF eo mc (jk.trans (Vbx ..)) hl gb hp.len hp.inv;exact .inl ⟨Ka8.1 h9,ln,mz,na⟩
  ·exact .inr ⟨(fun e=>by rw[e]at h9;cases h9),da⟩
 refine⟨?_,fun a w G Q hR hQ=>?_⟩
 ·refine Abz (C:=fun vs o=>vs.length=ct.length->Post E ρ o) (fun vs o' he hk ic=>?_) (fun vs o' o2 he hk hC _ ic=>?_) ho (by simp[uf])
  ·obtain⟨o1,-,hp,-,h8⟩:=tw vs o' ic he
   rcases h8 with ⟨-,h9,-⟩|⟨-,h9⟩
   ·exact absurd h9 hk
   ·rw[h9];exact hp.trans
  ·obtain⟨o1,-,hp,-,h8⟩:=tw vs o' ic he
   rcases h8 with ⟨-,-,h9,-⟩|⟨-,h9⟩
   ·exact hC h9
   ·subst h9
    have:=hp.nice;rw[hk]at this;exact this.elim
 ·
  have rl:R E.ntmps F ({ s with nr:=s.nr+ct.length }:St).get ρ a w G:=by rw[Ual h5];exact hR
  obtain⟨⟨G1,xz⟩,-⟩:=wI (cf:=cf) h2 (Haz h5) (by simp) rl trivial;obtain⟨G2,hR3⟩:=nK h3 xz;obtain⟨G3,hR4⟩:=R.fit (ρ0:=ρ) (e:=[]) (by rw[Wbo];exact hR3) hl uf mc h4 (Vb6 _);rw[Wbo]at hR4;have rq:=ho;unfold Lc at rq;obtain⟨N,hN⟩:=(gL (Pb1 (cf:=cf) pk ρ (xs.map (·.val ρ)))).1 rq;refine Nal (fun n a w=>∃ vs G,iter n (fun vs=>runT cf N pk (ρ++vs)) vs=some o/\vs.length=ct.length/\R E.ntmps F τ.get (ρ++vs) a w G) (fun n a w hK=>?_) (n:=N) ⟨_,G3,hN,by simp[uf],hR4⟩;obtain⟨vs,G,hn,ic,hRv⟩:=hK
  cases n with
  |zero=>cases hn
  | succ m =>
   simp only[iter,Vbj]at hn;obtain⟨o',h7,h8⟩:=hn;obtain⟨o1,h9,hp,hw,da⟩:=tw vs o' ic (Ia9.2 ⟨N,h7⟩);refine hw a w G _ hRv fun a' w' G' iu=>?_
   rcases da with ⟨eo,gb,jk,ln⟩|⟨eo,gb⟩
   ·rw[if_pos gb]at h8
    rw[eo];obtain⟨G'',qc⟩:=ln a' w' G' iu;exact⟨m,Nat.lt_succ_self m,o'.vals,G'',h8,jk,qc⟩
   ·subst gb
    have hk:o'.kind≠.cont:=fun e=>by
     have:=hp.nice;rw[e]at this;exact this
    rw[if_neg hk]at h8;obtain rfl:=Wbk h8;have:=hQ a' w' G' iu
    revert this eo
    have:=hp.nice
    revert this
    cases o'.kind<;>intro h1 h2 h3<;>first|exact h1.elim|exact (h2 rfl).elim|exact h3
theorem rR (hF:Eah F E.nbx)(hti:vV P E.ti)(cY:Aa5 P E F cf)(hm:P.follows .mixedOrders=true){rb:Nat}:∀ (c:Code) {ex:List (Nat×Nat)} {live:Nat} {s:St} {t:Tm St} {ρ:List D} {o:Out St},sxC E false rb c ex live s=some t ->
  Ec cf t ρ=some o->ρ.length=s.nv->Dah E s->Post E ρ o/\Wp P E F c s ρ o
 | .skip, ex, live, s, t, ρ, o, h, ho, hl, hi => by
  simp only[sxC,Vbl]at h;subst h;rw[gH]at ho;obtain rfl:=Wbk ho;exact⟨⟨trivial,hl,hi,[],by simp⟩,fun a w G Q hR hQ=>wp_skip (hQ a w G hR)⟩
 | .label _, ex, live, s, t, ρ, o, h, ho, hl, hi => by
  simp only[sxC,Vbl]at h;subst h;rw[gH]at ho;obtain rfl:=Wbk ho;exact⟨⟨trivial,hl,hi,[],by simp⟩,fun a w G Q hR hQ=>wp_label (hQ a w G hR)⟩
 | .ret, ex, live, s, t, ρ, o, h, ho, hl, hi => by
  simp only[sxC,Vbl]at h;subst h;rw[gH]at ho;obtain rfl:=Wbk ho;exact⟨⟨trivial,hl,hi,[],by simp⟩,fun a w G Q hR hQ=>wp_ret (hQ a w G hR)⟩
 | .exit id, ex, live, s, t, ρ, o, h, ho, hl, hi => by
  simp only[sxC,Vbl]at h;subst h;rw[gH]at ho;obtain rfl:=Wbk ho;exact⟨⟨trivial,hl,hi,[],by simp⟩,fun a w G Q hR hQ=>wp_exit (hQ a w G hR)⟩
 | .region kq ops draw, ex, live, s, t, ρ, o, h, ho, hl, hi => by
  simp only[sxC,Vbl]at h;subst h;obtain⟨⟨h1,h2,h3,h4⟩,h5⟩:=Na6 hti cY hm ho hl hi
  exact⟨⟨by rw[h1];trivial,h2,h3,h4⟩,fun a w G Q hR hQ=>h5 a w G Q hR fun a' w' G' iu=>by
   have:=hQ a' w' G' iu;rw[h1]at this;exact this⟩
 | .seq a b, ex, live, s, t, ρ, o, h, ho, hl, hi => by
  simp only[sxC,bind,Vbj]at h;obtain⟨ta,oT,h⟩:=h;have iha:=fun {o1:Out St} (h1:Ec cf ta ρ=some o1)=>rR hF hti cY hm a oT h1 hl hi
  have mN:∀ o1:Out St,Post E ρ o1->Wp P E F a s ρ o1->o1.kind≠.fall->Wp P E F (.seq a b) s ρ o1:=by
   intro o1 hp hw hk a' w G Q hR hQ;refine wp_seq (hw a' w G _ hR fun a1 w1 G1 rl=>?_);have:=hQ a1 w1 G1 rl
   revert this hk
   have:=hp.nice
   revert this
   cases o1.kind<;>intro h1 h2 h3<;>first|exact h1.elim|exact (h2 rfl).elim|exact h3
  cases vj:ta.no qN with
  | true =>
   rw[vj,cond_true,Vbl]at h;subst h;obtain⟨hp,hw⟩:=iha ho;exact⟨hp,mN o hp hw fun e=>by have:=wP vj ho;rw[e]at this;cases this⟩
  | false =>
   rw[vj,cond_false]at h
   have fL:∀ {o1:Out St} {s2:St} {tb:Tm St} {ρ2:List D},Ec cf ta ρ=some o1->o1.kind=.fall->sxC E false rb b ex live s2=some tb->Ec cf tb ρ2=some o->ρ2.length=s2.nv->Dah E s2->(∃ ds,ρ2=ρ++ds) ->
     (∀ a w G,R E.ntmps F o1.ext.get o1.env a w G->∃ G',R E.ntmps F s2.get ρ2 a w G')->Post E ρ o/\Wp P E F (.seq a b) s ρ o:=by
    intro o1 s2 tb ρ2 h1 hk h2 h3 h4 h5 ⟨ds,h6⟩ h7;obtain⟨hp,hw⟩:=rR hF hti cY hm b h2 h3 h4 h5;obtain⟨hp1,hw1⟩:=iha h1;subst h6;refine⟨hp.trans,fun a' w G Q hR hQ=>wp_seq (hw1 a' w G _ hR fun a1 w1 G1 rl=>?_)⟩;rw[hk];obtain⟨G2,xz⟩:=h7 a1 w1 G1 rl;exact hw a1 w1 G2 Q xz hQ
   split at h
   ·obtain⟨o1,h1,h2⟩:=rF h ho
    rcases h2 with ⟨h3,tb,h4,h5⟩|⟨h3,h4⟩
    ·obtain⟨hp,-⟩:=iha h1
     exact fL h1 h3 h4 h5 hp.len hp.inv hp.pre fun a w G hR=>⟨G,hR⟩
    ·subst h4
     obtain⟨hp,hw⟩:=iha h1;exact⟨hp,mN _ hp hw h3⟩
   ·simp only[Vbj]at h
    obtain⟨⟨t',τ⟩,hj,k,hk,h⟩:=h;simp only[Vbl]at h;subst h;obtain⟨o1,h1,h2⟩:=Yax hF hj rfl (fun _=>rfl) ho hl fun o1 h1=>(iha h1).1
    rcases h2 with ⟨h3,vals,h4,h5,h6,h7⟩|⟨h3,h4⟩
    ·exact fL h1 (Ka8.1 h3) hk h4 h5 h6 ⟨vals,rfl⟩ fun a w G hR=>h7 a w G hR
    ·subst h4
     obtain⟨hp,hw⟩:=iha h1;exact⟨hp,mN _ hp hw fun e=>by rw[e]at h3;cases h3⟩
 | .cond c a b, ex, live, s, t, ρ, o, h, ho, hl, hi => by
  simp only[sxC]at h
  have hcb:∀ v,Za3 c=some v->c=.const (.bool v):=by
   intro v hv;unfold Za3 at hv;split at hv
   ·cases hv;rfl
   ·cases hv
  split at h
  ·rename_i hc
   obtain rfl:=hcb _ hc;obtain⟨hp,hw⟩:=rR hF hti cY hm a h ho hl hi;exact⟨hp,fun a' w G Q hR hQ=>wp_cond_true rfl (hw a' w G Q hR hQ)⟩
  ·rename_i hc
   obtain rfl:=hcb _ hc;obtain⟨hp,hw⟩:=rR hF hti cY hm b h ho hl hi;exact⟨hp,fun a' w G Q hR hQ=>wp_cond_false rfl (hw a' w G Q hR hQ)⟩
  rename_i hcn;clear hcn hcb;split at h
  ·rename_i x tt hk
   cases hb:(aY s.nv x&&Xbe tt E.ntmps) with
   | false =>
    rw[hb]at h;simp only[Bool.not_false,cond_true,Vbl]at h;subst h;rw[jM]at ho;cases ho
   | true =>
    rw[hb]at h;simp only[Vbt,cond_false,bind,Vbj,Vbl]at h;obtain⟨ta,oT,tb,htb,rfl⟩:=h;simp only[Vbk,Wb0]at hb
    have hev:∀ a' w G,R E.ntmps F s.get ρ a' w G->Sc (a'.eval (.tmp tt)) (x.val ρ):=by
     intro a' w G hR;have:=hR.slot hk rfl;simp only[dC,aB,Aa6]at this;rw[if_pos hb.2]at this
     have e:a'.eval (.tmp tt)=a'.tmps.getD tt undef:=by
      simp[Act.eval,Wb2]
     rw[e];exact this
    rw[Fan]at ho;split at ho
    ·rename_i hx
     obtain⟨hp,hw⟩:=rR hF hti cY hm a oT ho hl hi;refine⟨hp,fun a' w G Q hR hQ=>wp_cond_true ?_ (hw a' w G Q hR hQ)⟩;have:=hev a' w G hR;rw[hx]at this;exact this.bool_inv
    ·rename_i hx
     obtain⟨hp,hw⟩:=rR hF hti cY hm b htb ho hl hi;refine⟨hp,fun a' w G Q hR hQ=>wp_cond_false ?_ (hw a' w G Q hR hQ)⟩;have:=hev a' w G hR;rw[hx]at this;exact this.bool_inv
    ·cases ho
  ·simp only[Vbl]at h
   subst h;rw[jM]at ho;cases ho
 | .block id b, ex, live, s, t, ρ, o, h, ho, hl, hi => by
  simp only[sxC,bind,Vbj]at h;obtain⟨tb,htb,h⟩:=h;have ihb:=fun {o1:Out St} (h1:Ec cf tb ρ=some o1)=>rR hF hti cY hm b htb h1 hl hi
  have mN:∀ o1:Out St,Post E ρ o1->Wp P E F b s ρ o1->qE id o1.kind=false->Wp P E F (.block id b) s ρ o1:=by
   intro o1 hp hw hk a' w G Q hR hQ;refine wp_block (hw a' w G _ hR fun a1 w1 G1 rl=>?_);have:=hQ a1 w1 G1 rl
   revert this hk
   have:=hp.nice
   revert this
   cases o1.kind with
   | exit j =>
    intro h1 h2 h3;simp only[Zan,Exit.inBlock];rw[if_neg]
    ·exact h3
    ·intro e
     simp[qE,e]at h2
   |fall=>exact fun h1 h2 h3=>h3
   |ret=>exact fun h1 h2 h3=>h3
   |cont=>exact fun h1 h2 h3=>h1.elim
   |yield i=>exact fun h1 h2 h3=>h1.elim
  cases vj:tb.no (qE id) with
  | true =>
   rw[vj,cond_true,Vbl]at h;subst h;obtain⟨hp,hw⟩:=ihb ho;exact⟨hp,mN o hp hw (wP vj ho)⟩
  | false =>
   rw[vj,cond_false]at h
   have vo:∀ {o1:Out St} {o:Out St},Ec cf tb ρ=some o1->Qaf id o1.kind=true->o.kind=.fall->(∀ a w G,R E.ntmps F o1.ext.get o1.env a w G->∃ G',R E.ntmps F o.ext.get o.env a w G')->Wp P E F (.block id b) s ρ o:=by
    intro o1 o h1 hk ho hg a' w G Q hR hQ;obtain⟨hp,hw⟩:=ihb h1;refine wp_block (hw a' w G _ hR fun a1 w1 G1 rl=>?_);obtain⟨G2,xz⟩:=hg a1 w1 G1 rl;have:=hQ a1 w1 G2 xz;rw[ho]at this
    revert hk
    cases o1.kind with
    | exit j =>
     intro hk;simp only[Qaf,Wbl]at hk;simp only[Zan,Exit.inBlock];rw[if_pos hk.symm];exact this
    |fall=>exact fun _=>this
    |ret=>intro hk;cases hk
    |cont=>intro hk;cases hk
    |yield i=>intro hk;cases hk
   split at h
   ·obtain⟨o1,h1,h2⟩:=jT h ho
    obtain⟨hp,hw⟩:=ihb h1
    rcases h2 with ⟨h3,h4⟩|⟨h3,h4⟩
    ·subst h4
     refine⟨⟨trivial,hp.len,hp.inv,hp.pre⟩,vo h1 ?_ rfl fun a w G hR=>⟨G,hR⟩⟩
     revert h3
     cases o1.kind<;>simp[qE,Qaf]
    ·subst h4
     exact⟨hp,mN _ hp hw h3⟩
   ·simp only[Vbj]at h
    obtain⟨⟨t',τ⟩,hj,h⟩:=h;simp only[Vbl]at h;subst h;obtain⟨o1,h1,h2⟩:=Yax hF hj rfl (fun _=>rfl) ho hl fun o1 h1=>(ihb h1).1
    rcases h2 with ⟨h3,vals,h4,h5,h6,h7⟩|⟨h3,h4⟩
    ·rw[gH]at h4
     obtain rfl:=Wbk h4;exact⟨⟨trivial,h5,h6,vals,rfl⟩,vo h1 h3 rfl fun a w G hR=>h7 a w G hR⟩
    ·subst h4
     obtain⟨hp,hw⟩:=ihb h1;refine⟨hp,mN _ hp hw ?_⟩
     revert h3
     cases o.kind<;>simp[qE,Qaf]
 | .loop b, ex, live, s, t, ρ, o, h, ho, hl, hi => by
  simp only[sxC]at h;split at h
  ·exact Kac hF (fun h1 h2 h3 h4=>rR hF hti cY hm b h1 h2 h3 h4) (Oaz h) ho hl hi
  ·exact Kac hF (fun h1 h2 h3 h4=>rR hF hti cY hm b h1 h2 h3 h4) (Haj h) ho hl hi
 | .scope _, ex, live, s, t, ρ, o, h, ho, hl, hi => by
  simp only[sxC,Vbl]at h;subst h;rw[jM]at ho;cases ho
 | .goto _, ex, live, s, t, ρ, o, h, ho, hl, hi => by
  simp only[sxC,Vbl]at h;subst h;rw[jM]at ho;cases ho
 | .rangeFunc _ _ _ _, ex, live, s, t, ρ, o, h, ho, hl, hi => by
  simp only[sxC,Vbl]at h;subst h;rw[jM]at ho;cases ho
 | .refuse _, ex, live, s, t, ρ, o, h, ho, hl, hi => by
  simp only[sxC,Vbl]at h;subst h;rw[jM]at ho;cases ho
end
end Go.Proofs.YtgpamlpecmldfaaGreat.Rf
