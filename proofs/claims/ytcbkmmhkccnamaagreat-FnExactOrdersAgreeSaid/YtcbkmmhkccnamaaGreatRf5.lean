/- Terms for s6 program's functions, and nj they are right: part 5 of 10. -/
import Derived.Test.YtcbkmmhkccnamaaGreatRf4
import Derived.Orders
open Array renaming getElem?_eq_getElem → Acd, getD_eq_getD_getElem? → Ack, getElem?_toList → Acz
open Bool renaming and_eq_true → Zbd, not_eq_true' → Zb3, or_eq_true → Acp, not_true → Cca, false_or → Ccb, or_true → Cct
open List renaming mem_append_left → Zbe, getElem?_eq_getElem → Zbf, mem_append_right → Zbh, length_append → Zbi, getD_eq_getElem?_getD → Zbk, getElem?_cons_zero → Zbl, append_assoc → Zbm, mem_cons_of_mem → Zbn, mem_singleton → Zbp, length_cons → Zbs, mem_cons_self → Zbu, getElem?_append_left → Zbx, append_nil → Zb4, all_eq_true → Zb6, mem_cons → Acf, nil_append → Aco, mem_map_of_mem → Acx, not_mem_nil → Ac5, getElem?_set → Bci, mem_range → Bck, isEmpty_iff → Ccp, mem_filter → Ccw
open Nat renaming le_refl → Zbr, lt_or_ge → Zbz, beq_eq → Zb8, add_zero → Zb9, zero_add → Aca, blt_eq → Ach, ble_eq → Acr, blt → Acw, zero_le → Bca, testBit → Bc2, le_succ → Ccj, le_add_right → Ccv
open Option renaming bind_eq_some_iff → Zbc, bind_some → Zbj, map_eq_some_iff → Zbo, map_some → Acm, getD_some → Bcd
set_option linter.unusedSimpArgs false
set_option linter.unusedVariables false
set_option linter.unnecessarySimpa false
set_option linter.unusedSectionVars false
namespace Go.Proofs.YtcbkmmhkccnamaaGreat.Rf
theorem mem_range {x:Nat}:∀ {n a:Nat},x∈range a n↔a<=x/\x<a+n
 |0,a=>by simp[range]
 | n + 1, a => by
  simp only[range,Acf,mem_range];omega
theorem tJ {b9 ee r:Nat}(h:r<b9):Uas b9 ee r=r:=by
 unfold Uas
 have:Nat.ble b9 r=false:=by
  cases e:Nat.ble b9 r with
  |false=>rfl
  |true=>simp only[Acr]at e;omega
 rw[this];rfl
theorem Paa {b9 ee r:Nat}(h:b9<=r):Uas b9 ee r=ee+(r-b9):=by
 unfold Uas;have:Nat.ble b9 r=true:=by simpa using h
 rw[this];rfl
def vF (eK ee b9:Nat):Ow->Ow
 |.slc r p=>if r<eK then .slc r p else if ee<=r then .slc (b9+(r-ee)) p else .oth
 |o=>o
theorem Xa6 {eK ee b9:Nat}{o:Ow}{r:Nat}{p:List Nat}(h0:eK<=b9)(h:vF eK ee b9 o=.slc r p):o=.slc (Uas b9 ee r) p:=by
 cases o with
 | slc s q =>
  simp only[vF]at h;split at h
  ·injection h with h1 h2
   subst h1 h2;rw[tJ (by omega)]
  ·split at h
   ·injection h with h1 h2
    subst h1 h2;rw[Paa (by omega)];congr 1;omega
   ·cases h
 |_=>simp only[vF]at h;cases h
theorem Ia5 {eK ee b9 r:Nat}{p:List Nat}(h0:eK<=b9)(hB:eK<=ee)(hr:r<eK\/b9<=r):vF eK ee b9 (.slc (Uas b9 ee r) p)=.slc r p:=by
 simp only[vF]
 rcases hr with h|h
 ·rw[tJ (by omega),if_pos h]
 ·rw[Paa h,if_neg (by omega),if_pos (by omega)]
  congr 1;omega
structure Cby (τ:St) (σ:Nat->Option aS) (gg ρ:List D) (G' G:Gh) (N n:Nat) (xs:List aL) (b9 ee eK:Nat):Prop where
 at_:∀ x,bB N x=true->x.val gg=(Pab n xs x).val ρ
 le:eK<=b9
 leB:eK<=ee
 hdr:∀ r,G'.hdr r=G.hdr (Uas b9 ee r)
 own:∀ b,G'.own b=vF eK ee b9 (G.own b)
 bx:G'.bx=G.bx
 valid:∀ r k,r<eK->mE τ.get r k->mE σ r k
 live:∀ r k m,r<eK->zF τ.get r k m->zF σ r k m
theorem Eam {τ:St}{eK:Nat}:∀ {deps:List (Nat×Nat)},Raj τ eK deps=true->∀ z∈deps,z.1<eK/\jG τ.get z.1 z.2
 |[],_,z,hz=>by simp at hz
 | (r, k) :: d, h, z, hz => by
  simp only[Raj,Zbd]at h
  rcases List.mem_cons.1 hz with rfl|hz
  ·refine⟨by simpa using h.1.1,?_⟩
   have h2:=h.1.2;split at h2
   ·rename_i x m v e;exact⟨_,_,_,_,e,fun hs=>by rcases hs with hs|hs<;>cases hs⟩
   ·rename_i x m v r' e;exact⟨_,_,_,_,e,fun hs=>by rcases hs with hs|hs<;>cases hs⟩
   ·rename_i x m v st uv hn2 e;exact⟨_,_,_,_,e,fun _=>by simpa using h2⟩
   ·cases h2
  ·exact Eam h.2 z hz
section
variable {τ:St} {σ:Nat->Option aS} {gg ρ:List D} {G' G:Gh} {w:World} {N n:Nat} {xs:List aL} {b9 ee eK:Nat}
theorem Cby.ownLow (h:Cby τ σ gg ρ G' G N n xs b9 ee eK){b r:Nat}{p:List Nat}(hr:r<eK)(hb:G.own b=.slc r p):G'.own b=.slc r p:=by
 rw[h.own,hb];have h1:Uas b9 ee r=r:=tJ (by have:=h.le;omega);have h2:=Ia5 (p:=p) h.le h.leB (.inl hr:r<eK\/b9<=r);rw[h1]at h2;exact h2
theorem Cby.frz (h:Cby τ σ gg ρ G' G N n xs b9 ee eK){b:Nat}(hb:G.own b=.frz):G'.own b=.frz:=by
 rw[h.own,hb];rfl
theorem Cby.allow (h:Cby τ σ gg ρ G' G N n xs b9 ee eK){deps:List (Nat×Nat)}(hd:∀ z∈deps,z.1<eK){b:Nat}(hb:Go.Proofs.YtcbkmmhkccnamaaGreat.Rf.allow G deps b):Go.Proofs.YtcbkmmhkccnamaaGreat.Rf.allow G' deps b:=by
 rcases hb with hb|⟨r,k,p,hm,hb⟩
 ·exact .inl (h.frz hb)
 ·exact .inr ⟨r,k,p,hm,h.ownLow (hd _ hm) hb⟩
theorem Cby.path (h:Cby τ σ gg ρ G' G N n xs b9 ee eK){p:List (aL×Nat×Nat)}(hp:(p.all fun x=>bB N x.1)=true):bD gg p=bD ρ (p.map fun x=>(Pab n xs x.1,x.2)):=by
 unfold bD;rw[List.map_map];apply List.map_congr_left;intro x hx;rw[Zb6]at hp;simp only[Function.comp,lD,h.at_ x.1 (hp x hx)]
mutual
theorem aB.fit (h:Cby τ σ gg ρ G' G N n xs b9 ee eK):∀ (l:aR) (v:Value),l.inScope N=true->l.wf τ eK=true->aB σ ρ G w (l.sub n xs b9 ee) v->aB τ.get gg G' w l v
 |.dead,_,_,_,hl=>by simpa[aR.sub,aB] using hl
 | .sc x, v, hs, _, hl => by
  simp only[aR.inScope]at hs;simp only[aR.sub,aB]at hl ⊢;rw[h.at_ x hs];exact hl
 | .su g x, v, hs, _, hl => by
  simp only[aR.inScope,Zbd]at hs;obtain⟨y,b⟩:=g;simp only[aR.sub,aB]at hl ⊢;have hg:gOn gg (some (y,b))=gOn ρ (some (Pab n xs y,b)):=by simp only[gOn,h.at_ y hs.2]
  rw[h.at_ x hs.1,hg];exact hl
 | .ex r, v, _, hw, hl => by
  simp only[aR.wf]at hw;simp only[aR.sub,aB]at hl ⊢;exact⟨by rw[h.hdr];exact hl.1,hw,hl.2.2⟩
 | .sn deps p nie x, v, hs, hw, hl => by
  simp only[aR.inScope,Zbd]at hs;simp only[aR.wf]at hw;have hd:=Eam hw;simp only[aR.sub,aB]at hl ⊢;rw[h.at_ x hs.1];refine⟨⟨hl.1.1,fun z hz=>(hd z hz).2⟩,fun hv=>?_⟩;obtain⟨h1,h2,h3⟩:=hl.2 fun z hz=>h.valid _ _ (hd z hz).1 (hv z hz)
  refine⟨h1.mono fun b hb=>⟨h.allow (fun z hz=>(hd z hz).1) hb,rfl⟩,h2,?_⟩
  cases p with
  |no=>trivial
  | view =>
   intro r k m e iq;have hr:=(hd (r,k) (by simp[e])).1;have:=(h3 r k m e (h.live r k m hr iq)).mono (own':=G'.own) (w':=w) (q:=[]) (q':=[]) (r':=r) (fun b hb=>⟨h.frz hb,rfl⟩) [] rfl (fun b t hb=>⟨h.ownLow hr hb,rfl⟩);simpa using this
  | suf sz lo =>
   intro r k m e iq;have hr:=(hd (r,k) (by simp[e])).1;have h4:=h3 r k m e (h.live r k m hr iq)
   have h5:lD gg lo=lD ρ (Pab n xs lo):=by
    unfold lD;rw[h.at_ lo hs.2]
   rw[h5];rw[h.hdr,tJ (by have:=h.le;omega)];exact h4
  | path p =>
   intro r k m e iq;have hr:=(hd (r,k) (by simp[e])).1;obtain⟨h4,h5,h6⟩:=h3 r k m e (h.live r k m hr iq);rw[h.path hs.2];rw[List.length_map]at h4 h5;refine⟨h4,?_,?_⟩
   ·have:=h5.mono (own':=G'.own) (w':=w) (q:=[]) (q':=[]) (r':=r) (fun b hb=>⟨h.frz hb,rfl⟩) _ rfl (fun b t hb=>⟨h.ownLow hr hb,rfl⟩)
    rw[Aco]at this;exact this
   ·rw[h.hdr,tJ (by have:=h.le;omega)]
    exact zN.mono _ _ _ _ _ (fun b t hb=>⟨h.ownLow hr hb,rfl⟩) h6
 | .px b off, v, _, hw, hl => by
  simp only[aR.wf]at hw;simp only[aR.sub,aB]at hl ⊢;exact⟨by rw[h.bx];exact hl.1,hw⟩
 | .pe l sz i off, v, hs, hw, hl => by
  simp only[aR.inScope,Zbd]at hs;simp only[aR.wf]at hw;simp only[aR.sub,aB]at hl ⊢;obtain⟨a,n,c,k,iv,h1,h2⟩:=hl;exact⟨a,n,c,k,iv,aB.fit h l _ hs.1 hw h1,by rw[h.at_ i hs.2];exact h2⟩
 | .rp deps sz x, v, hs, hw, hl => by
  simp only[aR.inScope]at hs;simp only[aR.wf]at hw;have hd:=Eam hw;simp only[aR.sub,aB]at hl ⊢;rw[h.at_ x hs];refine⟨⟨hl.1.1,fun z hz=>(hd z hz).2⟩,fun hv=>?_⟩
  rcases hl.2 fun z hz=>h.valid _ _ (hd z hz).1 (hv z hz) with h1|⟨a,row,h1,h2,h3⟩
  ·exact .inl h1
  ·exact .inr ⟨a,row,h1,h2,h3.mono fun b hb=>⟨h.allow (fun z hz=>(hd z hz).1) hb,rfl⟩⟩
 |.pn,v,_,_,hl=>by simpa[aR.sub,aB] using hl
 | .clo f fu, v, hs, hw, hl => by
  simp only[aR.inScope]at hs;simp only[aR.wf]at hw;simp only[aR.sub,aB]at hl ⊢;obtain⟨vs,h1,h2⟩:=hl;exact⟨vs,h1,aG.fit h fu vs hs hw h2⟩
theorem aG.fit (h:Cby τ σ gg ρ G' G N n xs b9 ee eK):∀ (ls:List aR) (vs:List Value),bF N ls=true->nM τ eK ls=true->aG σ ρ G w (iF n xs b9 ee ls) vs->aG τ.get gg G' w ls vs
 |[],vs,_,_,hl=>by simpa[iF,aG] using hl
 | l :: ls, vs, hs, hw, hl => by
  simp only[bF,Zbd]at hs;simp only[nM,Zbd]at hw;simp only[iF,aG]at hl ⊢;obtain⟨u,us,e,h1,h2⟩:=hl;exact⟨u,us,e,aB.fit h l u hs.1 hw.1 h1,aG.fit h ls us hs.2 hw.2 h2⟩
end
theorem yY:∀ {d d':List (Nat×Nat)},xJ d d'=true->d=d'
 |[],[],_=>rfl
 |[],_::_,h=>by simp[xJ]at h
 |_::_,[],h=>by simp[xJ]at h
 | (a, b) :: r, (a', b') :: r', h => by
  simp only[xJ,Zbd,Zb8]at h;rw[h.1.1,h.1.2,yY h.2]
theorem Pa9:∀ {d d':List (aL×Nat×Nat)},Lan d d'=true->d=d'
 |[],[],_=>rfl
 |[],_::_,h=>by simp[Lan]at h
 |_::_,[],h=>by simp[Lan]at h
 | (a, b, c) :: r, (a', b', c') :: r', h => by
  simp only[Lan,Zbd,Zb8]at h;rw[aL.beq0_eq h.1.1.1,h.1.1.2,h.1.2,Pa9 h.2]
theorem Pth.beq0_eq {p q:Pth}(h:p.beq0 q=true):p=q:=by
 cases p<;>cases q<;>simp only[Pth.beq0]at h<;>first|rfl|cases h|skip
 ·rw[Pa9 h]
 ·simp only[Zbd,Zb8]at h
  rw[h.1,aL.beq0_eq h.2]
mutual
theorem aR.beq0_eq:∀ {a b:aR},a.beq0 b=true->a=b
 |.dead,b,h=>by cases b<;>first | rfl | (simp[aR.beq0]at h)
 | .sc x, b, h => by
  cases b<;>simp only[aR.beq0]at h<;>first|cases h|skip
  rw[aL.beq0_eq h]
 | .su g x, b, h => by
  cases b<;>simp only[aR.beq0]at h<;>first|cases h|skip
  rename_i g' x';simp only[Zbd,beq_iff_eq]at h;obtain⟨y,u⟩:=g;obtain⟨y',u'⟩:=g';have h1:=aL.beq0_eq h.1.1;have h2:u=u':=h.1.2;dsimp only at h1;rw[h1,h2,aL.beq0_eq h.2]
 | .ex r, b, h => by
  cases b<;>simp only[aR.beq0]at h<;>first|cases h|skip
  simp only[Zb8]at h;rw[h]
 | .sn d p e x, b, h => by
  cases b<;>simp only[aR.beq0]at h<;>first|cases h|skip
  simp only[Zbd,beq_iff_eq]at h;rw[yY h.1.1.1,Pth.beq0_eq h.1.1.2,h.1.2,aL.beq0_eq h.2]
 | .px c o, b, h => by
  cases b<;>simp only[aR.beq0]at h<;>first|cases h|skip
  simp only[Zbd,Zb8]at h;rw[h.1,h.2]
 | .pe l s i o, b, h => by
  cases b<;>simp only[aR.beq0]at h<;>first|cases h|skip
  simp only[Zbd,Zb8]at h;rw[aR.beq0_eq h.1.1.1,h.1.1.2,aL.beq0_eq h.1.2,h.2]
 | .rp d s x, b, h => by
  cases b<;>simp only[aR.beq0]at h<;>first|cases h|skip
  simp only[Zbd,Zb8]at h;rw[yY h.1.1,h.1.2,aL.beq0_eq h.2]
 |.pn,b,h=>by cases b<;>first | rfl | (simp[aR.beq0]at h)
 | .clo f l, b, h => by
  cases b<;>simp only[aR.beq0]at h<;>first|cases h|skip
  simp only[Zbd,Zb8]at h;rw[h.1,Cam h.2]
theorem Cam:∀ {a b:List aR},rZ a b=true->a=b
 |[],b,h=>by cases b<;>first | rfl | (simp[rZ]at h)
 | a :: r, b, h => by
  cases b<;>simp only[rZ]at h<;>first|cases h|skip
  simp only[Zbd]at h;rw[aR.beq0_eq h.1,Cam h.2]
end
theorem wR {a b:aR}(h:yS a b=true){v:Value}(hb:aB σ ρ G w b v):aB σ ρ G w a v:=by
 unfold yS at h;split at h
 ·simp only[aB]
  exact hb.one h
 ·rename_i d x
  split at h
  ·rename_i d' p nie x'
   simp only[Zbd]at h;obtain rfl:=yY h.1;obtain rfl:=aL.beq0_eq h.2;simp only[aB]at hb ⊢;exact⟨hb.1,fun hv=>⟨(hb.2 hv).1,(fun e=>absurd e (by decide)),trivial⟩⟩
  ·cases h
 ·rw[aR.beq0_eq h];exact hb
theorem Caj:∀ {a b:List aR},eH a b=true->∀ {vs:List Value},aG σ ρ G w b vs->aG σ ρ G w a vs
 |[],[],_,vs,hb=>hb
 |[],_::_,h,vs,hb=>by simp[eH]at h
 |_::_,[],h,vs,hb=>by simp[eH]at h
 | a :: r, b :: s, h, vs, hb => by
  simp only[eH,Zbd]at h;simp only[aG]at hb ⊢;obtain⟨u,us,e,h1,h2⟩:=hb;exact⟨u,us,e,wR h.1 h1,Caj h.2 h2⟩
theorem Cak:∀ {a b:List aR},eH a b=true->a.length=b.length
 |[],[],_=>rfl
 |[],_::_,h=>by simp[eH]at h
 |_::_,[],h=>by simp[eH]at h
 | a :: r, b :: s, h => by
  simp only[eH,Zbd]at h;simp[Cak h.2]
theorem Cal:∀ {a b:List aR},eH a b=true->∀ {j:Nat} {l:aR},a[j]?=some l->∃ m,b[j]?=some m/\yS l m=true
 |[],[],_,j,l,hj=>by simp at hj
 |[],_::_,h,_,_,_=>by simp[eH]at h
 |_::_,[],h,_,_,_=>by simp[eH]at h
 | a :: r, b :: s, h, j, l, hj => by
  simp only[eH,Zbd]at h
  cases j with
  | zero =>
   simp only[Zbl,Option.some.injEq]at hj;subst hj;exact⟨b,rfl,h.1⟩
  |succ j=>exact Cal h.2 (by simpa using hj)
theorem Cai:∀ {ls:List aR} {j:Nat} {l:aR},ls[j]?=some l->(iF n xs b9 ee ls)[j]?=some (l.sub n xs b9 ee)
 |[],j,l,h=>by simp at h
 | m :: ls, 0, l, h => by
  simp only[Zbl,Option.some.injEq]at h;subst h;rfl
 | m :: ls, j + 1, l, h => by
  simp only[iF,List.getElem?_cons_succ]at h ⊢;exact Cai h
theorem Cah:∀ {ls:List aR},(iF n xs b9 ee ls).length=ls.length
 |[]=>rfl
 |m::ls=>by simp[iF,Cah (ls:=ls)]
theorem Faf:∀ {ls:List aR} {j:Nat} {l:aR},nM τ eK ls=true->ls[j]?=some l->l.wf τ eK=true
 |[],j,l,_,h=>by simp at h
 | m :: ls, 0, l, hs, h => by
  simp only[nM,Zbd]at hs;simp only[Zbl,Option.some.injEq]at h;rw[<- h];exact hs.1
 | m :: ls, j + 1, l, hs, h => by
  simp only[nM,Zbd]at hs;exact Faf hs.2 (by simpa using h)
end
theorem Aay {s:St}{k:Nat}{c:aS}(h:s.get k=some c):(∃ t,k=kT t/\t<s.nt)\/(∃ b,k=kB b/\b<s.nb)\/(∃ r,k=kR r/\r<s.nr):=by
 unfold St.get at h
 cases hk:vJ s.nt s.nb s.nr k with
 |false=>rw[hk]at h;cases h
 | true =>
  unfold vJ at hk
  cases b0:Nat.beq (k % 3) 0 with
  | true =>
   rw[b0,cond_true,Ach]at hk;simp only[Zb8]at b0;exact .inl ⟨k / 3,by unfold kT;omega,hk⟩
  | false =>
   rw[b0,cond_false]at hk;have n0:k % 3≠0:=fun e=>by rw[e]at b0;cases b0
   cases b1:Nat.beq (k % 3) 1 with
   | true =>
    rw[b1,cond_true,Ach]at hk;simp only[Zb8]at b1;exact .inr (.inl ⟨k / 3,by unfold kB;omega,hk⟩)
   | false =>
    rw[b1,cond_false,Ach]at hk;have n1:k % 3≠1:=fun e=>by rw[e]at b1;cases b1
    exact .inr (.inr ⟨k / 3,by unfold kR;omega,hk⟩)
theorem uD {n:Nat}{xs:List aL}{b9 ee:Nat}{τ s:St}:∀ {ks:List Nat},Ca0 n xs b9 ee τ s ks=true->∀ k∈ks,bZ n xs b9 ee (τ.get k) (s.get k)=true
 |[],_,k,hk=>by simp at hk
 | k' :: ks, h, k, hk => by
  simp only[Ca0,Zbd]at h
  rcases List.mem_cons.1 hk with rfl|hk
  ·exact h.1
  ·exact uD h.2 k hk
theorem Ca1 {n:Nat}{xs:List aL}{b9 ee:Nat}{τ s:St}:∀ {ks:List Nat},Ca2 n xs b9 ee τ s ks=true->∀ r∈ks,bZ n xs b9 ee (τ.get (kR r)) (s.get (kR (Uas b9 ee r)))=true
 |[],_,k,hk=>by simp at hk
 | k' :: ks, h, k, hk => by
  simp only[Ca2,Zbd]at h
  rcases List.mem_cons.1 hk with rfl|hk
  ·exact h.1
  ·exact Ca1 h.2 k hk
theorem Dav {τ:St}{eK:Nat}:∀ {ks:List Nat},Ga9 τ eK ks=true->∀ k∈ks,sN τ eK k (τ.get k)=true
 |[],_,k,hk=>by simp at hk
 | k' :: ks, h, k, hk => by
  simp only[Ga9,Zbd]at h
  rcases List.mem_cons.1 hk with rfl|hk
  ·exact h.1
  ·exact Dav h.2 k hk
theorem Lav {τ:St}:∀ {ks:List Nat},Vab τ ks=true->∀ k∈ks,τ.get k=none
 |[],_,k,hk=>by simp at hk
 | k' :: ks, h, k, hk => by
  simp only[Vab,Zbd,Option.isNone_iff_eq_none]at h
  rcases List.mem_cons.1 hk with rfl|hk
  ·exact h.1
  ·exact Lav h.2 k hk
structure Aag (E:Env) (s0:St) (b9 len:Nat) (τ:St):Prop where
 nv:τ.nv=s0.nv+len
 nt1:E.ntmps<=τ.nt
 nt2:τ.nt<=E.ntmps+E.ngh
 nr:τ.nr=b9+len
 le:s0.nr<=b9
 none:∀ r,s0.nr<=r->r<b9->τ.get (kR r)=none
 wf:∀ k c,τ.get k=some c->sN τ s0.nr k (some c)=true
theorem Aak {E:Env}{s0:St}{b9 len:Nat}{τ:St}(h:Ea3 E s0 b9 len τ=true):Aag E s0 b9 len τ:=by
 simp only[Ea3,Zbd,Zb8,Acr]at h;obtain⟨⟨⟨⟨⟨⟨h1,h2⟩,h3⟩,h4⟩,h5⟩,h6⟩,h7⟩:=h
 have mC:∀ r,s0.nr<=r->r<b9->τ.get (kR r)=Option.none:=fun r ha hb =>
  Lav h6 _ (List.mem_map.2 ⟨r,mem_range.2 ⟨ha,by omega⟩,rfl⟩)
 refine⟨h1,h2,h3,h4,h5,mC,fun k c hk=>?_⟩
 have:k∈(range 0 τ.nt).map kT++(range 0 τ.nb).map kB++((range 0 s0.nr++range b9 len).map kR):=by
  rcases Aay hk with ⟨t,rfl,ht⟩|⟨b,rfl,hb⟩|⟨r,rfl,hr⟩
  ·exact Zbe _ (Zbe _ (List.mem_map.2 ⟨t,mem_range.2 ⟨by omega,by omega⟩,rfl⟩))
  ·exact Zbe _ (Zbh _ (List.mem_map.2 ⟨b,mem_range.2 ⟨by omega,by omega⟩,rfl⟩))
  ·refine Zbh _ (List.mem_map.2 ⟨r,?_,rfl⟩)
   rcases Zbz r s0.nr with h8|h8
   ·exact Zbe _ (mem_range.2 ⟨by omega,by omega⟩)
   ·rcases Zbz r b9 with h9|h9
    ·rw[mC r h8 h9]at hk;cases hk
    ·exact Zbh _ (mem_range.2 ⟨h9,by omega⟩)
 have:=Dav h7 k this;rw[hk]at this;exact this
theorem uK {τ:St}{eK k:Nat}{c:aS}(h:sN τ eK k (some c)=true):bY τ.nv c=true:=by
 simp only[sN,Zbd]at h;exact h.1
theorem Aag.inScope {E:Env}{s0:St}{b9 len:Nat}{τ:St}(h:Aag E s0 b9 len τ):Aah τ.get τ.nv:=fun k c hk=>uK (h.wf k c hk)
theorem Na9 {n:Nat}{xs:List aL}{b9 ee:Nat}{x:aL}{m v:Nat}{st:RSt}{c:Option aS}(h:bZ n xs b9 ee (some (.root x m v st)) c=true) :
  st=.gone\/∃ x',c=some (.root x' m v st)/\Pab n xs x=x':=by
 cases st with
 |gone=>exact .inl rfl
 | _ =>
  right
  cases c with
  |none=>simp[bZ]at h
  | some c =>
   cases c with
   | root x' m' v' u9 =>
    simp only[bZ,Zbd,Zb8,Ba1,decide_eq_true_eq]at h;exact⟨x',by rw[h.1.1.1,h.1.1.2,h.1.2],aL.beq0_eq h.2⟩
   |_=>simp[bZ]at h
theorem Ran {n:Nat}{xs:List aL}{b9 ee:Nat}{l:aR}{c:Option aS}(h:bZ n xs b9 ee (some (.slot none (.one l))) c=true) :
  ∃ b,c=some (.slot none (.one b))/\yS (l.sub n xs b9 ee) b=true:=by
 cases c with
 |none=>simp[bZ]at h
 | some c =>
  cases c with
  | slot g v =>
   cases g with
   |some g=>simp[bZ]at h
   |none=>cases v<;>first | exact⟨_,rfl,by simpa[bZ] using h⟩ | simp[bZ]at h
  |_=>simp[bZ]at h
theorem Rao {n:Nat}{xs:List aL}{b9 ee:Nat}{l:List aR}{c:Option aS}(h:bZ n xs b9 ee (some (.slot none (.agg l))) c=true) :
  ∃ b,c=some (.slot none (.agg b))/\eH (iF n xs b9 ee l) b=true:=by
 cases c with
 |none=>simp[bZ]at h
 | some c =>
  cases c with
  | slot g v =>
   cases g with
   |some g=>simp[bZ]at h
   |none=>cases v<;>first | exact⟨_,rfl,by simpa[bZ] using h⟩ | simp[bZ]at h
  |_=>simp[bZ]at h
theorem Fay {n:Nat}{xs:List aL}{b9 ee:Nat}{ro:Bool}{l:List aR}{c:Option aS}(h:bZ n xs b9 ee (some (.box ro l)) c=true) :
  ∃ b,c=some (.box ro b)/\eH (iF n xs b9 ee l) b=true:=by
 cases c with
 |none=>simp[bZ]at h
 | some c =>
  cases c with
  | box lv b =>
   simp only[bZ,Zbd,beq_iff_eq]at h;exact⟨b,by rw[h.1],h.2⟩
  |_=>simp[bZ]at h
theorem Ibg (t:Nat):kT t % 3=0:=by unfold kT;omega
theorem Qan (t:Nat):kB t % 3=1:=by unfold kB;omega
theorem Qam (t:Nat):kR t % 3=2:=by unfold kR;omega
theorem Nao {s:St}{k:Nat}{c:aS}(h:s.get k=some c)(hm:Nat.beq (k % 3) 0=true):∃ t,k=kT t/\t<s.nt:=by
 rw[Zb8]at hm
 rcases Aay h with h|⟨b,rfl,hb⟩|⟨r,rfl,hr⟩
 ·exact h
 ·rw[Qan]at hm;omega
 ·rw[Qam]at hm;omega
theorem Jbw {s:St}{k:Nat}{c:aS}(h:s.get k=some c)(hm:Nat.beq (k % 3) 1=true):∃ t,k=kB t/\t<s.nb:=by
 rw[Zb8]at hm
 rcases Aay h with ⟨b,rfl,hb⟩|h|⟨r,rfl,hr⟩
 ·rw[Ibg]at hm;omega
 ·exact h
 ·rw[Qam]at hm;omega
theorem Gba {s:St}{k:Nat}{c:aS}(h:s.get k=some c)(hm:Nat.beq (k % 3) 2=true):∃ t,k=kR t/\t<s.nr:=by
 rw[Zb8]at hm
 rcases Aay h with ⟨b,rfl,hb⟩|⟨r,rfl,hr⟩|h
 ·rw[Ibg]at hm;omega
 ·rw[Qan]at hm;omega
 ·exact h
theorem R.fit {E:Env}{F:bH}{τ s s0:St}{ρ0 e:List D}{a:Act}{w:World}{G:Gh}{xs:List aL}{b9 ee len:Nat}
  (hR:R E.ntmps F s.get (ρ0++e) a w G) (hn:ρ0.length=s0.nv) (ny:xs.length=len) (lB:Aag E s0 b9 len τ)
  (fv:nE E s0.nv xs s0.nr b9 ee len τ s=true) (hle:s0.nr<=ee):∃ G',R E.ntmps F τ.get (ρ0++xs.map (·.val (ρ0++e))) a w G':=by
 simp only[nE,Zbd]at fv;obtain⟨hf1,hf2⟩:=fv
 have lp:∀ t,t<τ.nt->bZ s0.nv xs b9 ee (τ.get (kT t)) (s.get (kT t))=true:=fun t ht =>
  uD hf1 _ (Zbe _ (List.mem_map.2 ⟨t,mem_range.2 ⟨by omega,by have:=lB.nt2;omega⟩,rfl⟩))
 have qk:∀ b,b<τ.nb->bZ s0.nv xs b9 ee (τ.get (kB b)) (s.get (kB b))=true:=fun b hb =>
  uD hf1 _ (Zbh _ (List.mem_map.2 ⟨b,mem_range.2 ⟨by omega,by omega⟩,rfl⟩))
 have eW:∀ r,r<s0.nr\/(b9<=r/\r<b9+len)->bZ s0.nv xs b9 ee (τ.get (kR r)) (s.get (kR (Uas b9 ee r)))=true:=fun r hr =>
  Ca1 hf2 r (by
   rcases hr with hr|hr
   ·exact Zbe _ (mem_range.2 ⟨by omega,by omega⟩)
   ·exact Zbh _ (mem_range.2 hr))
 have hrk:∀ r c,τ.get (kR r)=some c->r<s0.nr\/(b9<=r/\r<b9+len):=by
  intro r c hk
  rcases Aay hk with ⟨t,e,_⟩|⟨t,e,_⟩|⟨r',e,hr⟩
  ·exact absurd e.symm iU
  ·exact absurd e.symm fE
  ·obtain rfl:=eZ e
   rw[lB.nr]at hr
   rcases Zbz r s0.nr with h1|h1
   ·exact .inl h1
   ·rcases Zbz r b9 with h2|h2
    ·rw[lB.none r h1 h2]at hk;cases hk
    ·exact .inr ⟨h2,hr⟩
 have om:∀ r x m v st,τ.get (kR r)=some (.root x m v st)->st=.live\/st=.frozen->∃ x',s.get (kR (Uas b9 ee r))=some (.root x' m v st)/\Pab s0.nv xs x=x':=by
  intro r x m v st hk aE;have h1:=eW r (hrk r _ hk);rw[hk]at h1
  rcases Na9 h1 with h2|h2
  ·rw[h2]at aE
   rcases aE with h|h<;>cases h
  ·exact h2
 let ρs:=ρ0++e
 let G':Gh:={ own:=fun b=>vF s0.nr ee b9 (G.own b),hdr:=fun r=>G.hdr (Uas b9 ee r),bx:=G.bx }
 have je:∀ x,bB τ.nv x=true->x.val (ρ0++xs.map (·.val ρs))=(Pab s0.nv xs x).val ρs:=by
  intro x hx
  cases x with
  |c d=>rfl
  | v i =>
   simp only[bB,Ach]at hx;rw[lB.nv]at hx;simp only[Pab]
   cases hb:Acw i s0.nv with
   | true =>
    simp only[Ach]at hb;simp only[cond_true,aL.val,Zbk,ρs];rw[Zbx (by omega),Zbx (by omega)]
   | false =>
    have mj:s0.nv<=i:=by
     rcases Zbz i s0.nv with h|h
     ·rw[<- Ach,hb]at h;cases h
     ·exact h
    simp only[cond_false];have hlt:i-s0.nv<xs.length:=by omega
    rw[Zbk,Zbf hlt,Bcd];simp only[aL.val,Zbk];rw[List.getElem?_append_right (by omega),List.getElem?_map,hn,Zbf hlt];rfl
 have H:Cby τ s.get (ρ0++xs.map (·.val ρs)) ρs G' G τ.nv s0.nv xs b9 ee s0.nr:=by
  refine⟨je,lB.le,hle,fun _=>rfl,fun _=>rfl,rfl,fun r k hr hv=>?_,fun r k m hr hv=>?_⟩
  ·obtain⟨x,m,st,hk,aE⟩:=hv
   obtain⟨x',h1,-⟩:=om r x m k st hk aE;rw[tJ (by have:=lB.le;omega)]at h1;exact⟨x',m,st,h1,aE⟩
  ·obtain⟨x,hk⟩:=hv
   obtain⟨x',h1,-⟩:=om r x m k .live hk (.inl rfl);rw[tJ (by have:=lB.le;omega)]at h1;exact⟨x',h1⟩
 refine⟨G',hR.tmps,hR.defers,fun k c hk=>?_,?_,fun b ls hk hb ho=>?_⟩
 ·have mf:=lB.wf k c hk
  have kc:=uK mf
  cases c with
  | slot g v =>
   cases g with
   |some g=>simp[sN]at mf
   | none =>
    cases v with
    | dead =>
     simp only[sN,Zbd]at mf;obtain⟨t,rfl,ht⟩:=Nao hk mf.2;exact⟨t,rfl,fun _=>trivial⟩
    | one l =>
     simp only[sN,Zbd]at mf;obtain⟨t,rfl,ht⟩:=Nao hk mf.2.1;refine⟨t,rfl,fun _=>?_⟩;have h1:=lp t ht;rw[hk]at h1;obtain⟨b,h2,h3⟩:=Ran h1;have h4:aB s.get ρs G w b _:=hR.slot h2 rfl;simp only[bY,yE,Zbd]at kc;exact aB.fit H l _ kc.2 mf.2.2 (wR h3 h4)
    | agg ls =>
     simp only[sN,Zbd]at mf;obtain⟨t,rfl,ht⟩:=Nao hk mf.2.1;refine⟨t,rfl,fun _=>?_⟩;have h1:=lp t ht;rw[hk]at h1;obtain⟨b,h2,h3⟩:=Rao h1;obtain⟨vs,h4,h5⟩:cB s.get ρs G w (.agg b) _:=hR.slot h2 rfl;simp only[bY,yE,Zbd]at kc;exact⟨vs,h4,aG.fit H ls _ kc.2 mf.2.2 (Caj h3 h5)⟩
    |tup ts=>simp[sN]at mf
  | box ro ls =>
   simp only[sN,Zbd]at mf;obtain⟨b,rfl,hb⟩:=Jbw hk mf.2.1;have h1:=qk b hb;rw[hk]at h1;obtain⟨bs,h2,h3⟩:=Fay h1;obtain⟨h4,h5,h6⟩:=hR.box h2;refine⟨b,rfl,h4,?_,fun j l hj=>?_⟩
   ·show vF _ _ _ _=_
    rw[h5];cases ro<;>rfl
   ·obtain⟨m,h7,h8⟩:=Cal h3 (Cai hj)
    obtain⟨v,h9,cL,ef⟩:=h6 j m h7;simp only[bY]at kc;exact⟨v,h9,cL,aB.fit H l v (nA kc hj) (Faf mf.2.2 hj) (wR h8 ef)⟩
  | root x m bc st =>
   have hm:Nat.beq (k % 3) 2=true:=by
    cases st<;>simp only[sN,Zbd]at mf<;>first|exact mf.2|(exact absurd mf.2 (by decide))
   obtain⟨r,rfl,hr⟩:=Gba hk hm;have u4:=hrk r _ hk;refine⟨r,rfl,by rw[hk];rfl,?_⟩;simp only[bY]at kc;have a4l:r<s0.nr\/b9<=r:=u4.imp id (·.1)
   cases st with
   | live =>
    obtain⟨x',h1,h2⟩:=om r x m bc .live hk (.inl rfl);have h3:=hR.root h1;simp only[bS]at h3 ⊢;rw[je x kc,h2]
    have:=h3.mono (own':=G'.own) (w':=w) (q:=[]) (q':=[]) (r':=r) (fun b hb=>⟨H.frz hb,rfl⟩) [] rfl (fun b t hb=>⟨by
     show vF _ _ _ _=_
     rw[hb];exact Ia5 lB.le hle a4l,rfl⟩)
    simpa using this
   | frozen =>
    obtain⟨x',h1,h2⟩:=om r x m bc .frozen hk (.inr rfl);obtain⟨h3,h4⟩:=hR.root h1;simp only[bS];rw[je x kc,h2];refine⟨h3.mono fun b hb=>⟨H.frz hb,rfl⟩,fun b p hb=>?_⟩;exact h4 b p (Xa6 lB.le hb)
   |gone=>trivial
   |fwd r'=>simp[sN]at mf
 ·refine⟨hR.frame.os,hR.frame.tape,hR.frame.output,hR.frame.size,fun b hb ho=>?_,fun b j hb ho=>?_,fun b hb=>?_⟩
  ·obtain⟨h1,h2⟩:=hR.frame.keep b hb ho
   refine⟨h1,?_⟩;show vF _ _ _ _=_
   rw[h2]
   rcases ho with ho|ho<;>rw[ho]<;>rfl
  ·obtain⟨h1,h2⟩:=hR.frame.boxes b j hb ho
   refine⟨?_,h2⟩;show vF _ _ _ _=_
   rw[h1];rfl
  ·show vF _ _ _ _=_
   rw[hR.frame.fresh b hb];rfl
 ·have h1:=qk b (by
   rcases Aay hk with ⟨t,e,_⟩|⟨t,e,ht⟩|⟨r',e,hr⟩
   ·exact absurd e.symm lT
   ·obtain rfl:=Cas e;exact ht
   ·exact absurd e fE)
  rw[hk]at h1;obtain⟨bs,h2,h3⟩:=Fay h1;have h4:=hR.rng b bs h2 hb ho;rw[h4,<- Cak h3,Cah]
def Za7 (draw:Bool)(s:St)(r:bP):St:={ (s.puts r.upd) with nv:=s.nv+bI r.lets,nb:=s.nb+1,nr:=Ta3 draw s.nr r.upd }
inductive Oap (E:Env) (draw:Bool) (kn:Nat) (ops:List Oper):Nat->List Oper->St->List OpI->St->Prop
 |nil (i:Nat) (s:St):Oap E draw kn ops i [] s [] s
 | cons {i : Nat} {o : Oper} {os : List Oper} {s : St} {g : Option (aL × Bool)} {r : bP} {log : List Nat} {is : List OpI} {s' : St} (mv dt : Bool)
   (h1:(lJ E ops mv dt s.nv s.nb s.nr o).run s.get=some ((g,r),log)) (h2:Fb2 s g r=true)
   (h3:Oap E draw kn ops (i+1) os (Za7 draw s r) is s'):Oap E draw kn ops i (o::os) s (⟨g,r,log,s.nb,s.nr⟩::is) s'
theorem Haj {E:Env}{draw:Bool}{kn:Nat}{ops:List Oper}:∀ {os:List Oper} {i:Nat} {s:St} {acc is:List OpI} {s':St},Ya4 E draw kn ops i os s acc=.inl (is,s') ->
  ∃ js,is=acc.reverse++js/\Oap E draw kn ops i os s js s'
 | [], i, s, acc, is, s', h => by
  simp only[Ya4,Sum.inl.injEq,Prod.mk.injEq]at h;obtain⟨rfl,rfl⟩:=h;exact⟨[],by simp,.nil i s⟩
 | o :: os, i, s, acc, is, s', h => by
  simp only[Ya4]at h;split at h
  ·rename_i g r log bj
   cases n4:Fb2 s g r with
   |false=>rw[n4]at h;simp at h
   | true =>
    rw[n4]at h;simp only[Cca,cond_false]at h;obtain⟨js,h1,h2⟩:=Haj h;exact⟨⟨g,r,log,s.nb,s.nr⟩::js,by rw[h1];simp,.cons _ _ bj n4 h2⟩
  ·cases h
structure Dan (E:Env) (s:St):Prop where
 nt:E.ntmps<=s.nt
 sc:Aah s.get s.nv
def Oao (cf:Nat->List D->Option (List D))(ρ:List D):Nat->List OpI->Prop
 |_,[]=>True
 |nv,a::r=>aN cf ρ a.g nv a.res.lets/\Oao cf ρ (nv+bI a.res.lets) r
def Bad (P:Program)(E:Env)(F:bH)(cf:Nat->List D->Option (List D)):Prop :=
 ∀ (σ:Nat->Option aS) (ρ:List D) (a:Act) (w:World) (G:Gh) (g:Option (aL×Bool)) (o:Oper) (Q:Exit->Act->World->Prop) (mv dt:Bool) (nv nb nr:Nat) (res:bP) (f:Operand) (args:Array Operand) (argTypes:Array TypeId),
  R E.ntmps F σ ρ a w G->fG E.ntmps o->Dao σ nb nr->o.op=.call { callee:=.value f,args,argTypes } ->
  (qA E mv dt nv nb nr g o).eval σ=some res->res.upd.all (fun x=>zH E.ntmps nb nr x.1)=true->aN cf ρ g nv res.lets->gV P E F σ ρ a w g o Q res.upd
section
variable {P:Program} {E:Env} {F:bH} {cf:Nat->List D->Option (List D)} {draw:Bool}
theorem Lau {s:St}{g:Option (aL×Bool)}{r:bP}(h:Fb2 s g r=true) :
  oW s.nv g=true/\eP s.nv r.lets=true/\r.upd.all (fun x=>bY (s.nv+bI r.lets) x.2)=true:=by
 simp only[Fb2,Zbd]at h;exact⟨h.1.1.2,h.1.2,h.2⟩
theorem Nag {ops:List Oper}{mv dt:Bool}{s:St}{o:Oper}{g:Option (aL×Bool)}{r:bP}{log:List Nat}(hi:E.ntmps<=s.nt)
  (h1:(lJ E ops mv dt s.nv s.nb s.nr o).run s.get=some ((g,r),log)) (h2:Fb2 s g r=true):(Za7 draw s r).get=upds s.get r.upd:=by
 funext k;exact Fb1 h2 hi (jW (RdM.run_eval h1)).2.2.2 draw _ k
theorem Dan.next {ops:List Oper}{mv dt:Bool}{s:St}{o:Oper}{g:Option (aL×Bool)}{r:bP}{log:List Nat}(hi:Dan E s)
  (h1:(lJ E ops mv dt s.nv s.nb s.nr o).run s.get=some ((g,r),log)) (h2:Fb2 s g r=true):Dan E (Za7 draw s r):=by
 refine⟨?_,?_⟩
 ·show E.ntmps<=(s.puts r.upd).nt
  rw[(jA r.upd s).2.2.2];exact hi.nt
 ·rw[Nag hi.nt h1 h2]
  exact hi.sc.upds (Ccv ..) (Lau h2).2.2
theorem Wax {kn:Nat}{ops:List Oper}{i:Nat}{os:List Oper}{s s':St}{is:List OpI}(hc:Oap E draw kn ops i os s is s') :
  ∀ {s'':St} {ρ:List D} {o:Out St},s''.nv=s'.nv->ρ.length=s.nv->Ec cf (Ham (.leaf .fall [] s'') is) ρ=some o ->
  o.kind=.fall/\o.ext=s''/\o.env.length=s'.nv/\(∃ ds,o.env=ρ++ds)/\∀ ext,Oao cf (o.env++ext) s.nv is:=by
 induction hc with
 | nil i s =>
  intro s'' ρ o hv hl h;simp only[Ham,fU,Option.some.injEq]at h;subst h;exact⟨rfl,rfl,hl,⟨[],by simp⟩,fun _=>trivial⟩
 | cons mv dt h1 h2 h3 ih =>
  rename_i i o' os s g r log is s';intro s'' ρ o hv hl h;simp only[Ham]at h;obtain⟨hg,hs,-⟩:=Lau h2;obtain⟨ds,h4,h5,h6⟩:=vQ (by rw[hl];exact hg) (by rw[hl];exact hs) h;obtain⟨h7,h8,h9,⟨es,cL⟩,ef⟩:=ih hv (by rw[Zbi,h4,hl];rfl) h5;refine⟨h7,h8,h9,⟨ds++es,by rw[cL,Zbm]⟩,fun ext=>⟨?_,ef ext⟩⟩;have:=h6 (es++ext);rw[hl]at this;rw[cL];simpa[Zbm] using this
theorem Cbj {kn:Nat}{ops:List Oper}{i:Nat}{os:List Oper}{s s':St}{is:List OpI}(hc:Oap E draw kn ops i os s is s')(hi:Dan E s):Dan E s':=by
 induction hc with
 |nil i s=>exact hi
 |cons mv dt h1 h2 h3 ih=>exact ih (hi.next h1 h2)
theorem Dan.trim {lo:Nat}{d:Bool}{s:St}(h:Dan E s):Dan E (trimS d lo s) :=
 ⟨by rw[yB.2.2];exact h.nt,by rw[Oay,yB.1];exact h.sc⟩
theorem Cbk {kn:Nat}{ops:List Oper}{i:Nat}{os:List Oper}{s s':St}{is:List OpI}(hc:Oap E draw kn ops i os s is s'):∀ o∈os,fG E.ntmps o:=by
 induction hc with
 |nil i s=>simp
 | cons mv dt h1 h2 h3 ih =>
  intro o ho
  rcases List.mem_cons.1 ho with rfl|ho
  ·exact (jW (RdM.run_eval h1)).2.1
  ·exact ih o ho
theorem Sbd (hti:vN P E.ti)(cI:Bad P E F cf){ops:Array Oper}(oX:∀ o∈ops.toList,fG E.ntmps o){mv dt:Bool}{s:St}{o:Oper}{g:Option (aL×Bool)}{r:bP}{ρ:List D}{a:Act}{w:World}{G:Gh}{Q:Exit->Act->World->Prop}
  {σ:Nat->Option aS} (hf:Dao σ s.nb s.nr)
  (hR:R E.ntmps F σ ρ a w G) (h1:(lJ E ops.toList mv dt s.nv s.nb s.nr o).eval σ=some (g,r)) (aE:aN cf ρ g s.nv r.lets):Lbb P E F σ ρ ops o Q r.upd a w:=by
 refine Bap hR hti oX hf h1 aE fun f args argTypes ho=>?_
 obtain⟨h2,h3,h4,h5⟩:=jW h1;rw[Ka2 ho]at h4;exact cI σ ρ a w G g o Q mv dt s.nv s.nb s.nr r f args argTypes hR h3 hf ho h4 h5 aE
theorem Cbi (hti:vN P E.ti)(cI:Bad P E F cf){kn:Nat}{ops:Array Oper}(oX:∀ o∈ops.toList,fG E.ntmps o){Q:Exit->Act->World->Prop}{i:Nat}{os:List Oper}{s s':St}{is:List OpI}(hc:Oap E draw kn ops.toList i os s is s') :
  ∀ {ρ:List D} {a:Act} {w:World} {G:Gh},ops.toList.drop i=os->R E.ntmps F s.get ρ a w G->Dan E s->Oao cf ρ s.nv is ->
  (∀ a' w' G',R E.ntmps F s'.get ρ a' w' G'->Q .normal a' w')->wpOps P ops Q (List.range' i os.length) a w:=by
 induction hc with
 | nil i s =>
  intro ρ a w G hdr hR hi aE hQ;exact hQ a w G hR
 | cons mv dt h1 h2 h3 ih =>
  rename_i i o os s g r log is s';intro ρ a w G hdr hR hi aE hQ
  have np:ops[i]?=some o:=by
   rw[<- Acz];have:(ops.toList.drop i)[0]?=some o:=by rw[hdr];rfl
   rwa[List.getElem?_drop,Zb9]at this
  rw[Zbs,List.range'_succ,wpOps_cons];unfold wpOp;rw[np];have fb:=Sbd (Q:=Q) hti cI oX Qa2 hR (RdM.run_eval h1) aE.1
  have wx:∀ a w,Nx E.ntmps F s.get ρ r.upd a w->wpOps P ops Q (List.range' (i+1) os.length) a w:=by
   intro a' w' ⟨G',iw⟩;rw[<- Nag hi.nt h1 h2]at iw;exact ih (by rw[<- List.drop_drop,hdr];rfl) iw (hi.next h1 h2) aE.2 hQ
  unfold Lbb at fb;dsimp only;split
  ·rename_i hw
   rw[if_pos hw]at fb;exact .inl (Oper.wp_mono wx fb)
  ·rename_i hw
   rw[if_neg hw]at fb;exact wx _ _ fb
end
theorem oK {a b:List Nat}(h:meets a b=false){k:Nat}(ha:k∈a):k∉b:=by
 intro hb
 have:meets a b=true:=by
  unfold meets;rw[List.any_eq_true];exact⟨k,ha,mO.2 hb⟩
 rw[h]at this;cases this
theorem Hab {acc:List Nat}:∀ {es:List Edge} {m b:Nat},Bc2 (Aai acc es m) b=true->Bc2 m b=true\/∃ e∈es,Region.binds .any e=true/\(b=e.on\/Bc2 (acc.getD e.on 0) b=true)
 |[],m,b,h=>.inl h
 | e :: es, m, b, h => by
  have h':Bc2 (Aai acc es (bif Region.binds .any e then (m ||| 2 ^ e.on) ||| acc.getD e.on 0 else m)) b=true:=h
  rcases Hab (es:=es) h' with h1|⟨e',he',h1⟩
  ·cases hb:Region.binds .any e with
   |false=>rw[hb,cond_false]at h1;exact .inl h1
   | true =>
    rw[hb,cond_true]at h1;simp only[Nat.testBit_or,Acp,Nat.testBit_two_pow,decide_eq_true_eq]at h1
    rcases h1 with (h1|h1)|h1
    ·exact .inl h1
    ·exact .inr ⟨e,Zbu,hb,.inl h1.symm⟩
    ·exact .inr ⟨e,Zbu,hb,.inr h1⟩
  ·exact .inr ⟨e',Zbn _ he',h1⟩
theorem Haa:∀ {os:List Oper} {acc:List Nat} {i w:Nat},acc[i]?=some w->(waits os acc)[i]?=some w
 |[],_,_,_,h=>h
 | o :: os, acc, i, w, h => by
  refine Haa (os:=os) ?_;rw[Zbx (List.getElem?_eq_some_iff.1 h).1];exact h
theorem Oav:∀ {os:List Oper} {acc:List Nat} {p w:Nat} {o:Oper},os[p]?=some o->(waits os acc)[acc.length+p]?=some w->∀ b,Bc2 w b=true ->
  ∃ e∈o.after.toList,Region.binds .any e=true/\(b=e.on\/∃ w',(waits os acc)[e.on]?=some w'/\Bc2 w' b=true)
 |[],acc,p,w,o,ho,_,_,_=>by simp at ho
 | o' :: os, acc, 0, w, o, ho, hw, b, hb => by
  simp only[Zbl,Option.some.injEq]at ho;subst ho;have h1:(acc++[Aai acc o'.after.toList 0])[acc.length]?=some (Aai acc o'.after.toList 0):=by simp
  have h2:=Haa (os:=os) h1;simp only[waits,Zb9]at hw;rw[h2]at hw;obtain rfl:=Option.some.inj hw
  rcases Hab hb with h3|⟨e,he,h4,h5⟩
  ·simp at h3
  ·refine⟨e,he,h4,h5.imp id fun h6=>?_⟩
   rw[Zbk]at h6
   cases ha:acc[e.on]? with
   |none=>rw[ha]at h6;simp at h6
   | some w' =>
    rw[ha,Bcd]at h6;have hlt:=(List.getElem?_eq_some_iff.1 ha).1;exact⟨w',Haa (os:=os) (by rw[Zbx hlt];exact ha),h6⟩
 | o' :: os, acc, p + 1, w, o, ho, hw, b, hb => by
  have:=Oav (os:=os) (acc:=acc++[Aai acc o'.after.toList 0]) (p:=p) (w:=w) (o:=o) (by simpa using ho) (by
   simp only[Zbi,List.length_singleton];simp only[waits]at hw;rw[<- hw];congr 1
   omega) b hb
  exact this
theorem Fan {a:OpI}{i:Nat}:∀ {bs:List OpI} {ws:List Nat},Cax a i bs ws=true->∀ {q:Nat} {b:OpI},bs[q]?=some b->∃ w,ws[q]?=some w/\(Bc2 w i=true\/qP a b=true)
 |[],_,_,q,b,h=>by simp at h
 |_::_,[],h,_,_,_=>by simp[Cax]at h
 | b :: bs, w :: ws, h, q, b', hq => by
  simp only[Cax,Zbd,Acp]at h
  cases q with
  | zero =>
   simp only[Zbl,Option.some.injEq]at hq;subst hq;exact⟨w,rfl,h.1⟩
  |succ q=>exact Fan h.2 (by simpa using hq)
theorem Caa:∀ {is:List OpI} {ws:List Nat} {i:Nat},wK is ws i=true->∀ {p q:Nat} {a b:OpI},p<q->is[p]?=some a->is[q]?=some b ->
  ∃ w,ws[q]?=some w/\(Bc2 w (i+p)=true\/qP a b=true)
 |[],_,_,_,p,q,a,b,_,hp,_=>by simp at hp
 | x :: is, ws, i, h, p, q, a, b, hpq, hp, hq => by
  simp only[wK,Zbd]at h
  cases q with
  |zero=>omega
  | succ q =>
   cases p with
   | zero =>
    simp only[Zbl,Option.some.injEq]at hp;subst hp;obtain⟨w,h1,h2⟩:=Fan h.1 (q:=q) (by simpa using hq);exact⟨w,by rw[List.getElem?_tail]at h1;exact h1,h2⟩
   | succ p =>
    obtain⟨w,h1,h2⟩:=Caa h.2 (p:=p) (q:=q) (by omega) (by simpa using hp) (by simpa using hq);exact⟨w,by rw[List.getElem?_tail]at h1;exact h1,by rw[show i+(p+1)=i+1+p by omega];exact h2⟩
theorem Fav:∀ {os:List Oper} {i:Nat},Ca9 os i=true->∀ {p:Nat} {o:Oper},os[p]?=some o->∀ e∈o.after.toList,Region.binds .any e=true->e.on<i+p
 |[],_,_,p,o,h,_,_,_=>by simp at h
 | x :: os, i, h, p, o, hp, e, he, hb => by
  simp only[Ca9,Zbd,Zb6,Acp,Zb3,Ach]at h
  cases p with
  | zero =>
   simp only[Zbl,Option.some.injEq]at hp;subst hp
   rcases h.1 e he with h1|h1
   ·rw[hb]at h1;cases h1
   ·omega
  | succ p =>
   have:=Fav h.2 (p:=p) (by simpa using hp) e he hb;omega
def sig (D:Nat->Bool):Nat->List OpI->(Nat->Option aS)->Nat->Option aS
 |_,[],σ=>σ
 |i,a::r,σ=>sig D (i+1) r (bif D i then upds σ a.res.upd else σ)
def Wr (a:OpI)(k:Nat):Prop:=∃ c,(k,c)∈a.res.upd
theorem Maq {a:OpI}{σ:Nat->Option aS}{k:Nat}(h:¬ Wr a k):upds σ a.res.upd k=σ k:=eU _ _ _ fun c hc=>h ⟨c,hc⟩
theorem Bas {D D':Nat->Bool}{k:Nat}:∀ {is:List OpI} {i:Nat} {σ ej:Nat->Option aS},(∀ p a,is[p]?=some a->Wr a k->D (i+p)=D' (i+p))->σ k=ej k->sig D i is σ k=sig D' i is ej k
 |[],i,σ,ej,_,h=>h
 | a :: r, i, σ, ej, hd, h => by
  simp only[sig];refine Bas (fun p b hb hw=>?_) ?_
  ·have:=hd (p+1) b (by simpa using hb) hw
   rw[show i+(p+1)=i+1+p by omega]at this;exact this
  ·by_cases hw:Wr a k
   ·have:=hd 0 a rfl hw
    rw[Zb9]at this;rw[this]
    cases D' i with
    |false=>exact h
    |true=>exact rG _ _ _ _ h
   ·have e:∀ (x:Bool) (τ:Nat->Option aS),(bif x then upds τ a.res.upd else τ) k=τ k:=by
     intro x τ
     cases x with
     |false=>rfl
     |true=>exact Maq hw
    rw[e,e];exact h
theorem vX {D:Nat->Bool}{k:Nat}:∀ {is:List OpI} {i:Nat} {σ:Nat->Option aS},(∀ p a,is[p]?=some a->Wr a k->D (i+p)=false)->sig D i is σ k=σ k
 |[],i,σ,_=>rfl
 | a :: r, i, σ, hd => by
  simp only[sig]
  rw[vX fun p b hb hw=>by
   have:=hd (p+1) b (by simpa using hb) hw;rw[show i+(p+1)=i+1+p by omega]at this;exact this]
  by_cases hw:Wr a k
  ·have:=hd 0 a rfl hw
   rw[Zb9]at this;rw[this];rfl
  ·cases D i with
   |false=>rfl
   |true=>exact Maq hw
theorem Uay {D:Nat->Bool}{k:Nat}:∀ {is:List OpI} {i p:Nat} {a:OpI} {σ τ:Nat->Option aS},is[p]?=some a->D (i+p)=true->Wr a k->(∀ q b,p<q->is[q]?=some b->Wr b k->D (i+q)=false) ->
  sig D i is σ k=upds τ a.res.upd k
 |[],i,p,a,σ,τ,hp,_,_,_=>by simp at hp
 | x :: r, i, 0, a, σ, τ, hp, hD, hw, hq => by
  simp only[Zbl,Option.some.injEq]at hp;subst hp;rw[Zb9]at hD;simp only[sig]
  rw[vX fun q b hb zg=>by
   have:=hq (q+1) b (by omega) (by simpa using hb) zg;rw[show i+(q+1)=i+1+q by omega]at this;exact this,hD,cond_true]
  exact Gaj _ _ _ _ hw
 | x :: r, i, p + 1, a, σ, τ, hp, hD, hw, hq => by
  simp only[sig];refine Uay (p:=p) (by simpa using hp) (by rw[show i+1+p=i+(p+1) by omega];exact hD) hw fun q b hpq hb zg=>?_
  have:=hq (q+1) b (by omega) (by simpa using hb) zg;rw[show i+(q+1)=i+1+q by omega]at this;exact this
section
variable {P:Program} {E:Env} {F:bH} {cf:Nat->List D->Option (List D)}
theorem Uax {D:Nat->Bool}{is:List OpI}{i:Nat}{σ:Nat->Option aS}(h:∀ q,i<=q->D q=false):sig D i is σ=σ :=
 funext fun k=>vX fun p a _ _=>h _ (Ccv ..)
structure At (E:Env) (ops:List Oper) (cf:Nat->List D->Option (List D)) (ρ:List D) (σ0:Nat->Option aS) (i0:Nat) (is:List OpI) (p:Nat) (o:Oper) (a:OpI) (s0:St):Prop where
 run:∃ mv dt nv,(lJ E ops mv dt nv a.nb a.nr o).run (sig (fun q=>decide (q<i0+p)) i0 is σ0)=some ((a.g,a.res),a.log)/\aN cf ρ a.g nv a.res.lets
 nb:a.nb=s0.nb+p
 nr:a.nr=s0.nr+bW*p
theorem Hbh {kn:Nat}{ops:List Oper}{i:Nat}{os:List Oper}{s s':St}{is:List OpI}(hc:Oap E true kn ops i os s is s') :
  ∀ {ρ:List D},Dan E s->Oao cf ρ s.nv is->is.length=os.length/\s'.get=sig (fun _=>true) i is s.get/\∀ p o,os[p]?=some o->∃ a,is[p]?=some a/\At E ops cf ρ s.get i is p o a s:=by
 induction hc with
 |nil i s=>exact fun _ _=>⟨rfl,rfl,by simp⟩
 | cons mv dt h1 h2 h3 ih =>
  rename_i i o os s g r log is s';intro ρ hi aE;obtain⟨h4,h5,h6⟩:=ih (hi.next h1 h2) aE.2;have hg:=Nag (draw:=true) hi.nt h1 h2;refine⟨by simp[h4],?_,fun p o' hp=>?_⟩
  ·rw[h5,hg];rfl
  ·cases p with
   | zero =>
    simp only[Zbl,Option.some.injEq]at hp;subst hp;refine⟨_,rfl,⟨mv,dt,s.nv,?_,aE.1⟩,rfl,rfl⟩;rw[Zb9,Uax fun q hq=>by simpa using hq];exact h1
   | succ p =>
    obtain⟨a,h7,h8⟩:=h6 p o' (by simpa using hp);refine⟨a,by simpa using h7,?_,?_,?_⟩
    ·obtain⟨mv',a3g,nv',h9,cL⟩:=h8.run
     refine⟨mv',a3g,nv',?_,cL⟩;simp only[sig];have:(decide (i<i+(p+1)):Bool)=true:=by simp
     rw[this,cond_true,<- hg,show i+(p+1)=i+1+p by omega];exact h9
    ·rw[h8.nb];show s.nb+1+p=_;omega
    ·rw[h8.nr]
     show s.nr+bW+bW*p=_
     rw[Nat.mul_succ];omega
theorem Vao {a:OpI}{n nb nr k:Nat}(h:a.res.upd.all (fun x=>zH n nb nr x.1)=true)(hw:Wr a k):zH n nb nr k=true:=by
 obtain⟨c,hc⟩:=hw;rw[Zb6]at h;exact h _ hc
theorem Abs {n nb nr b:Nat}(h:zH n nb nr (kB b)=true):b<=nb:=by
 unfold zH at h;rw[Qan]at h;have:kB b / 3=b:=by unfold kB;omega
 rw[this]at h;simpa using h
theorem Ead {n nb nr r:Nat}(h:zH n nb nr (kR r)=true):r<nr+bW:=by
 unfold zH at h;rw[Qam]at h;have:kR r / 3=r:=by unfold kR;omega
 rw[this]at h;simpa using h
structure Ibv (E:Env) (ops:Array Oper) (cf:Nat->List D->Option (List D)) (ρ:List D) (s:St) (is:List OpI):Prop where
 len:is.length=ops.size
 at_:∀ p o,ops.toList[p]?=some o->∃ a,is[p]?=some a/\At E ops.toList cf ρ s.get 0 is p o a s
 free:∀ p q a b,p<q->is[p]?=some a->is[q]?=some b->(∃ w,(waits ops.toList [])[q]?=some w/\Bc2 w p=true)\/qP a b=true
 low:∀ p o,ops.toList[p]?=some o->∀ e∈o.after.toList,Region.binds .any e=true->e.on<p
 dst:∀ o∈ops.toList,fG E.ntmps o
def dn (l:Array Bool)(q:Nat):Bool:=l.getD q false
def Closed (ops:Array Oper)(l:Array Bool):Prop:=∀ q w p,dn l q=true->(waits ops.toList [])[q]?=some w->Bc2 w p=true->dn l p=true
theorem apart_spec {a b:OpI}(h:qP a b=true):(∀ k,Wr a k->k∉b.log)/\(∀ k,Wr a k->¬ Wr b k)/\(∀ k,k∈a.log->¬ Wr b k)/\∀ k,Wr b k->Nax a k=false:=by
 simp only[qP,Zbd,Zb3]at h;obtain⟨⟨⟨h1,h2⟩,h3⟩,h4⟩:=h
 have key:∀ {x:OpI} {k:Nat},Wr x k↔k∈x.res.upd.map (·.1):=by
  intro x k;simp only[List.mem_map];constructor
  ·rintro⟨c,hc⟩;exact⟨_,hc,rfl⟩
  ·rintro⟨⟨k',c⟩,hc,rfl⟩;exact⟨c,hc⟩
 refine⟨fun k hk=>oK h1 (key.1 hk),fun k hk hb=>oK h2 (key.1 hk) (key.1 hb),fun k hk hb=>oK h3 hk (key.1 hb),fun k hk=>?_⟩;rw[List.any_eq_false]at h4;simpa using h4 k (key.1 hk)
theorem Taz:∀ {l:List Bool} {i:Nat},l[i]?=some false->(l.set i true).count false+1=l.count false
 |[],i,h=>by simp at h
 | b :: l, 0, h => by
  simp only[Zbl,Option.some.injEq]at h;subst h;simp
 | b :: l, i + 1, h => by
  have:=Taz (l:=l) (i:=i) (by simpa using h);simp only[List.set_cons_succ,List.count_cons];omega
theorem Lah {ops:Array Oper}{l:Array Bool}{i:Nat}(hl:l.size=ops.size)(h:i∈Region.ready .any ops l) :
  ∃ o,ops[i]?=some o/\l[i]?=some false/\∀ e∈o.after.toList,Region.binds .any e=true->dn l e.on=true:=by
 unfold Region.ready at h;rw[Ccw,Bck]at h;obtain⟨h1,h2⟩:=h;simp only[Zbd,Zb3]at h2;have ho:ops[i]?=some ops[i]:=Acd h1;rw[ho,Acm,Bcd]at h2;refine⟨_,ho,?_,fun e he hb=>?_⟩
 ·have h3:=h2.1
  rw[Ack]at h3;have hlt:i<l.size:=by omega
  rw[Acd hlt,Bcd]at h3;rw[Acd hlt,h3]
 ·have h3:=h2.2
  rw[<- Array.all_toList,Zb6]at h3;have:=h3 e he;rw[hb]at this;simpa[dn] using this
theorem ready_nil {ops:Array Oper}{l:Array Bool}(hl:l.size=ops.size)(zl:∀ p o,ops.toList[p]?=some o->∀ e∈o.after.toList,Region.binds .any e=true->e.on<p)
  (h:Region.ready .any ops l=[]):∀ q,q<ops.size->dn l q=true:=by
 intro q
 induction q using Nat.strongRecOn with
 | _ q ih =>
  intro hq
  cases hd:dn l q with
  |true=>rfl
  | false =>
   exfalso;have ho:ops[q]?=some ops[q]:=Acd hq
   have:q∈Region.ready .any ops l:=by
    unfold Region.ready;rw[Ccw,Bck];refine⟨hq,?_⟩;simp only[Zbd,Zb3];refine⟨?_,?_⟩
    ·have hlt:q<l.size:=by omega
     unfold dn at hd;rw[Ack,Acd hlt,Bcd]at hd ⊢;exact hd
    ·rw[ho,Acm,Bcd,<- Array.all_toList,Zb6]
     intro e he
     cases hb:Region.binds .any e with
     |false=>rfl
     | true =>
      have hlt:=zl q _ (by rw[Acz];exact ho) e he hb;have:=ih e.on hlt (by omega);simpa[dn] using this
   rw[h]at this;simp at this
theorem Va2 {l:Array Bool}{i:Nat}(hi:i<l.size)(q:Nat):dn (l.setIfInBounds i true) q=(decide (q=i)||dn l q):=by
 unfold dn;rw[Ack,Ack,Array.getElem?_setIfInBounds];by_cases h:i=q
 ·subst h
  simp[hi]
 ·rw[if_neg h]
  have:(decide (q=i):Bool)=false:=by simp;exact fun e=>h e.symm
  rw[this,Ccb]
theorem Gbw (hti:vN P E.ti)(cI:Bad P E F cf){ops:Array Oper}{s:St}{is:List OpI}{ρ:List D}(hd:Ibv E ops cf ρ s is){Q:Exit->Act->World->Prop}
  (hQ:∀ a' w' G',R E.ntmps F (sig (fun _=>true) 0 is s.get) ρ a' w' G'->Q .normal a' w') :
  ∀ (fuel:Nat) (l:Array Bool) (a:Act) (w:World) (G:Gh),l.size=ops.size->l.toList.count false<=fuel->Closed ops l->R E.ntmps F (sig (dn l) 0 is s.get) ρ a w G ->
  wpAny P .any ops Q fuel l a w:=by
 have xT:∀ (l:Array Bool) (a:Act) (w:World) (G:Gh),l.size=ops.size->R E.ntmps F (sig (dn l) 0 is s.get) ρ a w G->Region.ready .any ops l=[]->Q .normal a w:=by
  intro l a w G hl hR hr;have cU:=ready_nil hl hd.low hr;refine hQ a w G ?_
  have:sig (fun _=>true) 0 is s.get=sig (dn l) 0 is s.get:=by
   funext k;refine Bas (fun p a hp _=>?_) rfl;have hlt:=(List.getElem?_eq_some_iff.1 hp).1;rw[hd.len]at hlt;rw[cU _ (by omega)]
  rw[this];exact hR
 intro fuel
 induction fuel with
 | zero =>
  intro l a w G hl rS iz hR
  have fh:Region.ready .any ops l=[]:=by
   cases hr:Region.ready .any ops l with
   |nil=>rfl
   | cons i r =>
    exfalso;obtain⟨o,h1,h2,h3⟩:=Lah hl (by rw[hr];exact Zbu:i∈Region.ready .any ops l);rw[<- Acz]at h2;have:=Taz h2;omega
  exact⟨fh,xT l a w G hl hR fh⟩
 | succ fuel ih =>
  intro l a w G hl rS iz hR;refine⟨xT l a w G hl hR,fun i hi=>?_⟩;obtain⟨o,ho,y4,tf⟩:=Lah hl hi;have hoL:ops.toList[i]?=some o:=by rw[Acz];exact ho
  have lO:i<l.size:=by
   rw[<- Acz]at y4;have:=(List.getElem?_eq_some_iff.1 y4).1;simpa using this
  obtain⟨ai,hai,je⟩:=hd.at_ i o hoL;obtain⟨mv,dt,nv,bj,aE⟩:=je.run
  have vc:dn l i=false:=by
   unfold dn;rw[Ack,y4];rfl
  have xp:∀ w p,(waits ops.toList [])[i]?=some w->Bc2 w p=true->dn l p=true:=by
   intro w' p hw hb;obtain⟨e,he,hbe,h1⟩:=Oav (acc:=[]) (p:=i) hoL (by simpa using hw) p hb
   rcases h1 with h1|⟨w'',h1,h2⟩
   ·rw[h1];exact tf e he hbe
   ·exact iz e.on w'' p (tf e he hbe) h1 h2
  have vp:∀ p b,p<i->is[p]?=some b->dn l p=false->qP b ai=true:=by
   intro p b hpi hb q0
   rcases hd.free p i b ai hpi hb hai with ⟨w',h1,h2⟩|h
   ·rw[xp w' p h1 h2]at q0;cases q0
   ·exact h
  have mb:∀ q b,i<q->is[q]?=some b->dn l q=true->qP ai b=true:=by
   intro q b hiq hb hdq
   rcases hd.free i q ai b hiq hai hb with ⟨w',h1,h2⟩|h
   ·rw[iz q w' i hdq h1 h2]at vc;cases vc
   ·exact h
  have a1l:∀ k∈ai.log,sig (dn l) 0 is s.get k=sig (fun q=>decide (q<0+i)) 0 is s.get k:=by
   intro k hk;refine Bas (fun p b hb hw=>?_) rfl;rw[Aca,Aca]
   rcases Nat.lt_trichotomy p i with h|h|h
   ·have e:(decide (p<i):Bool)=true:=by simpa using h
    rw[e]
    cases hdp:dn l p with
    |true=>rfl
    |false=>exact absurd hk ((apart_spec (vp p b h hb hdp)).1 k hw)
   ·subst h
    rw[vc];simp
   ·have e:(decide (p<i):Bool)=false:=by simp;omega
    rw[e]
    cases hdp:dn l p with
    |false=>rfl
    |true=>exact absurd hw ((apart_spec (mb p b h hb hdp)).2.2.1 k hk)
  have xm:=RdM.run_eval (RdM.run_same bj a1l)
  have lj:∀ (p:Nat) (b:OpI),is[p]?=some b->∃ nv' ,b.res.upd.all (fun x=>zH E.ntmps (s.nb+p) (s.nr+bW*p) x.1)=true/\nv'=nv:=by
   intro p b hb;have hlt:=(List.getElem?_eq_some_iff.1 hb).1
   have ke:ops.toList[p]?=some ops.toList[p]!:=by
    rw[List.getElem!_eq_getElem?_getD,Zbf (by simpa[<- hd.len] using hlt)];rfl
   obtain⟨b',di,y6⟩:=hd.at_ p _ ke;rw[hb]at di;obtain rfl:=Option.some.inj di;obtain⟨mv',a3g,nv',hr',-⟩:=y6.run;have:=(jW (RdM.run_eval hr')).2.2.2;rw[y6.nb,y6.nr]at this;exact⟨nv,this,rfl⟩
  have ql:Dao (sig (dn l) 0 is s.get) ai.nb ai.nr:=by
   have hf:=Qa2 (s:=s);refine⟨?_,fun j hj1 jo=>?_⟩
   ·rw[vX fun p b hb hw=>?_]
    ·rw[je.nb]
     unfold St.get vJ kB;have e:(3*(s.nb+i)+1) % 3=1:=by omega
     have e2:(3*(s.nb+i)+1) / 3=s.nb+i:=by omega
     rw[e,e2]
     have:Acw (s.nb+i) s.nb=false:=by
      cases hb:Acw (s.nb+i) s.nb with
      |false=>rfl
      |true=>simp only[Ach]at hb;omega
     rw[this];rfl
    ·rw[Aca]
     obtain⟨_,hk,-⟩:=lj p b hb;have h1:=Abs (Vao hk hw);rw[je.nb]at h1
     rcases Nat.lt_trichotomy p i with h|h|h
     ·omega
     ·rw[h];exact vc
     ·cases hdp:dn l p with
      |false=>rfl
      | true =>
       have:=(apart_spec (mb p b h hb hdp)).2.2.2 _ hw;unfold Nax at this;rw[Qan]at this;have e2:kB ai.nb / 3=ai.nb:=by unfold kB;omega
       rw[e2]at this;simp at this
   ·rw[vX fun p b hb hw=>?_]
    ·unfold St.get vJ kR
     have e:(3*j+2) % 3=2:=by omega
     have e2:(3*j+2) / 3=j:=by omega
     rw[e,e2]
     have:Acw j s.nr=false:=by
      cases hb:Acw j s.nr with
      |false=>rfl
      |true=>simp only[Ach]at hb;rw[je.nr]at hj1;omega
     rw[this];rfl
    ·rw[Aca]
     obtain⟨_,hk,-⟩:=lj p b hb;have h1:=Ead (Vao hk hw)
     rcases Nat.lt_trichotomy p i with h|h|h
     ·rw[je.nr]at hj1
      have:bW*(p+1)<=bW*i:=Nat.mul_le_mul_left _ h;rw[Nat.mul_succ]at this;omega
     ·rw[h];exact vc
     ·cases hdp:dn l p with
      |false=>rfl
      | true =>
       have:=(apart_spec (mb p b h hb hdp)).2.2.2 _ hw;unfold Nax at this;rw[Qam]at this;have e2:kR j / 3=j:=by unfold kR;omega
       rw[e2]at this;have e3:Nat.ble ai.nr j=true:=by simpa using hj1
       have e4:Acw j (ai.nr+bW)=true:=by simpa using jo
       rw[e3,e4]at this;simp at this
  have fb:Lbb P E F (sig (dn l) 0 is s.get) ρ ops o Q ai.res.upd a w:=by
   refine Bap hR hti hd.dst ql xm aE fun f args argTypes wt=>?_
   obtain⟨h2,h3,h4,h5⟩:=jW xm;rw[Ka2 wt]at h4;exact cI _ ρ a w G ai.g o Q mv dt nv _ _ ai.res f args argTypes hR h3 ql wt h4 h5 aE
  have a2o:sig (dn (l.setIfInBounds i true)) 0 is s.get=upds (sig (dn l) 0 is s.get) ai.res.upd:=by
   funext k;by_cases hw:Wr ai k
   ·refine Uay hai (by rw[Aca,Va2 lO];simp) hw fun q b hiq hb zg=>?_
    rw[Aca,Va2 lO];have e:(decide (q=i):Bool)=false:=by simp;omega
    rw[e,Ccb]
    cases hdq:dn l q with
    |false=>rfl
    |true=>exact absurd zg ((apart_spec (mb q b hiq hb hdq)).2.1 k hw)
   ·rw[Maq hw]
    refine Bas (fun p b hb zg=>?_) rfl;rw[Aca,Va2 lO]
    have e:(decide (p=i):Bool)=false:=by
     simp;intro e;subst e;rw[hai]at hb;obtain rfl:=Option.some.inj hb;exact hw zg
    rw[e,Ccb]
  have a5a:Closed ops (l.setIfInBounds i true):=by
   intro q w' p hdq hw hb;rw[Va2 lO]at hdq ⊢;by_cases e:q=i
   ·subst e
    rw[xp w' p hw hb,Cct]
   ·have e':(decide (q=i):Bool)=false:=by simp[e]
    rw[e',Ccb]at hdq;rw[iz q w' p hdq hw hb,Cct]
  have wx:∀ a w,Nx E.ntmps F (sig (dn l) 0 is s.get) ρ ai.res.upd a w->wpAny P .any ops Q fuel (l.setIfInBounds i true) a w:=by
   intro a' w' ⟨G',iw⟩;rw[<- a2o]at iw;refine ih _ a' w' G' (by simp[hl]) ?_ a5a iw;rw[Array.toList_setIfInBounds];rw[<- Acz]at y4;have:=Taz y4;omega
  unfold wpOp;rw[ho];unfold Lbb at fb;dsimp only;split
  ·rename_i hw
   rw[if_pos hw]at fb;exact .inl (Oper.wp_mono wx fb)
  ·rename_i hw
   rw[if_neg hw]at fb;exact wx _ _ fb
end
section
variable {P:Program} {E:Env} {F:bH} {cf:Nat->List D->Option (List D)} {n:Nat} {σ:Nat->Option aS} {ρ:List D} {a:Act} {w:World} {G:Gh}
theorem R.world {w':World}(h:R n F σ ρ a w G)(hh:w'.heap=w.heap)(ho:w'.os=w.os)(ht:w'.tape=w.tape)(hp:w'.output=w.output):R n F σ ρ a w' G:=by
 have eu:Fr σ G w (upds σ []) G w':=by
  refine⟨fun b hb _=>⟨hb,by rw[hh]⟩,fun r k _ h=>h,fun r k h=>h,fun r k b p _ _ h=>⟨.inl h,by rw[hh]⟩,fun r k m _ h=>⟨h,fun b p h=>h⟩,fun _ _=>rfl,fun _ _=>rfl,fun k h=>h,fun _ _ _ _ _ _ _ h=>h⟩
 exact h.upd [] eu h.tmps h.defers ⟨ho.trans h.frame.os,ht.trans h.frame.tape,hp.trans h.frame.output,by rw[hh];exact h.frame.size,
  fun b hb hf=>by rw[hh];exact h.frame.keep b hb hf,fun b j hb hj=>by rw[hh];exact h.frame.boxes b j hb hj,fun b hb=>h.frame.fresh b (by rw[<- hh];exact hb)⟩
  (fun t _=>rfl) (fun b ro ls _ _=>⟨rfl,by rw[hh]⟩) (fun b ls hb=>by simp at hb) (fun k c hk=>by simp at hk)
theorem Pan (hti:vN P E.ti)(cI:Bad P E F cf)(hm:P.follows .mixedOrders=true){kn:Nat}{ops:Array Oper}{draw:Bool}{s:St}{o:Out St}
  (h:Ec cf (Mar E false kn ops.toList draw s) ρ=some o) (hl:ρ.length=s.nv) (hi:Dan E s) :
  (o.kind=.fall/\o.env.length=o.ext.nv/\Dan E o.ext/\∃ ds,o.env=ρ++ds) /\
  ∀ a w G Q,R E.ntmps F s.get ρ a w G->(∀ a' w' G',R E.ntmps F o.ext.get o.env a' w' G'->Q .normal a' w')->(Code.region kn ops draw).wp P Q a w:=by
 unfold Mar at h;split at h
 case h_2=>simp only[cond_false,jI]at h;cases h
 rename_i is s' a7n;obtain⟨js,hjs,hc⟩:=Haj a7n;simp only[List.reverse_nil,Aco]at hjs;subst hjs;have oX:=Cbk hc
 cases hb:(!draw||(Ca9 ops.toList 0&&wK is (waits ops.toList []) 0)) with
 |false=>rw[hb]at h;simp only[cond_false,jI]at h;cases h
 | true =>
  rw[hb,cond_true]at h;obtain⟨h1,h2,h3,⟨ds,h4⟩,h5⟩:=Wax hc yB.1 hl h;have u5:=h5 [];rw[Zb4]at u5;refine⟨⟨h1,by rw[h2,yB.1];exact h3,by rw[h2];exact (Cbj hc hi).trim,ds,h4⟩,fun a w G Q hR hQ=>?_⟩;rw[h2,Oay]at hQ;have iw:R E.ntmps F s.get o.env a w G:=by rw[h4];exact hR.ext hi.sc (by omega) ds
  cases draw with
  | false =>
   refine wp_region ?_;rw[List.range_eq_range'];have:=Cbi hti cI (ops:=ops) oX hc (by simp) iw hi u5 hQ;simpa using this
  | true =>
   simp only[Cca,Ccb,Zbd]at hb;obtain⟨hlen,vA,je⟩:=Hbh (ρ:=o.env) (cf:=cf) hc hi u5;have a3h:is.length=ops.size:=by rw[hlen];simp
   have hd:Ibv E ops cf o.env s is:=by
    refine⟨a3h,je,fun p q x y hpq hp hq=>?_,fun p o' hp e he hbe=>?_,oX⟩
    ·obtain⟨w',h6,h7⟩:=Caa hb.2 hpq hp hq
     rw[Aca]at h7;exact h7.imp (fun h7=>⟨w',h6,h7⟩) id
    ·have:=Fav hb.1 hp e he hbe
     omega
   refine wp_region_any hm ?_;refine Gbw hti cI hd (fun a' w' G' te=>hQ a' w' G' (by rw[vA];exact te)) ops.size _ a _ G (by simp) ?_ ?_ ?_
   ·simp only[Array.toList_replicate,List.count_replicate_self,Zbr]
   ·intro q w' p hq
    unfold dn at hq;rw[Ack,Array.getElem?_replicate]at hq;split at hq<;>simp at hq
   ·rw[Uax fun q _=>by
     unfold dn;rw[Ack,Array.getElem?_replicate];split<;>rfl]
    exact iw.world rfl rfl rfl rfl
end
theorem Car {s:St}{k:Nat}{c:aS}(h:s.get k=some c):vJ s.nt s.nb s.nr k=true:=by
 unfold St.get at h
 cases e:vJ s.nt s.nb s.nr k with
 |true=>rfl
 |false=>rw[e]at h;cases h
theorem Qal {nt nb nr r:Nat}(h:r<nr):vJ nt nb nr (kR r)=true:=by
 unfold vJ;rw[Qam];have:kR r / 3=r:=by unfold kR;omega
 rw[this];simpa using h
theorem yM {s:St}{u:List (Nat×aS)}(h:∀ k c,(k,c)∈u->vJ s.nt s.nb s.nr k=true):(s.puts u).get=upds s.get u:=by
 funext k;obtain⟨e1,e2,e3,e4⟩:=jA u s;unfold St.get;rw[e2,e3,e4,Nab];by_cases hm:∃ c,(k,c)∈u
 ·obtain⟨c,hc⟩:=hm
  rw[h k c hc,cond_true];exact Gaj _ _ _ _ ⟨c,hc⟩
 ·have hn:∀ c,(k,c)∉u:=fun c hc=>hm ⟨c,hc⟩
  rw[eU _ _ _ hn,eU _ _ _ hn]
def La0 (σ:Nat->Option aS)(k j:Nat):Option aR :=
 match σ k with
 |some (.slot none (.one a))=>if j=0 then some a else none
 |some (.slot none (.agg ls))=>ls[j]?
 |some (.box _ ls)=>ls[j]?
 |_=>none
theorem Abj {k j:Nat}{s:St}:wS k j s=(La0 s.get k j).getD .dead:=by
 unfold wS La0;split
 ·rename_i v hk
  rw[hk]
  cases v with
  |dead=>simp[tH]
  | one a =>
   simp only[tH]
   cases j with
   |zero=>rfl
   |succ j=>simp
  |agg ls=>simp[tH,Zbk]
  |tup ts=>simp[tH]
 ·rename_i ro ls hk
  rw[hk];simp[Zbk]
 ·rename_i h1 h2
  cases hs:s.get k with
  |none=>rfl
  | some c =>
   cases c with
   | slot g v =>
    cases g with
    |none=>exact absurd hs (h1 v)
    |some g=>rfl
   |box ro ls=>exact absurd hs (h2 ro ls)
   |root=>rfl
theorem jO {k j:Nat}{s:St}{l:aR}(h:wS k j s=l)(hl:l≠.dead):La0 s.get k j=some l:=by
 rw[Abj]at h
 cases e:La0 s.get k j with
 |none=>rw[e]at h;exact absurd h.symm hl
 |some l'=>rw[e,Bcd]at h;rw[h]
section
variable {E:Env} {F:bH} {n:Nat} {σ:Nat->Option aS} {ρ:List D} {a:Act} {w:World} {G G':Gh}
inductive ValAt (n:Nat) (gh:Nat->Value) (a:Act) (w:World) (bx:Nat->Addr):aS->Nat->Nat->Value->Prop
 |one (t:Nat) (l:aR):ValAt n gh a w bx (.slot none (.one l)) (kT t) 0 (Bae n a gh t)
 |agg (t:Nat) (ls:List aR) (vs:List Value) (j:Nat) (v:Value) (h:Bae n a gh t=.agg vs.toArray) (hv:vs[j]?=some v):ValAt n gh a w bx (.slot none (.agg ls)) (kT t) j v
 |box (b j:Nat) (ro:Bool) (ls:List aR) (v:Value) (h:w.cell? ((bx b).add j)=some v):ValAt n gh a w bx (.box ro ls) (kB b) j v
theorem R.valAt (h:R n F σ ρ a w G){k j:Nat}{l:aR}(hl:La0 σ k j=some l):∃ v c,σ k=some c/\ValAt n F.gh a w G.bx c k j v/\aB σ ρ G w l v:=by
 unfold La0 at hl;split at hl
 ·rename_i l' hk
  obtain⟨t,rfl,h1⟩:=h.cont _ _ hk;split at hl
  ·rename_i hj
   subst hj;obtain rfl:=Option.some.inj hl;exact⟨_,_,hk,.one t l',h1 rfl⟩
  ·cases hl
 ·rename_i ls hk
  obtain⟨t,rfl,h1⟩:=h.cont _ _ hk;obtain⟨vs,h2,h3⟩:cB σ ρ G w (.agg ls) _:=h1 rfl;obtain⟨v,h4,h5⟩:=h3.get hl;exact⟨v,_,hk,.agg t ls vs j v h2 h4,h5⟩
 ·rename_i ro ls hk
  obtain⟨b,rfl,h1,h2,h3⟩:=h.cont _ _ hk;obtain⟨v,h4,h5,h6⟩:=h3 j l hl;exact⟨v,_,hk,.box b j ro ls v h4,h6⟩
 ·cases hl
theorem Fr.nonroot (σ:Nat->Option aS)(G:Gh)(w:World)(u:List (Nat×aS))(hu:∀ k c,(k,c)∈u->∀ r,k≠kR r):Fr σ G w (upds σ u) G w:=by
 have hr:∀ r,upds σ u (kR r)=σ (kR r):=fun r=>eU _ _ _ fun c hc=>hu _ _ hc r rfl
 refine⟨fun b h _=>⟨h,rfl⟩,fun r k _ h=>?_,fun r k h=>?_,fun r k b p _ _ h=>⟨.inl h,rfl⟩,fun r k m _ h=>⟨?_,fun b p h=>h⟩,fun _ _=>rfl,fun _ _=>rfl,fun k h=>eD _ _ _ (.inl h),fun _ _ _ _ _ _ _ h=>h⟩
 ·obtain⟨x,m,st,e,h⟩:=h
  exact⟨x,m,st,by rw[<- hr];exact e,h⟩
 ·obtain⟨x,m,bc,st,e,h⟩:=h
  exact⟨x,m,bc,st,by rw[hr];exact e,h⟩
 ·obtain⟨x,e⟩:=h
  exact⟨x,by rw[<- hr];exact e⟩
theorem Fa7 {α:Type}{x y:List α}(h:x.toArray=y.toArray):x=y:=by
 have:=congrArg Array.toList h;simpa using this
structure Hbt (s s':St):Prop where
 nr:s'.nr=s.nr
 nt:s'.nt=s.nt
 root:∀ r,s'.get (kR r)=s.get (kR r)
theorem R.putAt {s:St}(h:R n F s.get ρ a w G){k j:Nat}{l:aR}{c0:aS}(hk:s.get k=some c0){v:Value}(hv:ValAt n F.gh a w G.bx c0 k j v)(hl:aB s.get ρ G w l v) :
  R n F (Go.Proofs.YtcbkmmhkccnamaaGreat.Rf.putAt k j l s).get ρ a w G/\Hbt s (Go.Proofs.YtcbkmmhkccnamaaGreat.Rf.putAt k j l s)/\(Go.Proofs.YtcbkmmhkccnamaaGreat.Rf.putAt k j l s).nv=s.nv:=by
 have mL:∀ c,Vbn j l c0=some c->(∀ r,k≠kR r)->(∃ t,(k=kT t/\∃ sv,c=.slot none sv/\cB (upds s.get [(k,c)]) ρ G w sv (Bae n a F.gh t))\/(k=kB t/\∃ ro ls,c=.box ro ls/\Mal (upds s.get [(k,c)]) ρ G w t ro ls))->(∀ b ls,k=kB b->c=.box false ls->∃ jv,c0=.box false jv/\ls.length=jv.length) ->
   R n F (Go.Proofs.YtcbkmmhkccnamaaGreat.Rf.putAt k j l s).get ρ a w G/\Hbt s (Go.Proofs.YtcbkmmhkccnamaaGreat.Rf.putAt k j l s)/\(Go.Proofs.YtcbkmmhkccnamaaGreat.Rf.putAt k j l s).nv=s.nv:=by
  intro c hc lR hcr hbl
  have e:Go.Proofs.YtcbkmmhkccnamaaGreat.Rf.putAt k j l s=s.puts [(k,c)]:=by
   unfold Go.Proofs.YtcbkmmhkccnamaaGreat.Rf.putAt;rw[hk,Zbj,hc];rfl
  have hg:(s.puts [(k,c)]).get=upds s.get [(k,c)]:=yM fun k' c' hm=>by
   simp only[Zbp,Prod.mk.injEq]at hm;rw[hm.1];exact Car hk
  obtain⟨e1,e2,e3,e4⟩:=jA [(k,c)] s
  have cY:∀ k' c',(k',c')∈[(k,c)]->k'=k/\c'=c:=by
   intro k' c' hm;simpa using hm
  rw[e];refine⟨?_,⟨e3,e4,fun r=>?_⟩,e1⟩
  ·rw[hg]
   have eu:=Fr.nonroot s.get G w [(k,c)] fun k' c' hm r=>by rw[(cY _ _ hm).1];exact lR r
   refine h.upd _ eu h.tmps h.defers h.frame (fun _ _=>rfl) (fun _ _ _ _ _=>⟨rfl,rfl⟩) (fun b ls hm hb ho=>?_) (fun k' c' hm _=>?_)
   ·obtain⟨e5,e6⟩:=cY _ _ hm
    obtain⟨jv,h1,h2⟩:=hbl b ls e5.symm e6.symm;rw[h1]at hk;rw[h2];exact h.rng b jv (by rw[e5];exact hk) hb ho
   ·obtain⟨rfl,rfl⟩:=cY _ _ hm
    obtain⟨t,⟨e7,sv,e8,h8⟩|⟨e7,ro,ls,e8,h8⟩⟩:=hcr
    ·subst e8
     exact⟨t,e7,fun _=>h8⟩
    ·subst e8
     exact⟨t,e7,h8⟩
  ·rw[hg]
   exact eU _ _ _ fun c' hm=>lR r (cY _ _ hm).1.symm
 have eu:∀ c,(∀ r,k≠kR r)->Fr s.get G w (upds s.get [(k,c)]) G w:=fun c lR=>Fr.nonroot s.get G w [(k,c)] fun k' c' hm r=>by
  simp only[Zbp,Prod.mk.injEq]at hm;rw[hm.1];exact lR r
 cases hv with
 | one t l0 =>
  exact mL (.slot none (.one l)) rfl (fun r=>iU) ⟨t,.inl ⟨rfl,_,rfl,aB.mono (eu _ fun r=>iU) l _ hl⟩⟩ (fun b ls e=>absurd e lT)
 | agg t ls vs _ _ h2 hvj =>
  have h1:=h.slot hk rfl;obtain⟨tP,uz,h3⟩:cB s.get ρ G w (.agg ls) _:=h1;rw[h2]at uz
  injection uz with e
  have e:=Fa7 e;subst e;have hf:=eu (.slot none (.agg (ls.set j l))) fun r=>iU
  refine mL (.slot none (.agg (ls.set j l))) rfl (fun r=>iU) ⟨t,.inl ⟨rfl,_,rfl,vs,h2,?_⟩⟩ (fun b ls e=>absurd e lT);refine aG.of_get (by simp[h3.len]) fun i l' v' hi y7=>?_
  rw[Bci]at hi;split at hi
  ·rename_i sh
   subst sh;split at hi
   ·obtain rfl:=Option.some.inj hi
    rw[y7]at hvj;obtain rfl:=Option.some.inj hvj;exact aB.mono hf _ _ hl
   ·cases hi
  ·obtain⟨u,hu,sL⟩:=h3.get hi
   rw[y7]at hu;obtain rfl:=Option.some.inj hu;exact aB.mono hf _ _ sL
 | box b _ ro ls _ hb =>
  obtain⟨h1,h2,h3⟩:=h.box hk;have hf:=eu (.box ro (ls.set j l)) fun r=>fE
  refine mL (.box ro (ls.set j l)) rfl (fun r=>fE) ⟨b,.inr ⟨rfl,_,_,rfl,h1,h2,fun i l' hi=>?_⟩⟩ (fun b' kk e e'=>?_)
  ·rw[Bci]at hi
   split at hi
   ·rename_i sh
    subst sh;split at hi
    ·rename_i hlt
     obtain rfl:=Option.some.inj hi;obtain⟨v0,h4,h5,h6⟩:=h3 _ _ (Zbf hlt);rw[h4]at hb;obtain rfl:=Option.some.inj hb;exact⟨v0,h4,h5,aB.mono hf _ _ hl⟩
    ·cases hi
   ·obtain⟨u,h4,h5,h6⟩:=h3 i l' hi
    exact⟨u,h4,h5,aB.mono hf _ _ h6⟩
  ·injection e' with e1 e2
   subst e1 e2;exact⟨ls,rfl,by simp⟩
end
section
variable {E:Env} {F:bH} {σ:Nat->Option aS} {ρ:List D} {a:Act} {w:World} {G G':Gh}
def Vbp:Oper:={ (default:Oper) with dst:=none }
theorem R.roots (h:R E.ntmps F σ ρ a w G){ur:List (Nat×aS)}{f:Nat->List Nat->Ow}
  (hu:∀ k c,(k,c)∈ur->∃ r,k=kR r) (a7:∀ b,G'.own b=mR f (G.own b))
  (yy:∀ b r p,G.own b=.slc r p->(∀ c,(kR r,c)∉ur)->f r p=.slc r p)
  (y3:∀ r c,(kR r,c)∈ur->upds σ ur (kR r)=some c->Chg σ G w G' w r c)
  (pd:∀ r x m k,σ (kR r)=some (.root x m k .frozen)->∀ s p q,f s p=.slc r q->s=r/\p=q)
  (tS:∀ r,(σ (kR r)).isSome->G'.hdr r=G.hdr r) (gi:G'.bx=G.bx)
  (eW:∀ r c,(kR r,c)∈ur->upds σ ur (kR r)=some c->∃ x m bc st,c=.root x m bc st/\bS (upds σ ur) ρ G' w r x m st):R E.ntmps F (upds σ ur) ρ a w G':=by
 have h0:dW Vbp none .dead=[]:=rfl
 have:=h.own (o:=Vbp) (g:=none) (sv:=.dead) (v:=undef) (ur:=ur) (f:=f) (wr:=fun _=>False) (G':=G') (w':=w) (fun d hd=>by cases hd) hu (fun b _=>a7 b)
  (fun b hb=>by rw[a7,h.frame.fresh b hb];rfl) ⟨rfl,rfl,rfl,Zbr _⟩ (fun b hb=>.inl (by rw[a7,h.frame.fresh b hb];rfl)) (fun _ _ _=>rfl) (fun b hb=>hb.elim) yy
  (by rw[h0,Aco];exact y3) pd tS gi (fun _ _=>trivial) (by rw[h0,Aco];exact fun _=>eW)
 rw[h0,Aco]at this;exact this
def mvF (r rN m:Nat)(s:Nat)(p:List Nat):Ow:=if s=r then (if p.length<m then .slc rN p else .frz) else .slc s p
theorem R.moveRoot (h:R E.ntmps F σ ρ a w G){r rN m m' v:Nat}{x x0:aL}(hr:σ (kR r)=some (.root x0 m' v .live))(hN:σ (kR rN)=none)(hm:m<=m'){u:Value}
  (fm:Rp G.own w r [] m' u (x.val ρ)) {st:RSt} (aE:st=.gone\/(st=.fwd rN/\u=G.hdr r)) :
  ∃ G',R E.ntmps F (upds σ [(kR r,.root (.c .hole) 0 0 st),(kR rN,.root x m 0 .live)]) ρ a w G'/\G'.hdr rN=u/\G'.bx=G.bx:=by
 have cJ:r≠rN:=fun e=>by rw[e,hN]at hr;cases hr
 let G':Gh:={ own:=fun b=>mR (mvF r rN m) (G.own b),hdr:=fun s=>if s=rN then u else G.hdr s,bx:=G.bx }
 have e1:upds σ [(kR r,aS.root (.c .hole) 0 0 st),(kR rN,.root x m 0 .live)] (kR r)=some (.root (.c .hole) 0 0 st):=by
  simp only[upds,Uaz];rw[if_neg fun e=>cJ (eZ e)];simp
 have e2:upds σ [(kR r,aS.root (.c .hole) 0 0 st),(kR rN,.root x m 0 .live)] (kR rN)=some (.root x m 0 .live):=by
  simp[upds,Uaz]
 have cY:∀ s c,(kR s,c)∈[(kR r,aS.root (.c .hole) 0 0 st),(kR rN,.root x m 0 .live)]->s=r\/s=rN:=by
  intro s c hc;simp only[Acf,Prod.mk.injEq,Ac5,or_false]at hc;exact hc.imp (fun e=>eZ e.1) (fun e=>eZ e.1)
 refine⟨G',h.roots (f:=mvF r rN m) ?_ (fun b=>rfl) ?_ ?_ ?_ ?_ rfl ?_,by simp[G'],rfl⟩
 ·intro k c hc
  simp only[Acf,Prod.mk.injEq,Ac5,or_false]at hc
  rcases hc with ⟨e,-⟩|⟨e,-⟩<;>exact⟨_,e⟩
 ·intro b s p hb hn
  unfold mvF;rw[if_neg fun e=>hn _ (by rw[e];exact Zbu)]
 ·intro s c hc gj
  rcases cY s c hc with rfl|rfl
  ·rw[e1]at gj
   obtain rfl:=Option.some.inj gj;refine .inr (.inr (.inl ⟨_,_,_,_,rfl,?_,?_⟩))<;>rcases aE with e|⟨e,-⟩<;>rw[e]<;>simp
  ·rw[e2]at gj
   obtain rfl:=Option.some.inj gj;exact .inl ⟨hN,_,_,_,_,rfl⟩
 ·intro r0 x1 m1 k1 hk s p q hf
  unfold mvF at hf;split at hf
  ·split at hf
   ·injection hf with f1 f2
    rw[<- f1,hN]at hk;cases hk
   ·cases hf
  ·injection hf with f1 f2
   exact⟨f1,f2⟩
 ·intro s hs
  show (if s=rN then u else G.hdr s)=_
  rw[if_neg];intro e;rw[e,hN]at hs;cases hs
 ·intro s c hc gj
  rcases cY s c hc with rfl|rfl
  ·rw[e1]at gj
   obtain rfl:=Option.some.inj gj;refine⟨_,_,_,_,rfl,?_⟩
   rcases aE with e|⟨e,hu⟩
   ·subst e;trivial
   ·subst e
    refine⟨?_,by rw[e2];rfl⟩;show (if s=rN then u else G.hdr s)=(if rN=rN then u else G.hdr rN)
    rw[if_neg cJ,if_pos rfl,hu]
  ·rw[e2]at gj
   obtain rfl:=Option.some.inj gj;refine⟨_,_,_,_,rfl,?_⟩;show Rp G'.own w s [] m (if s=s then u else G.hdr s) (x.val ρ)
   rw[if_pos rfl]
   have hw:=fm.weaken (own':=fun b=>mR (fun s' p=>if s'=r then (if p.length<m then .slc r p else .frz) else .slc s' p) (G.own b)) (fun b hb=>by rw[hb];rfl) m hm (fun b t hb=>by
    rw[hb];simp only[mR,if_pos rfl,Aco]
    rfl)
   have:=hw.mono (own':=G'.own) (w':=w) (q:=[]) (q':=[]) (r':=s) (fun b hb=>⟨?_,rfl⟩) [] rfl (fun b t hb=>⟨?_,rfl⟩)
   ·simpa using this
   ·show mR _ (G.own b)=_
    cases e:G.own b with
    | slc s' p =>
     rw[e]at hb;simp only[mR]at hb ⊢;unfold mvF;split at hb
     ·rename_i ka
      rw[if_pos ka];split at hb
      ·cases hb
      ·rename_i hl;rw[if_neg hl]
     ·cases hb
    |_=>rw[e]at hb;simpa[mR] using hb
   ·show mR _ (G.own b)=_
    cases e:G.own b with
    | slc s' p =>
     rw[e]at hb;simp only[mR]at hb ⊢;unfold mvF;split at hb
     ·rename_i ka
      rw[if_pos ka];split at hb
      ·rename_i hl
       rw[if_pos hl]
       injection hb with f1 f2
       rw[f2]
      ·cases hb
     ·rename_i ka
      injection hb with f1 f2
      exact absurd f1 ka
    |_=>rw[e]at hb;simp[mR]at hb
theorem R.nilRoot (h:R E.ntmps F σ ρ a w G){rN m z:Nat}(hN:σ (kR rN)=none) :
  ∃ G',R E.ntmps F (upds σ [(kR rN,.root (.c (.rows z [])) m 0 .live)]) ρ a w G'/\G'.hdr rN=.slice none 0 0/\G'.bx=G.bx:=by
 let G':Gh:={ own:=G.own,hdr:=fun s=>if s=rN then .slice none 0 0 else G.hdr s,bx:=G.bx }
 have e2:upds σ [(kR rN,aS.root (.c (.rows z [])) m 0 .live)] (kR rN)=some (.root (.c (.rows z [])) m 0 .live):=by
  simp[upds,Uaz]
 have cY:∀ s c,(kR s,c)∈[(kR rN,aS.root (.c (.rows z [])) m 0 .live)]->s=rN:=by
  intro s c hc;simp only[Acf,Prod.mk.injEq,Ac5,or_false]at hc;exact eZ hc.1
 refine⟨G',h.roots (f:=fun s p=>.slc s p) ?_ (fun b=>?_) (fun _ _ _ _ _=>rfl) ?_ (fun _ _ _ _ _ s p q hf=>?_) ?_ rfl ?_,by simp[G'],rfl⟩
 ·intro k c hc
  simp only[Acf,Prod.mk.injEq,Ac5,or_false]at hc;exact⟨_,hc.1⟩
 ·show G.own b=_
  cases G.own b<;>rfl
 ·intro s c hc gj
  obtain rfl:=cY s c hc;rw[e2]at gj;obtain rfl:=Option.some.inj gj;exact .inl ⟨hN,_,_,_,_,rfl⟩
 ·injection hf with f1 f2
  exact⟨f1,f2⟩
 ·intro s hs
  show (if s=rN then _ else G.hdr s)=_
  rw[if_neg];intro e;rw[e,hN]at hs;cases hs
 ·intro s c hc gj
  obtain rfl:=cY s c hc;rw[e2]at gj;obtain rfl:=Option.some.inj gj;refine⟨_,_,_,_,rfl,?_⟩;show Rp G.own w s [] m (if s=s then _ else G.hdr s) (.rows z [])
  rw[if_pos rfl]
  cases m with
  |zero=>exact .fz (.rows none ⟨0,0,none⟩ 0 0 z [] (fun _ _=>undef) rfl (Zbr _) (.inl rfl) (by simp) (by simp) (by simp))
  |succ m=>exact .sl none ⟨0,0,none⟩ 0 0 z [] (fun _ _=>undef) rfl (Zbr _) (.inr ⟨rfl,rfl⟩) (by simp) (fun e=>by cases e) (by simp) (by simp)
def fzF (rs:List Nat)(s:Nat)(p:List Nat):Ow:=if s∈rs then .frz else .slc s p
theorem R.freeze (h:R E.ntmps F σ ρ a w G){rs:List Nat}{fr:List (Nat×aS)}(eu:(dS rs).eval σ=some fr) :
  ∃ G',R E.ntmps F (upds σ fr) ρ a w G'/\(∀ b,G'.own b=mR (fzF rs) (G.own b))/\G'.hdr=G.hdr/\G'.bx=G.bx:=by
 obtain⟨h1,h2⟩:=gK eu
 let G':Gh:={ own:=fun b=>mR (fzF rs) (G.own b),hdr:=G.hdr,bx:=G.bx }
 have a8a:∀ b r p,G.own b=.slc r p->r∈rs->∃ c,(kR r,c)∈fr:=by
  intro b r p hb hr
  rcases h1 r hr with ⟨x,m,bc,-,h4⟩|⟨x,m,bc,h4⟩
  ·exact⟨_,h4⟩
  ·exact absurd hb ((h.root h4).2 b p)
 have dv:∀ r c,(kR r,c)∈fr->∃ x m bc,c=.root x m bc .frozen/\σ (kR r)=some (.root x m bc .live)/\r∈rs:=by
  intro r c hc;obtain⟨s,hs,x,m,bc,e,e',h3⟩:=h2 _ _ hc;obtain rfl:=eZ e;exact⟨x,m,bc,e',h3,hs⟩
 have z7:∀ r x m bc,σ (kR r)=some (.root x m bc .live)->r∈rs->Rd (fun b=>G'.own b=.frz) w (G.hdr r) (x.val ρ):=by
  intro r x m bc hk hr;have h3:=h.root hk;simp only[bS]at h3;refine h3.rd.mono fun b hb=>⟨?_,rfl⟩
  show mR _ _=_
  rcases hb with hb|⟨q,hb⟩
  ·rw[hb];rfl
  ·rw[hb];simp only[mR,fzF];rw[if_pos hr]
 refine⟨G',h.roots (f:=fzF rs) ?_ (fun b=>rfl) ?_ ?_ ?_ (fun _ _=>rfl) rfl ?_,fun b=>rfl,rfl,rfl⟩
 ·intro k c hc
  obtain⟨s,-,x,m,bc,e,-⟩:=h2 _ _ hc;exact⟨s,e⟩
 ·intro b r p hb hn
  unfold fzF;rw[if_neg];intro hr;obtain⟨c,hc⟩:=a8a b r p hb hr;exact hn c hc
 ·intro r c hc _
  obtain⟨x,m,bc,rfl,h3,h4⟩:=dv r c hc;refine .inr (.inr (.inr ⟨x,m,bc,h3,rfl,fun b p hb=>⟨?_,rfl⟩⟩));show mR _ _=_
  rw[hb];simp only[mR,fzF];rw[if_pos h4]
 ·intro r x m k hk s p q hf
  unfold fzF at hf;split at hf
  ·cases hf
  ·injection hf with f1 f2
   exact⟨f1,f2⟩
 ·intro r c hc _
  obtain⟨x,m,bc,rfl,h3,h4⟩:=dv r c hc;refine⟨_,_,_,_,rfl,z7 r x m bc h3 h4,fun b p hb=>?_⟩;have hb:mR (fzF rs) (G.own b)=.slc r p:=hb
  cases e:G.own b with
  | slc s q =>
   rw[e]at hb;simp only[mR,fzF]at hb;split at hb
   ·cases hb
   ·rename_i hs
    injection hb with f1 f2
    rw[f1]at hs;exact hs h4
  |_=>rw[e]at hb;simp[mR]at hb
theorem xR {rs:List Nat}{deps:List (Nat×Nat)}(a7:∀ b,G'.own b=mR (fzF rs) (G.own b))(hd:∀ z∈deps,z.1∈rs){b:Nat}(hb:allow G deps b):allow G' [] b:=by
 refine .inl ?_;rw[a7]
 rcases hb with hb|⟨r,k,p,hm,hb⟩
 ·rw[hb];rfl
 ·rw[hb]
  simp only[mR,fzF];rw[if_pos (hd _ hm)]
theorem Ia2 {s:St}{rs:List Nat}{fr:List (Nat×aS)}(eu:(dS rs).eval s.get=some fr):∀ k c,(k,c)∈fr->vJ s.nt s.nb s.nr k=true:=by
 intro k c hc;obtain⟨r,-,x,m,bc,rfl,-,h3⟩:=(gK eu).2 k c hc;exact Car h3
end
structure RI (nr len i:Nat) (s:St):Prop where
 nr_:s.nr=nr+len
 free:∀ j,i<=j->j<len->s.get (kR (nr+j))=none
section
variable {E:Env} {F:bH} {ρ:List D} {a:Act} {w:World} {G:Gh} {cf:Nat->List D->Option (List D)} {nr len i:Nat} {s s':St}
theorem RI.succ (h:RI nr len i s):RI nr len (i+1) s:=⟨h.nr_,fun j h1 h2=>h.free j (by omega) h2⟩
theorem RI.keeps (h:RI nr len i s)(hk:Hbt s s'):RI nr len i s':=⟨hk.nr.trans h.nr_,fun j h1 h2=>by rw[hk.root];exact h.free j h1 h2⟩
theorem RI.puts (h:RI nr len i s){u:List (Nat×aS)}{i':Nat}(hi:i<=i')(hg:(s.puts u).get=upds s.get u)(hu:∀ j,i'<=j->j<len->∀ c,(kR (nr+j),c)∉u):RI nr len i' (s.puts u) :=
 ⟨(jA u s).2.2.1.trans h.nr_,fun j h1 h2=>by rw[hg,eU _ _ _ (hu j h1 h2)];exact h.free j (by omega) h2⟩
theorem Ba4 {u:List (Nat×aS)}{G':Gh}(hg:(s.puts u).get=upds s.get u)(iw:R E.ntmps F (upds s.get u) ρ a w G')(gi:G'.bx=G.bx){k j:Nat}{c0:aS}(hk:s.get k=some c0)
  {v:Value} (hv:ValAt E.ntmps F.gh a w G.bx c0 k j v) (hu:∀ c,(k,c)∉u) {l:aR} (hl:aB (upds s.get u) ρ G' w l v) :
  R E.ntmps F (putAt k j l (s.puts u)).get ρ a w G'/\Hbt (s.puts u) (putAt k j l (s.puts u))/\(putAt k j l (s.puts u)).nv=s.nv:=by
 rw[<- hg]at iw hl;have kb:(s.puts u).get k=some c0:=by rw[hg,eU _ _ _ hu];exact hk
 obtain⟨h1,h2,h3⟩:=iw.putAt kb (by rw[gi];exact hv) hl;exact⟨h1,h2,h3.trans (jA u s).1⟩
theorem yA {n:Nat}{gh:Nat->Value}{bx:Nat->Addr}{c0:aS}{k j:Nat}{v:Value}(h:ValAt n gh a w bx c0 k j v):∀ r,k≠kR r:=by
 intro r
 cases h with
 |one=>exact iU
 |agg=>exact iU
 |box=>exact fE
theorem wB (hR:R E.ntmps F s.get ρ a w G)(hI:RI nr len i s){rs:List Nat}{fr:List (Nat×aS)}(eu:(dS rs).eval s.get=some fr){k j:Nat}{c0:aS}(hk:s.get k=some c0)
  {v:Value} (hv:ValAt E.ntmps F.gh a w G.bx c0 k j v) {l:aR} (hl:∀ G' ej,(∀ b,G'.own b=mR (fzF rs) (G.own b))->aB ej ρ G' w l v) :
  (∃ G',R E.ntmps F (putAt k j l (s.puts fr)).get ρ a w G')/\RI nr len (i+1) (putAt k j l (s.puts fr))/\(putAt k j l (s.puts fr)).nt=s.nt/\(putAt k j l (s.puts fr)).nv=s.nv:=by
 obtain⟨G',iw,h1,h2,h3⟩:=hR.freeze eu;have hg:(s.puts fr).get=upds s.get fr:=yM (Ia2 eu);have hfk:=(gK eu).2
 obtain⟨h4,h5,h6⟩:=Ba4 hg iw h3 hk hv (fun c hc=>by
  obtain⟨r,-,x,m,bc,e,-⟩:=hfk _ _ hc;exact yA hv r e) (hl G' _ h1)
 refine⟨⟨G',h4⟩,RI.keeps (hI.succ.puts (Zbr _) hg fun q lE km c hc=>?_) h5,h5.nt.trans (jA fr s).2.2.2,h6⟩;obtain⟨r,-,x,m,bc,e,-,h7⟩:=hfk _ _ hc;rw[<- e,hI.free q (by omega) km]at h7;cases h7
theorem Pa3 {p:Pos}{ls:List Step}{x:aL}(h:Ma8 E p nr i s=some (ls,s',x))(hI:RI nr len i s)(hi:i<len)(hR:R E.ntmps F s.get ρ a w G)(aE:aN cf ρ none s.nv ls) :
  (∃ G',R E.ntmps F s'.get ρ a w G')/\RI nr len (i+1) s'/\s'.nt=s.nt/\s'.nv=s.nv+bI ls:=by
 have ui:=hI.free i (Zbr _) hi;have hkN:vJ s.nt s.nb s.nr (kR (nr+i))=true:=Qal (by rw[hI.nr_];omega);unfold Ma8 at h;dsimp only at h;split at h
 ·
  simp only[Option.some.injEq,Prod.mk.injEq]at h;obtain⟨rfl,rfl,rfl⟩:=h;exact⟨⟨G,hR⟩,hI.succ,rfl,rfl⟩
 ·
  rename_i al r hf hl;split at h
  ·rename_i x0 m0 v0 r' hk
   cases hb:Nat.beq r' (nr+al) with
   |false=>rw[hb]at h;simp[kG]at h
   | true =>
    rw[hb,cond_true]at h;simp only[Option.some.injEq,Prod.mk.injEq]at h;obtain⟨rfl,rfl,rfl⟩:=h;simp only[Zb8]at hb;obtain⟨v,c,oy,oR,iq⟩:=hR.valAt (jO hl (by simp));simp only[aB]at iq;have u4:=hR.root hk;simp only[bS]at u4
    obtain⟨h1,h2,h3⟩:=hR.putAt oy oR (l:=.ex (nr+al)) (by
     simp only[aB];rw[<- hb];exact⟨iq.1.trans u4.1,u4.2,iq.2.2⟩)
    exact⟨⟨G,h1⟩,(hI.keeps h2).succ,h2.nt,h3⟩
  ·simp[kG]at h
 ·
  simp only[Option.some.injEq,Prod.mk.injEq]at h;obtain⟨rfl,rfl,rfl⟩:=h;exact⟨⟨G,hR⟩,hI.succ,rfl,rfl⟩
 ·
  rename_i m r hf hl;split at h
  ·rename_i x0 m' v0 hk
   cases hb:Nat.ble m m' with
   |false=>rw[hb]at h;simp[kG]at h
   | true =>
    rw[hb,cond_true]at h;simp only[Option.some.injEq,Prod.mk.injEq]at h;obtain⟨rfl,rfl,rfl⟩:=h;simp only[Acr]at hb;obtain⟨v,c,oy,oR,iq⟩:=hR.valAt (jO hl (by simp));simp only[aB]at iq;have u4:=hR.root hk;simp only[bS]at u4;obtain⟨G',iw,h1,h2⟩:=hR.moveRoot hk ui hb u4 (.inr ⟨rfl,rfl⟩)
    have hg:=yM (s:=s) (u:=[(kR r,.root (.c .hole) 0 0 (.fwd (nr+i))),(kR (nr+i),.root x0 m 0 .live)]) (fun k c hc=>by
     simp only[Acf,Prod.mk.injEq,Ac5,or_false]at hc
     rcases hc with ⟨e,-⟩|⟨e,-⟩<;>rw[e]
     ·exact Car hk
     ·exact hkN)
    obtain⟨h3,h4,h5⟩:=Ba4 (j:=p.j) hg iw h2 oy oR (fun c hc=>by
     simp only[Acf,Prod.mk.injEq,Ac5,or_false]at hc
     rcases hc with ⟨e,-⟩|⟨e,-⟩<;>exact yA oR _ e) (l:=.ex (nr+i)) (by
     simp only[aB];exact⟨by rw[h1];exact iq.1,eD _ _ _ (.inr ⟨.root x0 m 0 .live,by simp⟩),iq.2.2⟩)
    refine⟨⟨G',h3⟩,RI.keeps (hI.puts (Ccj i) hg fun q lE km c hc=>?_) h4,h4.nt.trans (jA _ s).2.2.2,h5⟩;simp only[Acf,Prod.mk.injEq,Ac5,or_false]at hc
    rcases hc with ⟨e,-⟩|⟨e,-⟩
    ·rw[<- e,hI.free q (by omega) km]at hk;cases hk
    ·have:=eZ e;omega
  ·simp[kG]at h
 ·
  rename_i m nie z hf hl;simp only[Option.some.injEq,Prod.mk.injEq]at h;obtain⟨rfl,rfl,rfl⟩:=h;obtain⟨v,c,oy,oR,iq⟩:=hR.valAt (jO hl (by simp));simp only[aB]at iq;have hv0:v=.slice none 0 0:=(iq.2 (by simp)).2.1 trivial z rfl;obtain⟨G',iw,h1,h2⟩:=hR.nilRoot (m:=m) (z:=z) ui
  have hg:=yM (s:=s) (u:=[(kR (nr+i),.root (.c (.rows z [])) m 0 .live)]) (fun k c hc=>by
   simp only[Acf,Prod.mk.injEq,Ac5,or_false]at hc;rw[hc.1];exact hkN)
  obtain⟨h3,h4,h5⟩:=Ba4 (j:=p.j) hg iw h2 oy oR (fun c hc=>by
   simp only[Acf,Prod.mk.injEq,Ac5,or_false]at hc
   exact yA oR _ hc.1) (l:=.ex (nr+i)) (by
   simp only[aB];exact⟨by rw[h1];exact hv0,eD _ _ _ (.inr ⟨.root (.c (.rows z [])) m 0 .live,by simp⟩),iq.1.1⟩)
  refine⟨⟨G',h3⟩,RI.keeps (hI.puts (Ccj i) hg fun q lE km c hc=>?_) h4,h4.nt.trans (jA _ s).2.2.2,h5⟩;simp only[Acf,Prod.mk.injEq,Ac5,or_false]at hc;have:=eZ hc.1;omega
 ·
  rename_i m r k nie x0 hf hl;split at h
  ·rename_i x1 m' v0 hk
   cases hb:(Nat.ble m m'&&Nat.beq v0 k) with
   |false=>rw[hb]at h;simp[kG]at h
   | true =>
    rw[hb,cond_true]at h;simp only[Option.some.injEq,Prod.mk.injEq]at h;obtain⟨rfl,rfl,rfl⟩:=h;simp only[Zbd,Acr,Zb8]at hb;obtain⟨hb,rfl⟩:=hb;obtain⟨v,c,oy,oR,iq⟩:=hR.valAt (jO hl (by simp));simp only[aB]at iq
    obtain⟨-,-,h0⟩:=iq.2 fun z hz=>by
     simp only[Zbp]at hz;subst hz;exact⟨x1,m',.live,hk,.inl rfl⟩
    have fm:=h0 r v0 m' rfl ⟨x1,hk⟩;obtain⟨G',iw,h1,h2⟩:=hR.moveRoot hk ui hb fm (.inl rfl)
    have hg:=yM (s:=s) (u:=[(kR r,.root (.c .hole) 0 0 .gone),(kR (nr+i),.root x0 m 0 .live)]) (fun k c hc=>by
     simp only[Acf,Prod.mk.injEq,Ac5,or_false]at hc
     rcases hc with ⟨e,-⟩|⟨e,-⟩<;>rw[e]
     ·exact Car hk
     ·exact hkN)
    obtain⟨h3,h4,h5⟩:=Ba4 (j:=p.j) hg iw h2 oy oR (fun c hc=>by
     simp only[Acf,Prod.mk.injEq,Ac5,or_false]at hc
     rcases hc with ⟨e,-⟩|⟨e,-⟩<;>exact yA oR _ e) (l:=.ex (nr+i)) (by
     simp only[aB];exact⟨h1.symm,eD _ _ _ (.inr ⟨.root x0 m 0 .live,by simp⟩),iq.1.1⟩)
    refine⟨⟨G',h3⟩,RI.keeps (hI.puts (Ccj i) hg fun q lE km c hc=>?_) h4,h4.nt.trans (jA _ s).2.2.2,h5⟩;simp only[Acf,Prod.mk.injEq,Ac5,or_false]at hc
    rcases hc with ⟨e,-⟩|⟨e,-⟩
    ·rw[<- e,hI.free q (by omega) km]at hk;cases hk
    ·have:=eZ e;omega
  ·simp[kG]at h
 ·
  rename_i hf;split at h
  ·rename_i x0 fr im
   simp only[Option.some.injEq,Prod.mk.injEq]at h;obtain⟨rfl,rfl,rfl⟩:=h;simp only[aA,Zbc,aF,Option.some.injEq,Prod.mk.injEq]at im;obtain⟨sl,h1,fr',h2,rfl,rfl⟩:=im;obtain⟨v,c,oy,oR,iq⟩:=hR.valAt (jO (k:=p.k) (j:=p.j) rfl (by intro e;rw[e]at h1;cases h1));have hs:=dX hR h1 iq;have lA:v.oneCell'=true:=iq.one (by cases fw:wS p.k p.j s<;>first|rfl|(rw[fw]at h1;cases h1));refine wB hR hI h2 oy oR fun G' ej a7=>?_
   simp only[aB];exact⟨⟨lA,by simp⟩,fun _=>⟨hs.rd.mono fun b hb=>⟨xR a7 (fun z hz=>Acx hz) hb,rfl⟩,fun e=>absurd e (by decide),trivial⟩⟩
  ·simp[kG]at h
 ·
  rename_i z hf hl;simp only[Option.some.injEq,Prod.mk.injEq]at h;obtain⟨rfl,rfl,rfl⟩:=h;obtain⟨v,c,oy,oR,iq⟩:=hR.valAt (jO hl (by simp));simp only[aB]at iq
  obtain⟨h1,h2,h3⟩:=hR.putAt oy oR (l:=.rp [] z (.c (.rows z []))) (by
   simp only[aB];exact⟨⟨by rw[iq];rfl,by simp⟩,fun _=>.inl ⟨iq,z,rfl⟩⟩)
  exact⟨⟨G,h1⟩,(hI.keeps h2).succ,h2.nt,h3⟩
 ·
  rename_i z deps z' x0 hf hl;split at h
  ·rename_i fr im
   simp only[Option.some.injEq,Prod.mk.injEq]at h;obtain⟨rfl,rfl,rfl⟩:=h;simp only[aA,Zbc]at im;obtain⟨ds,h1,h2⟩:=im;obtain⟨v,c,oy,oR,iq⟩:=hR.valAt (jO hl (by simp));simp only[aB]at iq;obtain⟨h3,h4,h5⟩:=jC h1;refine wB hR hI h2 oy oR fun G' ej a7=>?_
   simp only[aB];refine⟨⟨iq.1.1,by simp⟩,fun _=>?_⟩
   rcases iq.2 h3 with h6|⟨ad,row,h6,h7,h8⟩
   ·exact .inl h6
   ·exact .inr ⟨ad,row,h6,h7,(h8.drop hR h5).mono fun b hb=>⟨xR a7 (fun z hz=>Acx hz) hb,rfl⟩⟩
  ·simp[kG]at h
 ·
  rename_i z l z' ix hf hl;split at h
  ·rename_i x0 fr im
   simp only[Option.some.injEq,Prod.mk.injEq]at h;obtain⟨rfl,rfl,rfl⟩:=h;simp only[aA,Zbc,aF,Option.some.injEq,Prod.mk.injEq]at im;obtain⟨sl,h1,fr',h2,rfl,rfl⟩:=im;obtain⟨v,c,oy,oR,iq⟩:=hR.valAt (jO hl (by simp));simp only[aB]at iq;obtain⟨ad,n,cp,ik,iv,h3,h4,h5,h6,h7⟩:=iq;have hs:=dX hR h1 h3;obtain⟨d,bj,hd⟩:=fV aE rfl;simp only[List.map_cons,List.map_nil,h4]at bj
   have ie:∃ sz rs r,sl.x.val ρ=.rows sz rs/\sz=z'/\rs[iv.toNat]?=some r/\d=.rows z' [r]:=by
    cases hx:sl.x.val ρ with
    | rows sz rs =>
     rw[hx]at bj;simp only[aU.run]at bj;split at bj
     ·rename_i hc
      split at bj
      ·rename_i r hr
       simp only[Option.some.injEq,List.cons.injEq,and_true]at bj;exact⟨sz,rs,r,rfl,hc.1,hr,bj.symm⟩
      ·cases bj
     ·cases bj
    |_=>rw[hx]at bj;simp[aU.run]at bj
   obtain⟨sz,rs,r,hx,rfl,hr,rfl⟩:=ie;have im:=hs.rd;rw[hx]at im;obtain⟨A',b,n',c',vs,e1,e2,e3,e4,e5,e6,e7⟩:=im.inv
   injection e1 with e1 e1' e1''
   have hlt:iv.toNat<rs.length:=(List.getElem?_eq_some_iff.1 hr).1;have hA:some ad=some b:=by rw[e1];exact e4.resolve_left (by omega)
   obtain rfl:=Option.some.inj hA;have sa:r.length=sz:=e5 r (List.mem_of_getElem? hr)
   obtain⟨q1,q2,q3,q4⟩:=wB hR hI h2 oy oR (l:=.rp [] z (.v s.nv)) fun G' ej a7=>by
    simp only[aB];refine⟨⟨by rw[h7];rfl,by simp⟩,fun _=>.inr ⟨_,r,h7,by rw[hd,sa],?_⟩⟩;have pz:∀ {b:Nat},allow G sl.deps b->allow G' [] b:=fun hb=>xR a7 (fun z hz=>Acx hz) hb
    refine .rows _ (ad.add (iv.toNat*sz+0)) 1 1 r.length [r] (fun _ j=>vs iv.toNat j) rfl (Zbr _) (.inr rfl) (by simp) (fun i0 r0 n9 j d0 hj=>?_) (fun i0 r0 n9 j d0 hj=>?_)
    ·cases i0 with
     | zero =>
      simp only[Zbl,Option.some.injEq]at n9;subst n9;obtain⟨k1,k2⟩:=e6 _ _ hr j d0 hj;refine⟨by rw[add_block];exact pz k1,?_⟩;rw[add_add];rw[show iv.toNat*sz+0+(0*r.length+j)=iv.toNat*sz+j by omega];exact k2
     |succ i0=>simp at n9
    ·cases i0 with
     | zero =>
      simp only[Zbl,Option.some.injEq]at n9;subst n9;exact (e7 _ _ hr j d0 hj).mono fun b hb=>⟨pz hb,rfl⟩
     |succ i0=>simp at n9
   exact⟨q1,⟨q2.nr_,q2.free⟩,q3,rfl⟩
  ·simp[kG]at h
 ·simp only[Option.some.injEq,Prod.mk.injEq]at h
  obtain⟨rfl,rfl,rfl⟩:=h;exact⟨⟨G,hR⟩,hI.succ,rfl,rfl⟩
 ·simp only[Option.some.injEq,Prod.mk.injEq]at h
  obtain⟨rfl,rfl,rfl⟩:=h;exact⟨⟨G,hR⟩,hI.succ,rfl,rfl⟩
 ·simp[kG]at h
theorem wC:∀ {ps:List Pos} {i:Nat} {s s':St} {ls:List Step} {xs:List aL} {G:Gh},kC E nr ps i s=some (ls,s',xs)->RI nr len i s->i+ps.length=len->R E.ntmps F s.get ρ a w G->aN cf ρ none s.nv ls ->
  (∃ G',R E.ntmps F s'.get ρ a w G')/\s'.nt=s.nt/\s'.nr=s.nr/\s'.nv=s.nv+bI ls
 | [], i, s, s', ls, xs, G, h, hI, hl, hR, aE => by
  simp only[kC,Option.some.injEq,Prod.mk.injEq]at h;obtain⟨rfl,rfl,rfl⟩:=h;exact⟨⟨G,hR⟩,rfl,rfl,rfl⟩
 | p :: ps, i, s, s', ls, xs, G, h, hI, hl, hR, aE => by
  simp only[kC,bind,Zbc]at h;obtain⟨⟨l1,s1,x1⟩,h1,⟨l2,s2,xs2⟩,h2,h3⟩:=h;simp only[Option.some.injEq,Prod.mk.injEq]at h3;obtain⟨rfl,rfl,rfl⟩:=h3;simp only[Zbs]at hl;obtain⟨oB,ll⟩:=aN.append aE;obtain⟨⟨G1,se⟩,hI1,h4,h5⟩:=Pa3 h1 hI (by omega) hR oB;rw[<- h5]at ll;obtain⟨h6,h7,h8,h9⟩:=wC h2 hI1 (by omega) se ll;refine⟨h6,h7.trans h4,h8.trans (hI1.nr_.trans hI.nr_.symm),?_⟩;rw[h9,h5,fD,Nat.add_assoc]
theorem qB:∀ {ps:List Pos} {i:Nat} {s s':St} {ls:List Step} {xs:List aL},kC E nr ps i s=some (ls,s',xs)->xs.length=ps.length
 | [], i, s, s', ls, xs, h => by
  simp only[kC,Option.some.injEq,Prod.mk.injEq]at h;obtain⟨rfl,rfl,rfl⟩:=h;rfl
 | p :: ps, i, s, s', ls, xs, h => by
  simp only[kC,bind,Zbc]at h;obtain⟨⟨l1,s1,x1⟩,h1,⟨l2,s2,xs2⟩,h2,h3⟩:=h;simp only[Option.some.injEq,Prod.mk.injEq]at h3;obtain⟨rfl,rfl,rfl⟩:=h3;simp[qB h2]
theorem mQ {τ:St}:∀ {rs:List Nat} {s s':St} {G:Gh},iE τ rs s=some s'->R E.ntmps F s.get ρ a w G->∃ G',R E.ntmps F s'.get ρ a w G'
 | [], s, s', G, h, hR => by
  simp only[iE,Option.some.injEq]at h;subst h;exact⟨G,hR⟩
 | r :: rs, s, s', G, h, hR => by
  simp only[iE]at h;split at h
  ·rename_i x m v _ hk
   have eu:(dS [r]).eval s.get=some [(kR r,.root x m v .frozen)]:=by
    simp only[dS,aA,aT,Zbj];rw[hk];rfl
   obtain⟨G',iw,-,-,-⟩:=hR.freeze eu;have hg:(s.puts [(kR r,.root x m v .frozen)]).get=upds s.get [(kR r,.root x m v .frozen)]:=yM (Ia2 eu);rw[<- hg]at iw;exact mQ h iw
  ·exact mQ h hR
theorem Ia1 {s:St}(h:nI s.tr s.nr len=true):RI s.nr len 0 { s with nr:=s.nr+len }:=by
 refine⟨rfl,fun j _ hj=>?_⟩;unfold St.get;dsimp only;rw[yU h (s.nr+j) (by omega) (by omega)];cases vJ s.nt s.nb (s.nr+len) (kR (s.nr+j))<;>rfl
theorem Va9 {s:St}(h:nI s.tr s.nr len=true):({ s with nr:=s.nr+len }:St).get=s.get:=by
 funext k;unfold St.get;dsimp only;unfold vJ
 cases b0:Nat.beq (k % 3) 0 with
 |true=>rfl
 | false =>
  rw[cond_false,cond_false]
  cases b1:Nat.beq (k % 3) 1 with
  |true=>rfl
  | false =>
   rw[cond_false,cond_false];have n0:k % 3≠0:=fun e=>by rw[e]at b0;cases b0
   have n1:k % 3≠1:=fun e=>by rw[e]at b1;cases b1
   cases hb:Acw (k / 3) s.nr with
   | true =>
    have:Acw (k / 3) (s.nr+len)=true:=by simp only[Ach]at hb ⊢;omega
    rw[this]
   | false =>
    cases di:Acw (k / 3) (s.nr+len) with
    |false=>rfl
    | true =>
     simp only[Ach]at di
     have mj:s.nr<=k / 3:=by
      rcases Zbz (k / 3) s.nr with h1|h1
      ·rw[<- Ach,hb]at h1;cases h1
      ·exact h1
     have:k=kR (k / 3):=by unfold kR;omega
     rw[cond_true,cond_false,this];exact yU h _ mj di
theorem Tay {s0:St}{b9:Nat}{a8:List Pos}{τ:St}{kind:Kind}{r:Tm St}(h:Jap E s0.nv s0.nr b9 a8 τ kind s=some r)(lB:Aag E s0 b9 a8.length τ){ρ0 e:List D}(hρ:ρ=ρ0++e)(h0:ρ0.length=s0.nv)
  {o:Out St} (ho:Ec cf r ρ=some o) (hl:ρ.length=s.nv) (hi:Dan E s) :
  o.kind=kind/\o.vals.length=a8.length/\∀ a w G,R E.ntmps F s.get ρ a w G->∃ G',R E.ntmps F τ.get (ρ0++o.vals) a w G':=by
 unfold Jap at h;simp only[bind,Zbc]at h;obtain⟨⟨ls,s1,xs⟩,h1,s2,h2,h3⟩:=h;dsimp only at h1 h2 h3;generalize hb:(nE E s0.nv xs s0.nr b9 s.nr a8.length τ s2&&nI s.tr s.nr a8.length&&Nat.ble s0.nr s.nr&&eP s.nv ls&&xs.all (bB (s.nv+bI ls)))=b at h3
 cases b with
 |false=>simp[kG]at h3
 | true =>
  rw[cond_true]at h3;obtain rfl:=Option.some.inj h3;simp only[Zbd,Acr]at hb;obtain⟨⟨⟨⟨qc,gR⟩,tq⟩,hb4⟩,hb5⟩:=hb;obtain⟨ds,h4,h5,h6⟩:=vQ (g:=none) rfl (by rw[hl];exact hb4) ho;rw[fU]at h5;obtain rfl:=Option.some.inj h5;refine⟨rfl,by simp[Out.vals,qB h1],fun a w G hR=>?_⟩;have h6':=h6 [];rw[Zb4,hl]at h6'
  have se:R E.ntmps F ({ s with nr:=s.nr+a8.length }:St).get (ρ++ds) a w G:=by
   rw[Va9 gR];exact hR.ext hi.sc (by omega) ds
  obtain⟨⟨G1,ze⟩,h7,h8,h9⟩:=wC (cf:=cf) h1 (Ia1 gR) (by simp) se h6';obtain⟨G2,hR3⟩:=mQ h2 ze;subst hρ;rw[Zbm]at hR3;have:=hR3.fit h0 (qB h1) lB qc tq;rw[Zbm];exact this
end
theorem rJ (b c k:Nat):lH b c (lH b c k)=k:=by
 unfold lH
 cases h1:Nat.beq k b with
 | true =>
  simp only[Zb8]at h1;subst h1;rw[cond_true]
  cases h2:Nat.beq c k with
  |true=>simp only[Zb8]at h2;rw[cond_true];exact h2
  |false=>rw[cond_false,show Nat.beq c c=true by simp,cond_true]
 | false =>
  rw[cond_false]
  cases h2:Nat.beq k c with
  | true =>
   simp only[Zb8]at h2;subst h2;rw[cond_true,show Nat.beq b b=true by simp,cond_true]
  |false=>rw[cond_false,h1,h2,cond_false,cond_false]
theorem Oa8 {b c k K:Nat}(hk:k<K)(hb:K<=b)(hc:K<=c):lH b c k=k:=by
 unfold lH
 have h1:Nat.beq k b=false:=by cases h:Nat.beq k b with
  |false=>rfl
  |true=>simp only[Zb8]at h;omega
 have h2:Nat.beq k c=false:=by cases h:Nat.beq k c with
  |false=>rfl
  |true=>simp only[Zb8]at h;omega
 rw[h1,h2];rfl
theorem Fbi {b c k n:Nat}(hb:b<n)(hc:c<n):lH b c k<n↔k<n:=by
 unfold lH
 cases h1:Nat.beq k b with
 |true=>simp only[Zb8]at h1;rw[cond_true];omega
 | false =>
  rw[cond_false]
  cases h2:Nat.beq k c with
  |true=>simp only[Zb8]at h2;rw[cond_true];omega
  |false=>rw[cond_false]
def swS (b c:Nat)(σ:Nat->Option aS):Nat->Option aS:=fun k=>(σ (mM b c k)).map (nP b c)
def swO (b c:Nat):Ow->Ow
 |.box j=>.box (lH b c j)
 |o=>o
def swG (b c:Nat)(G:Gh):Gh:=⟨fun x=>swO b c (G.own x),G.hdr,fun j=>G.bx (lH b c j)⟩
theorem Caq (b c r:Nat):mM b c (kR r)=kR r:=by
 unfold mM;rw[show Nat.beq (kR r % 3) 1=false by unfold kR;rw[show (3*r+2) % 3=2 by omega];rfl];rfl
theorem Qak (b c j:Nat):mM b c (kB j)=kB (lH b c j):=by
 unfold mM;have e1:kB j % 3=1:=by unfold kB;omega
 have e2:kB j / 3=j:=by unfold kB;omega
 rw[e1,e2];rfl
theorem Maw {b c:Nat}{o:Ow}:swO b c o=.frz↔o=.frz:=by cases o<;>simp[swO]
theorem Mav {b c:Nat}{o:Ow}{r:Nat}{p:List Nat}:swO b c o=.slc r p↔o=.slc r p:=by cases o<;>simp[swO]
theorem Na8 {b c:Nat}{y:aS}{x:aL}{m v:Nat}{st:RSt}:nP b c y=.root x m v st↔y=.root x m v st:=by cases y<;>simp[nP]
theorem Mau {b c:Nat}{σ:Nat->Option aS}{r:Nat}{x:aL}{m v:Nat}{st:RSt}:swS b c σ (kR r)=some (.root x m v st)↔σ (kR r)=some (.root x m v st):=by
 unfold swS;rw[Caq]
 cases σ (kR r) with
 |none=>simp
 |some y=>simp only[Acm,Option.some.injEq];exact Na8
theorem Gam {b c:Nat}{σ:Nat->Option aS}{k:Nat}:(swS b c σ k).isSome=(σ (mM b c k)).isSome:=by
 unfold swS;cases σ (mM b c k)<;>rfl
section
variable {b c:Nat} {σ:Nat->Option aS} {ρ:List D} {G:Gh} {w:World}
theorem Uao {r k:Nat}:mE (swS b c σ) r k↔mE σ r k:=by
 unfold mE;simp only[Mau]
theorem Uap {r k:Nat}:jG (swS b c σ) r k↔jG σ r k:=by
 unfold jG;simp only[Mau]
theorem Sak {r k m:Nat}:zF (swS b c σ) r k m↔zF σ r k m:=by
 unfold zF;simp only[Mau]
theorem Uaq {deps:List (Nat×Nat)}{x:Nat}(h:allow G deps x):allow (swG b c G) deps x:=by
 rcases h with h|⟨r,k,p,hm,h⟩
 ·exact .inl (Maw.2 h)
 ·exact .inr ⟨r,k,p,hm,Mav.2 h⟩
theorem Ib1 {r:Nat}{p:List Nat}{m:Nat}{v:Value}{d:D}(h:Rp G.own w r p m v d):Rp (swG b c G).own w r p m v d:=by
 have:=h.mono (own':=(swG b c G).own) (w':=w) (r':=r) (q:=[]) (q':=[]) (fun x hx=>⟨Maw.2 hx,rfl⟩) p rfl (fun x t hx=>⟨Mav.2 hx,rfl⟩);simpa using this
theorem Ib2 {r:Nat}{q p:List Nat}{v u:Value}(h:zN G.own w r q v p u):zN (swG b c G).own w r q v p u :=
 zN.mono p q q v u (fun x t hx=>⟨Mav.2 hx,rfl⟩) h
theorem Lbj {deps:List (Nat×Nat)}{v:Value}{d:D}{p:Pth}(h:Dam σ ρ G w deps v d p):Dam (swS b c σ) ρ (swG b c G) w deps v d p:=by
 cases p with
 |no=>trivial
 |view=>exact fun r k m e hl=>Ib1 (h r k m e (Sak.1 hl))
 |suf sz lo=>exact fun r k m e hl=>h r k m e (Sak.1 hl)
 | path p =>
  intro r k m e hl;obtain⟨h1,h2,h3⟩:=h r k m e (Sak.1 hl);exact⟨h1,Ib1 h2,Ib2 h3⟩
mutual
theorem Mat:∀ (l:aR) (v:Value),aB σ ρ G w l v->aB (swS b c σ) ρ (swG b c G) w (l.swap b c) v
 |.dead,_,hl=>by simpa[aB,aR.swap] using hl
 |.sc x,v,hl=>by simpa[aB,aR.swap] using hl
 |.su g x,v,hl=>by simpa[aB,aR.swap] using hl
 | .ex r, v, hl => by
  simp only[aB,aR.swap]at hl ⊢;exact⟨hl.1,by rw[Gam,Caq];exact hl.2.1,hl.2.2⟩
 | .sn deps p nie x, v, hl => by
  simp only[aB,aR.swap]at hl ⊢;refine⟨⟨hl.1.1,fun z hz=>Uap.2 (hl.1.2 z hz)⟩,fun hv=>?_⟩;obtain⟨h1,h2,h3⟩:=hl.2 (fun z hz=>Uao.1 (hv z hz));exact⟨h1.mono fun x hx=>⟨Uaq hx,rfl⟩,h2,Lbj h3⟩
 | .px k off, v, hl => by
  simp only[aB,aR.swap]at hl ⊢;refine⟨?_,?_⟩
  ·show v=.pointer (some ((G.bx (lH b c (lH b c k))).add off))
   rw[rJ];exact hl.1
  ·rw[Gam,Qak,rJ];exact hl.2
 | .pe l sz i off, v, hl => by
  simp only[aB,aR.swap]at hl ⊢;obtain⟨a,n,c',k,iv,h1,h2⟩:=hl;exact⟨a,n,c',k,iv,Mat l _ h1,h2⟩
 | .rp deps sz x, v, hl => by
  simp only[aB,aR.swap]at hl ⊢;refine⟨⟨hl.1.1,fun z hz=>Uap.2 (hl.1.2 z hz)⟩,fun hv=>?_⟩
  rcases hl.2 (fun z hz=>Uao.1 (hv z hz)) with h1|⟨a,row,h1,h2,h3⟩
  ·exact .inl h1
  ·exact .inr ⟨a,row,h1,h2,h3.mono fun x hx=>⟨Uaq hx,rfl⟩⟩
 |.pn,v,hl=>by simpa[aB,aR.swap] using hl
 | .clo f fu, v, hl => by
  simp only[aB,aR.swap]at hl ⊢;obtain⟨vs,h1,h2⟩:=hl;exact⟨vs,h1,Bak fu vs h2⟩
theorem Bak:∀ (ls:List aR) (vs:List Value),aG σ ρ G w ls vs->aG (swS b c σ) ρ (swG b c G) w (bX b c ls) vs
 |[],vs,hl=>by simpa[aG,bX] using hl
 | l :: ls, vs, hl => by
  simp only[aG,bX]at hl ⊢;obtain⟨u,us,e,h1,h2⟩:=hl;exact⟨u,us,e,Mat l u h1,Bak ls us h2⟩
end
theorem Hb7:∀ (ts:List (Bool×List aR)) (us:List Value),iP σ ρ G w ts us->iP (swS b c σ) ρ (swG b c G) w (ts.map fun t=>(t.1,bX b c t.2)) us
 |[],_,ht=>ht
 | (a, ls) :: r, us, ht => by
  obtain⟨u,cW,vs,e,h1,h2,h3⟩:=ht;exact⟨u,cW,vs,e,Bak ls vs h1,h2,Hb7 r cW h3⟩
theorem Rb8 {v:SV}{u:Value}(hv:cB σ ρ G w v u):cB (swS b c σ) ρ (swG b c G) w (Ya6 b c v) u:=by
 cases v with
 |dead=>trivial
 |one l=>exact Mat l u hv
 |agg ls=>obtain⟨vs,e,h1⟩:=hv;exact⟨vs,e,Bak ls vs h1⟩
 |tup ts=>obtain⟨us,e,h1⟩:=hv;exact⟨us,e,Hb7 ts us h1⟩
theorem Cag:∀ (ls:List aR) (j:Nat),(bX b c ls)[j]?=(ls[j]?).map (aR.swap b c)
 |[],j=>by simp[bX]
 |l::ls,0=>by simp[bX]
 |l::ls,j+1=>by simp[bX,Cag ls j]
theorem zX:∀ (ls:List aR),(bX b c ls).length=ls.length
 |[]=>rfl
 |l::ls=>by simp[bX,zX ls]
end
def Ea0 (F:bH)(K:Nat):Prop:=∀ x j,x<F.w0.heap.size->F.own0 x=.box j->j<K
theorem R.swap {n:Nat}{F:bH}{σ:Nat->Option aS}{ρ:List D}{a:Act}{w:World}{G:Gh}(h:R n F σ ρ a w G){K:Nat}(hF:Ea0 F K){b c:Nat}(hb:K<=b)(hc:K<=c):R n F (swS b c σ) ρ a w (swG b c G):=by
 refine⟨h.tmps,h.defers,fun k y hk=>?_,⟨h.frame.os,h.frame.tape,h.frame.output,h.frame.size,fun x hx ho=>?_,fun x j hx ho=>?_,fun x hx=>Maw.2 (h.frame.fresh x hx)⟩,fun j ls hk hx ho=>?_⟩
 ·unfold swS at hk
  rw[Zbo]at hk;obtain⟨z,hz,rfl⟩:=hk;have hr:=h.cont _ _ hz
  cases z with
  | slot g v =>
   obtain⟨t,e,h1⟩:=hr
   have ek:k=kT t:=by
    unfold mM at e
    cases hm:Nat.beq (k % 3) 1 with
    |true=>rw[hm,cond_true]at e;exact absurd e.symm lT
    |false=>rw[hm,cond_false]at e;exact e
   exact⟨t,ek,fun hg=>Rb8 (h1 hg)⟩
  | box ro ls =>
   obtain⟨j,e,h1,h2,h3⟩:=hr
   have ek:k=kB (lH b c j):=by
    unfold mM at e
    cases hm:Nat.beq (k % 3) 1 with
    | true =>
     rw[hm,cond_true]at e;simp only[Zb8]at hm;have:=Cas e;rw[<- this,rJ];unfold kB;omega
    | false =>
     rw[hm,cond_false]at e;rw[e]at hm;have:kB j % 3=1:=by unfold kB;omega
     rw[this]at hm;cases hm
   refine⟨lH b c j,ek,?_,?_,fun i l hl=>?_⟩
   ·show (G.bx (lH b c (lH b c j))).spot=none
    rw[rJ];exact h1
   ·show swO b c (G.own (G.bx (lH b c (lH b c j))).block)=_
    rw[rJ,h2];cases ro<;>rfl
   ·rw[Cag,Zbo]at hl
    obtain⟨l0,nx,rfl⟩:=hl;obtain⟨v,h4,h5,h6⟩:=h3 i l0 nx;show ∃ v,w.cell? ((G.bx (lH b c (lH b c j))).add i)=some v/\w.frozen? ((G.bx (lH b c (lH b c j))).add i)=false/\_
    rw[rJ];exact⟨v,h4,h5,Mat l0 v h6⟩
  | root x m bc st =>
   obtain⟨r,e,h1,h2⟩:=hr
   have ek:k=kR r:=by
    unfold mM at e
    cases hm:Nat.beq (k % 3) 1 with
    |true=>rw[hm,cond_true]at e;exact absurd e fE
    |false=>rw[hm,cond_false]at e;exact e
   refine⟨r,ek,by rw[Gam,Caq];exact h1,?_⟩
   cases st with
   |live=>exact Ib1 h2
   |frozen=>exact⟨h2.1.mono fun x hx=>⟨Maw.2 hx,rfl⟩,fun x p hx=>h2.2 x p (Mav.1 hx)⟩
   |gone=>trivial
   |fwd r'=>exact⟨h2.1,by rw[Gam,Caq];exact h2.2⟩
 ·obtain⟨h1,h2⟩:=h.frame.keep x hx ho
  refine⟨h1,?_⟩;show swO b c (G.own x)=_
  rw[h2]
  rcases ho with ho|ho<;>rw[ho]<;>rfl
 ·obtain⟨h1,h2⟩:=h.frame.boxes x j hx ho
  refine⟨?_,h2⟩;show swO b c (G.own x)=_
  rw[h1];show Ow.box (lH b c j)=_
  rw[Oa8 (hF x j hx ho) hb hc]
 ·have hj:=hF _ j hx ho
  have e:=Oa8 hj hb hc
  have kb:σ (kB j)=some (.box false ls)\/∃ l0,σ (kB j)=some (.box false l0)/\l0.length=ls.length:=by
   unfold swS at hk;rw[Qak,e,Zbo]at hk;obtain⟨z,hz,hs⟩:=hk
   cases z with
   |slot=>simp[nP]at hs
   |root=>simp[nP]at hs
   | box ro l0 =>
    simp only[nP,aS.box.injEq]at hs;obtain⟨rfl,rfl⟩:=hs;exact .inr ⟨l0,hz,(zX l0).symm⟩
  have e2:(swG b c G).bx j=G.bx j:=by show G.bx (lH b c j)=_;rw[e]
  rw[e2]at hx ho ⊢
  rcases kb with kb|⟨l0,kb,hl⟩
  ·exact h.rng j ls kb hx ho
  ·rw[<- hl];exact h.rng j l0 kb hx ho
theorem Lai {f:Nat->Option aS}:∀ (L:List Nat) (t:Tr aS) (k:Nat),(Pa4 f L t).get k=if k∈L then f k else t.get k
 |[],t,k=>by simp[Pa4]
 | x :: L, t, k => by
  rw[Pa4,Lai L _ k];by_cases h:k∈L
  ·rw[if_pos h,if_pos (Zbn _ h)]
  ·rw[if_neg h,Tr.get_set]
   by_cases e:k=x
   ·subst e;rw[if_pos rfl,if_pos Zbu]
   ·rw[if_neg e,if_neg (by simp only[Acf,not_or];exact⟨e,h⟩)]
theorem Obd {nt nb nr k:Nat}:k∈(range 0 nt).map kT++(range 0 nb).map kB++(range 0 nr).map kR↔vJ nt nb nr k=true:=by
 unfold vJ;simp only[List.mem_append,List.mem_map,mem_range];constructor
 ·rintro ((⟨x,hx,rfl⟩|⟨x,hx,rfl⟩)|⟨x,hx,rfl⟩)
  ·rw[show kT x % 3=0 by unfold kT;omega,show kT x / 3=x by unfold kT;omega];simpa using hx.2
  ·rw[show kB x % 3=1 by unfold kB;omega,show kB x / 3=x by unfold kB;omega];simpa using hx.2
  ·rw[show kR x % 3=2 by unfold kR;omega,show kR x / 3=x by unfold kR;omega];simpa using hx.2
 ·have a71:k % 3=0\/k % 3=1\/k % 3=2:=by omega
  rcases a71 with h|h|h<;>rw[h]<;>intro hk
  ·have kb:k / 3<nt:=by simpa using hk
   exact .inl (.inl ⟨k / 3,⟨Bca _,by omega⟩,by unfold kT;omega⟩)
  ·have kb:k / 3<nb:=by simpa using hk
   exact .inl (.inr ⟨k / 3,⟨Bca _,by omega⟩,by unfold kB;omega⟩)
  ·have kb:k / 3<nr:=by simpa using hk
   exact .inr ⟨k / 3,⟨Bca _,by omega⟩,by unfold kR;omega⟩
theorem Xap {nt nb nr b c k:Nat}(hb:b<nb)(hc:c<nb):vJ nt nb nr (mM b c k)=vJ nt nb nr k:=by
 unfold mM
 cases h:Nat.beq (k % 3) 1 with
 |false=>rfl
 | true =>
  rw[cond_true];simp only[Zb8]at h;unfold vJ;rw[show kB (lH b c (k / 3)) % 3=1 by unfold kB;omega,show kB (lH b c (k / 3)) / 3=lH b c (k / 3) by unfold kB;omega,h];show Acw _ _=Acw _ _
  have:=Fbi (k:=k / 3) hb hc;cases h1:Acw (lH b c (k / 3)) nb<;>cases h2:Acw (k / 3) nb<;>first|rfl|skip
  ·simp only[Ach]at h2
   have:=this.2 h2;rw[<- Ach,h1]at this;cases this
  ·simp only[Ach]at h1
   have:=this.1 h1;rw[<- Ach,h2]at this;cases this
theorem Uan {s:St}{b c:Nat}(hb:b<s.nb)(hc:c<s.nb):(s.swap b c).get=swS b c s.get:=by
 funext k;have e0:(s.swap b c).get k=bif vJ s.nt s.nb s.nr k then (s.swap b c).tr.get k else none:=rfl;have e1:(s.swap b c).tr.get k=if k∈(range 0 s.nt).map kT++(range 0 s.nb).map kB++(range 0 s.nr).map kR then swS b c s.get k else s.tr.get k:=Lai _ _ k
 rw[e0,e1]
 cases h:vJ s.nt s.nb s.nr k with
 |true=>rw[cond_true,if_pos (Obd.2 h)]
 | false =>
  rw[cond_false];unfold swS St.get;rw[Xap hb hc,h];rfl
theorem Laz {b c N:Nat}:∀ l:aR,(l.swap b c).inScope N=l.inScope N:=by
 intro l
 induction l using aR.rec (motive_2:=fun ls=>bF N (bX b c ls)=bF N ls) with
 |dead=>rfl
 |sc=>rfl
 |su=>rfl
 |ex=>rfl
 |sn=>rfl
 |px=>rfl
 |pe l sz i off ih=>simp only[aR.swap,aR.inScope,ih]
 |rp=>rfl
 |pn=>rfl
 |clo f fu ih=>simp only[aR.swap,aR.inScope,ih]
 |nil=>rfl
 |cons l ls h1 h2=>simp only[bX,bF,h1,h2]
theorem qE {b c N:Nat}:∀ ls:List aR,bF N (bX b c ls)=bF N ls
 |[]=>rfl
 |l::ls=>by simp only[bX,bF,Laz,qE ls]
theorem Yak {b c N:Nat}(y:aS):bY N (nP b c y)=bY N y:=by
 cases y with
 | slot g v =>
  simp only[nP,bY];congr 1
  cases v with
  |dead=>rfl
  |one l=>exact Laz l
  |agg ls=>exact qE ls
  | tup ts =>
   simp only[Ya6,yE,List.all_map];congr 1;funext t;exact qE t.2
 |box ro ls=>exact qE ls
 |root=>rfl
theorem Dan.swap {E:Env}{s:St}(h:Dan E s){b c:Nat}(hb:b<s.nb)(hc:c<s.nb):Dan E (s.swap b c):=by
 refine⟨h.nt,?_⟩;rw[Uan hb hc];intro k y hk;unfold swS at hk;rw[Zbo]at hk;obtain⟨z,hz,rfl⟩:=hk;rw[Yak];exact h.sc _ _ hz
theorem yO {E:Env}{F:bH}(hF:Ea0 F E.nbx){τ:St}:∀ (ts:List Nat) (s:St),Dan E s->Dan E (Sa6 E τ ts s)/\(Sa6 E τ ts s).nv=s.nv/\∀ {ρ:List D} {a:Act} {w:World} {G:Gh},R E.ntmps F s.get ρ a w G->∃ G',R E.ntmps F (Sa6 E τ ts s).get ρ a w G'
 |[],s,hi=>⟨hi,rfl,fun hR=>⟨_,hR⟩⟩
 | t :: ts, s, hi => by
  unfold Sa6;split
  ·rename_i b c _ _
   cases hg:(!(Nat.beq b c)&&Nat.ble E.nbx b&&Nat.ble E.nbx c&&Acw b s.nb&&Acw c s.nb) with
   |false=>rw[cond_false];exact yO hF ts s hi
   | true =>
    rw[cond_true];simp only[Zbd,Acr,Ach]at hg;obtain⟨⟨⟨⟨-,h1⟩,h2⟩,h3⟩,h4⟩:=hg;obtain⟨k1,k2,k3⟩:=yO hF ts (s.swap b c) (hi.swap h3 h4);refine⟨k1,k2,fun hR=>?_⟩;have:=hR.swap hF h1 h2;rw[<- Uan h3 h4]at this;exact k3 this
  ·exact yO hF ts s hi
section
variable {E:Env} {F:bH} {cf:Nat->List D->Option (List D)} {ρ:List D} {s:St}
theorem Mab (hF:Ea0 F E.nbx){s0:St}{b9:Nat}{a8:List Pos}{τ:St}{kind:Kind}{r:Tm St}(h:coerce E s0.nv s0.nr b9 a8 τ kind s=some r)(lB:Aag E s0 b9 a8.length τ){ρ0 e:List D}(hρ:ρ=ρ0++e)(h0:ρ0.length=s0.nv)
  {o:Out St} (ho:Ec cf r ρ=some o) (hl:ρ.length=s.nv) (hi:Dan E s) :
  o.kind=kind/\o.vals.length=a8.length/\∀ a w G,R E.ntmps F s.get ρ a w G->∃ G',R E.ntmps F τ.get (ρ0++o.vals) a w G':=by
 obtain⟨h1,h2,h3⟩:=yO hF (τ:=τ) E.pxs s hi;obtain⟨h4,h5,h6⟩:=Tay (F:=F) h lB hρ h0 ho (hl.trans h2.symm) h1;refine⟨h4,h5,fun a w G hR=>?_⟩;obtain⟨G',iw⟩:=h3 hR;exact h6 a w G' iw
end
def Bbl:Kind->Exit
 |.fall=>.normal
 |.exit id=>.exit id
 |.ret=>.ret
 |_=>.outgrown
def Sbg:Kind->Prop
 |.cont=>False
 |.yield _=>False
 |_=>True
structure Post (E:Env) (ρ:List D) (o:Out St):Prop where
 nice:Sbg o.kind
 len:o.env.length=o.ext.nv
 inv:Dan E o.ext
 pre:∃ ds,o.env=ρ++ds
def Wp (P:Program)(E:Env)(F:bH)(c:Code)(s:St)(ρ:List D)(o:Out St):Prop :=
 ∀ a w G Q,R E.ntmps F s.get ρ a w G->(∀ a' w' G',R E.ntmps F o.ext.get o.env a' w' G'->Q (Bbl o.kind) a' w')->c.wp P Q a w
theorem Post.trans {E:Env}{ρ ds:List D}{o:Out St}(h:Post E (ρ++ds) o):Post E ρ o:=by
 obtain⟨es,h1⟩:=h.pre;exact⟨h.nice,h.len,h.inv,ds++es,by rw[h1,Zbm]⟩
theorem Maf {k:Kind}:pM k=true↔k=.fall:=by cases k<;>simp[pM]
section
variable {P:Program} {E:Env} {F:bH} {cf:Nat->List D->Option (List D)} {ρ:List D}
theorem mG {g:Option (aL×Bool)}{kind:Kind}{xs:List aL}{s:St}:∀ {ls:List Step} {ρ:List D} {o:Out St},Ec cf (oD g (.leaf kind xs s) ls) ρ=some o->o.kind=kind
 | [], ρ, o, h => by
  rw[oD,fU]at h;obtain rfl:=Option.some.inj h;rfl
 | .prim p ys n :: r, ρ, o, h => by
  rw[oD,Oam]at h;split at h
  ·simp only[Zbc]at h
   obtain⟨ds,-,h⟩:=h;split at h
   ·exact mG h
   ·cases h
  ·exact mG h
 | .call f ys n olds :: r, ρ, o, h => by
  rw[oD,uR]at h;split at h
  ·simp only[Zbc]at h
   obtain⟨ds,-,h⟩:=h;split at h
   ·exact mG h
   ·cases h
  ·exact mG h
theorem Ras {n eK b9:Nat}{a8:List Pos}{τ s:St}{kind:Kind}{r:Tm St}(h:Jap E n eK b9 a8 τ kind s=some r){ρ:List D}{o:Out St}(ho:Ec cf r ρ=some o):o.kind=kind:=by
 unfold Jap at h;simp only[bind,Zbc]at h;obtain⟨⟨ls,s1,xs⟩,h1,s2,h2,h3⟩:=h;dsimp only at h3
 revert h3
 generalize (nE E n xs eK b9 s.nr a8.length τ s2&&nI s.tr s.nr a8.length&&Nat.ble eK s.nr&&eP s.nv ls&&xs.all (bB (s.nv+bI ls)))=b;intro h3
 cases b with
 |false=>simp[kG]at h3
 | true =>
  rw[cond_true]at h3;obtain rfl:=Option.some.inj h3;exact mG ho
theorem Jao {n eK b9:Nat}{a8:List Pos}{τ s:St}{kind:Kind}{r:Tm St}(h:coerce E n eK b9 a8 τ kind s=some r){ρ:List D}{o:Out St}(ho:Ec cf r ρ=some o):o.kind=kind:=Ras h ho
theorem Gbd {live:Nat}{s0:St}{i:Nat}{jm:Kind->Bool}{ends:List St}{t t':Tm St}{τ:St}(h:join E live s0 i jm ends t=some (t',τ)) :
  ∃ a8 fS,Aag E s0 fS a8.length τ/\t.turn (.yield i) jm (coerce E s0.nv s0.nr fS a8 τ (.yield i))=some t':=by
 unfold join at h;dsimp only at h
 revert h
 generalize hb:Ea3 E s0 _ _ _=b;intro h
 cases b with
 |false=>simp[kG]at h
 | true =>
  rw[cond_true,Zbo]at h;obtain⟨t1,h1,h2⟩:=h;obtain⟨rfl,rfl⟩:=Prod.mk.inj h2;exact⟨_,_,Aak hb,h1⟩
theorem Abt (hF:Ea0 F E.nbx){live:Nat}{s0:St}{i:Nat}{jm:Kind->Bool}{ends:List St}{t t' k:Tm St}{τ:St}(h:join E live s0 i jm ends t=some (t',τ))(hc:jm .cont=false)(hy:∀ i,jm (.yield i)=false)
  {o:Out St} (ho:Ec cf (.bind i t' k) ρ=some o) (hl:ρ.length=s0.nv) (hP:∀ o1,Ec cf t ρ=some o1->Post E ρ o1) :
  ∃ o1,Ec cf t ρ=some o1/\((jm o1.kind=true/\∃ vals,Ec cf k (ρ++vals)=some o/\(ρ++vals).length=τ.nv/\Dan E τ/\∀ a w G,R E.ntmps F o1.ext.get o1.env a w G->∃ G',R E.ntmps F τ.get (ρ++vals) a w G')\/(jm o1.kind=false/\o=o1)):=by
 obtain⟨a8,fS,lB,ht⟩:=Gbd h;simp only[rF,Zbc]at ho;obtain⟨o',h1,h2⟩:=ho;obtain⟨o1,h3,h4⟩:=lI (fun s r hr ρ o ho=>Jao hr ho) hc hy ht h1;refine⟨o1,h3,?_⟩;have hp:=hP o1 h3
 rcases h4 with ⟨h5,h6,r,h7,h8⟩|⟨h5,h6⟩
 ·refine .inl ⟨h5,?_⟩
  rw[if_pos h6]at h2;obtain⟨ds,h9⟩:=hp.pre;obtain⟨cL,ef,fW⟩:=Mab hF h7 lB h9 hl h8 hp.len hp.inv;exact⟨o'.vals,h2,by rw[Zbi,hl,ef,lB.nv],⟨lB.nt1,lB.inScope⟩,fW⟩
 ·refine .inr ⟨h5,?_⟩
  subst h6
  have:o'.kind≠.yield i:=fun e=>by
   have:=hp.nice;rw[e]at this;exact this
  rw[if_neg this]at h2;exact (Option.some.inj h2).symm
theorem Iae {live:Nat}{s:St}{body:St->Option (Tm St)}:∀ {fuel:Nat} {a8:List Pos} {keys:List Nat} {fS:Nat} {seen:List St} {t:Tm St},Iaf E live s body fuel a8 keys fS seen=some t ->
  ∃ a8 fS τ tb p6 xs s1 s2,body τ=some tb/\Aag E s fS a8.length τ/\kC E s.nr a8 0 { s with nr:=s.nr+a8.length }=some ([],s1,xs)/\iE τ (range 0 s.nr) s1=some s2 /\
   nE E s.nv xs s.nr fS s.nr a8.length τ s2=true/\nI s.tr s.nr a8.length=true/\tb.turn .cont pM (coerce E s.nv s.nr fS a8 τ .cont)=some p6/\t=.loop xs p6
 |0,_,_,_,_,t,h=>by simp[Iaf,kG]at h
 | fuel + 1, a8, keys, fS, seen, t, h => by
  simp only[Iaf]at h;split at h
  ·cases h
  ·rename_i tb hb
   revert h
   generalize hc:(Sa5 a8 _&&_&&_)=b;intro h
   cases b with
   | false =>
    rw[cond_false]at h;exact Iae h
   | true =>
    rw[cond_true]at h;simp only[bind,Zbc]at h;obtain⟨⟨pre,s1,xs⟩,h1,s2,h2,h3⟩:=h;dsimp only at h1 h2 h3
    revert h3
    generalize hd:(nE E s.nv xs s.nr fS s.nr a8.length _ s2&&nI s.tr s.nr a8.length&&pre.isEmpty&&Ea3 E s fS a8.length _)=b;intro h3
    cases b with
    |false=>simp[kG]at h3
    | true =>
     rw[cond_true]at h3;simp only[Zbc,Option.some.injEq]at h3;obtain⟨p6,h4,h5⟩:=h3;simp only[Zbd,Ccp]at hd;obtain⟨⟨⟨fy,qg⟩,rfl⟩,hd4⟩:=hd;exact⟨a8,fS,_,tb,p6,xs,s1,s2,hb,Aak hd4,h1,h2,fy,qg,h4,h5.symm⟩
theorem Qaf {s:St}{body:St->Option (Tm St)}{H:List (Nat×Nat×Nat×Nat)×List Nat×Nat×List Nat}{t:Tm St}(h:Naj E s body H=some t) :
  ∃ a8 fS τ tb p6 xs s1 s2,body τ=some tb/\Aag E s fS a8.length τ/\kC E s.nr a8 0 { s with nr:=s.nr+a8.length }=some ([],s1,xs)/\iE τ (range 0 s.nr) s1=some s2 /\
   nE E s.nv xs s.nr fS s.nr a8.length τ s2=true/\nI s.tr s.nr a8.length=true/\tb.turn .cont pM (coerce E s.nv s.nr fS a8 τ .cont)=some p6/\t=.loop xs p6:=by
 unfold Naj at h
 revert h
 generalize (H.1.map fun p=>(⟨p.1,p.2.1,Obi p.2.2.1 p.2.2.2⟩:Pos))=a8;generalize s.nr+H.2.2.1=fS;intro h;dsimp only at h;split at h
 ·cases h
 ·rename_i tb hb
  simp only[bind,Zbc]at h;obtain⟨⟨pre,s1,xs⟩,h1,s2,h2,h3⟩:=h;dsimp only at h1 h2 h3
  revert h3
  generalize hd:(nE E s.nv xs s.nr fS s.nr a8.length _ s2&&nI s.tr s.nr a8.length&&pre.isEmpty&&Ea3 E s fS a8.length _)=b;intro h3
  cases b with
  |false=>simp[kG]at h3
  | true =>
   rw[cond_true]at h3;simp only[Zbc,Option.some.injEq]at h3;obtain⟨p6,h4,h5⟩:=h3;simp only[Zbd,Ccp]at hd;obtain⟨⟨⟨fy,qg⟩,rfl⟩,hd4⟩:=hd;exact⟨a8,fS,_,tb,p6,xs,s1,s2,hb,Aak hd4,h1,h2,fy,qg,h4,h5.symm⟩
theorem least {p:Nat->Prop}(h:∃ n,p n):∃ n,p n/\∀ m,p m->n<=m:=by
 obtain⟨n,hn⟩:=h
 induction n using Nat.strongRecOn with
 | _ n ih =>
  by_cases h:∃ m,m<n/\p m
  ·obtain⟨m,h1,h2⟩:=h
   exact ih m h1 h2
  ·refine⟨n,hn,fun m hm=>?_⟩
   rcases Zbz m n with h1|h1
   ·exact absurd ⟨m,h1,hm⟩ h
   ·exact h1
open Classical in
theorem Oau {c:Code}{Q:Exit->Act->World->Prop}(K:Nat->Act->World->Prop)
  (round:∀ n a w,K n a w->c.wp P (Exit.then (fun a' w'=>∃ m,m<n/\K m a' w') Q) a w) {n:Nat} {a:Act} {w:World} (h0:K n a w):(Code.loop c).wp P Q a w:=by
 refine wp_loop (fun a w=>∃ n,K n a w) (fun a w=>if h:∃ n,K n a w then (least h).choose else 0) ⟨n,h0⟩ fun a w h=>?_
 have h1:=round _ a w (least h).choose_spec.1;refine wp_mono h1 fun e a' w' hq=>?_
 cases e with
 | normal =>
  obtain⟨m,hm,hK⟩:=hq;have h':∃ n,K n a' w':=⟨m,hK⟩;refine⟨h',?_⟩;rw[dif_pos h',dif_pos h];exact Nat.lt_of_le_of_lt ((least h').choose_spec.2 m hK) hm
 |_=>exact hq
theorem Ka9 (hF:Ea0 F E.nbx){s:St}{body:St->Option (Tm St)}{c:Code}
  (hbody:∀ {τ:St} {t:Tm St} {ρ:List D} {o:Out St},body τ=some t->Ec cf t ρ=some o->ρ.length=τ.nv->Dan E τ->Post E ρ o/\Wp P E F c τ ρ o)
  {t:Tm St} (h:∃ a8 fS τ tb p6 xs s1 s2,body τ=some tb/\Aag E s fS a8.length τ/\kC E s.nr a8 0 { s with nr:=s.nr+a8.length }=some ([],s1,xs)/\iE τ (range 0 s.nr) s1=some s2 /\
   nE E s.nv xs s.nr fS s.nr a8.length τ s2=true/\nI s.tr s.nr a8.length=true/\tb.turn .cont pM (coerce E s.nv s.nr fS a8 τ .cont)=some p6/\t=.loop xs p6) {o:Out St} (ho:Ec cf t ρ=some o) (hl:ρ.length=s.nv) (hi:Dan E s):Post E ρ o/\Wp P E F (.loop c) s ρ o:=by
 obtain⟨a8,fS,τ,tb,p6,xs,s1,s2,h1,lB,h2,h3,h4,h5,h6,rfl⟩:=h;have a5k:Dan E τ:=⟨lB.nt1,lB.inScope⟩;have ny:=qB h2;rw[Oan]at ho
 have sX:∀ vs o',vs.length=a8.length->Ec cf p6 (ρ++vs)=some o'->∃ o1,Ec cf tb (ρ++vs)=some o1/\Post E (ρ++vs) o1/\Wp P E F c τ (ρ++vs) o1 /\
   ((o1.kind=.fall/\o'.kind=.cont/\o'.vals.length=a8.length/\∀ a w G,R E.ntmps F o1.ext.get o1.env a w G->∃ G',R E.ntmps F τ.get (ρ++o'.vals) a w G')\/(o1.kind≠.fall/\o'=o1)):=by
  intro vs o' lk he;obtain⟨o1,h7,h8⟩:=lI (fun s r hr ρ o ho=>Jao hr ho) rfl (fun _=>rfl) h6 he;obtain⟨hp,hw⟩:=hbody h1 h7 (by rw[Zbi,hl,lk,lB.nv]) a5k;refine⟨o1,h7,hp,hw,?_⟩
  rcases h8 with ⟨h9,cL,r,ef,fW⟩|⟨h9,cL⟩
  ·obtain⟨ds,jd⟩:=hp.pre
   obtain⟨k7,mA,nf⟩:=Mab hF ef lB (jd.trans (Zbm ..)) hl fW hp.len hp.inv;exact .inl ⟨Maf.1 h9,k7,mA,nf⟩
  ·exact .inr ⟨(fun e=>by rw[e]at h9;cases h9),cL⟩
 refine⟨?_,fun a w G Q hR hQ=>?_⟩
 ·refine Cbu (C:=fun vs o=>vs.length=a8.length->Post E ρ o) (fun vs o' he hk lk=>?_) (fun vs o' o2 he hk hC _ lk=>?_) ho (by simp[ny])
  ·obtain⟨o1,-,hp,-,h8⟩:=sX vs o' lk he
   rcases h8 with ⟨-,h9,-⟩|⟨-,h9⟩
   ·exact absurd h9 hk
   ·rw[h9];exact hp.trans
  ·obtain⟨o1,-,hp,-,h8⟩:=sX vs o' lk he
   rcases h8 with ⟨-,-,h9,-⟩|⟨-,h9⟩
   ·exact hC h9
   ·subst h9
    have:=hp.nice;rw[hk]at this;exact this.elim
 ·
  have se:R E.ntmps F ({ s with nr:=s.nr+a8.length }:St).get ρ a w G:=by rw[Va9 h5];exact hR
  obtain⟨⟨G1,ze⟩,-⟩:=wC (cf:=cf) h2 (Ia1 h5) (by simp) se trivial;obtain⟨G2,hR3⟩:=mQ h3 ze;obtain⟨G3,hR4⟩:=R.fit (ρ0:=ρ) (e:=[]) (by rw[Zb4];exact hR3) hl ny lB h4 (Zbr _);rw[Zb4]at hR4;have s7:=ho;unfold Lc at s7;obtain⟨N,hN⟩:=(gG (Sbt (cf:=cf) p6 ρ (xs.map (·.val ρ)))).1 s7;refine Oau (fun n a w=>∃ vs G,iter n (fun vs=>runT cf N p6 (ρ++vs)) vs=some o/\vs.length=a8.length/\R E.ntmps F τ.get (ρ++vs) a w G) (fun n a w hK=>?_) (n:=N) ⟨_,G3,hN,by simp[ny],hR4⟩;obtain⟨vs,G,hn,lk,hRv⟩:=hK
  cases n with
  |zero=>cases hn
  | succ m =>
   simp only[iter,Zbc]at hn;obtain⟨o',h7,h8⟩:=hn;obtain⟨o1,h9,hp,hw,cL⟩:=sX vs o' lk (Ja3.2 ⟨N,h7⟩);refine hw a w G _ hRv fun a' w' G' iw=>?_
   rcases cL with ⟨ef,fW,jd,k7⟩|⟨ef,fW⟩
   ·rw[if_pos fW]at h8
    rw[ef];obtain⟨G'',te⟩:=k7 a' w' G' iw;exact⟨m,Nat.lt_succ_self m,o'.vals,G'',h8,jd,te⟩
   ·subst fW
    have hk:o'.kind≠.cont:=fun e=>by
     have:=hp.nice;rw[e]at this;exact this
    rw[if_neg hk]at h8;obtain rfl:=Option.some.inj h8;have:=hQ a' w' G' iw
    revert this ef
    have:=hp.nice
    revert this
    cases o'.kind<;>intro h1 h2 h3<;>first|exact h1.elim|exact (h2 rfl).elim|exact h3
theorem qV (hF:Ea0 F E.nbx)(hti:vN P E.ti)(cI:Bad P E F cf)(hm:P.follows .mixedOrders=true){rb:Nat}:∀ (c:Code) {ex:List (Nat×Nat)} {live:Nat} {s:St} {t:Tm St} {ρ:List D} {o:Out St},sxC E false rb c ex live s=some t ->
  Ec cf t ρ=some o->ρ.length=s.nv->Dan E s->Post E ρ o/\Wp P E F c s ρ o
 | .skip, ex, live, s, t, ρ, o, h, ho, hl, hi => by
  simp only[sxC,Option.some.injEq]at h;subst h;rw[fU]at ho;obtain rfl:=Option.some.inj ho;exact⟨⟨trivial,hl,hi,[],by simp⟩,fun a w G Q hR hQ=>wp_skip (hQ a w G hR)⟩
 | .label _, ex, live, s, t, ρ, o, h, ho, hl, hi => by
  simp only[sxC,Option.some.injEq]at h;subst h;rw[fU]at ho;obtain rfl:=Option.some.inj ho;exact⟨⟨trivial,hl,hi,[],by simp⟩,fun a w G Q hR hQ=>wp_label (hQ a w G hR)⟩
 | .ret, ex, live, s, t, ρ, o, h, ho, hl, hi => by
  simp only[sxC,Option.some.injEq]at h;subst h;rw[fU]at ho;obtain rfl:=Option.some.inj ho;exact⟨⟨trivial,hl,hi,[],by simp⟩,fun a w G Q hR hQ=>wp_ret (hQ a w G hR)⟩
 | .exit id, ex, live, s, t, ρ, o, h, ho, hl, hi => by
  simp only[sxC,Option.some.injEq]at h;subst h;rw[fU]at ho;obtain rfl:=Option.some.inj ho;exact⟨⟨trivial,hl,hi,[],by simp⟩,fun a w G Q hR hQ=>wp_exit (hQ a w G hR)⟩
 | .region kn ops draw, ex, live, s, t, ρ, o, h, ho, hl, hi => by
  simp only[sxC,Option.some.injEq]at h;subst h;obtain⟨⟨h1,h2,h3,h4⟩,h5⟩:=Pan hti cI hm ho hl hi
  exact⟨⟨by rw[h1];trivial,h2,h3,h4⟩,fun a w G Q hR hQ=>h5 a w G Q hR fun a' w' G' iw=>by
   have:=hQ a' w' G' iw;rw[h1]at this;exact this⟩
 | .seq a b, ex, live, s, t, ρ, o, h, ho, hl, hi => by
  simp only[sxC,bind,Zbc]at h;obtain⟨ta,zi,h⟩:=h;have iha:=fun {o1:Out St} (h1:Ec cf ta ρ=some o1)=>qV hF hti cI hm a zi h1 hl hi
  have mz:∀ o1:Out St,Post E ρ o1->Wp P E F a s ρ o1->o1.kind≠.fall->Wp P E F (.seq a b) s ρ o1:=by
   intro o1 hp hw hk a' w G Q hR hQ;refine wp_seq (hw a' w G _ hR fun a1 w1 G1 se=>?_);have:=hQ a1 w1 G1 se
   revert this hk
   have:=hp.nice
   revert this
   cases o1.kind<;>intro h1 h2 h3<;>first|exact h1.elim|exact (h2 rfl).elim|exact h3
  cases vv:ta.no pM with
  | true =>
   rw[vv,cond_true,Option.some.injEq]at h;subst h;obtain⟨hp,hw⟩:=iha ho;exact⟨hp,mz o hp hw fun e=>by have:=wN vv ho;rw[e]at this;cases this⟩
  | false =>
   rw[vv,cond_false]at h
   have fb:∀ {o1:Out St} {s2:St} {tb:Tm St} {ρ2:List D},Ec cf ta ρ=some o1->o1.kind=.fall->sxC E false rb b ex live s2=some tb->Ec cf tb ρ2=some o->ρ2.length=s2.nv->Dan E s2->(∃ ds,ρ2=ρ++ds) ->
     (∀ a w G,R E.ntmps F o1.ext.get o1.env a w G->∃ G',R E.ntmps F s2.get ρ2 a w G')->Post E ρ o/\Wp P E F (.seq a b) s ρ o:=by
    intro o1 s2 tb ρ2 h1 hk h2 h3 h4 h5 ⟨ds,h6⟩ h7;obtain⟨hp,hw⟩:=qV hF hti cI hm b h2 h3 h4 h5;obtain⟨hp1,hw1⟩:=iha h1;subst h6;refine⟨hp.trans,fun a' w G Q hR hQ=>wp_seq (hw1 a' w G _ hR fun a1 w1 G1 se=>?_)⟩;rw[hk];obtain⟨G2,ze⟩:=h7 a1 w1 G1 se;exact hw a1 w1 G2 Q ze hQ
   split at h
   ·obtain⟨o1,h1,h2⟩:=qJ h ho
    rcases h2 with ⟨h3,tb,h4,h5⟩|⟨h3,h4⟩
    ·obtain⟨hp,-⟩:=iha h1
     exact fb h1 h3 h4 h5 hp.len hp.inv hp.pre fun a w G hR=>⟨G,hR⟩
    ·subst h4
     obtain⟨hp,hw⟩:=iha h1;exact⟨hp,mz _ hp hw h3⟩
   ·simp only[Zbc]at h
    obtain⟨⟨t',τ⟩,hj,k,hk,h⟩:=h;simp only[Option.some.injEq]at h;subst h;obtain⟨o1,h1,h2⟩:=Abt hF hj rfl (fun _=>rfl) ho hl fun o1 h1=>(iha h1).1
    rcases h2 with ⟨h3,vals,h4,h5,h6,h7⟩|⟨h3,h4⟩
    ·exact fb h1 (Maf.1 h3) hk h4 h5 h6 ⟨vals,rfl⟩ fun a w G hR=>h7 a w G hR
    ·subst h4
     obtain⟨hp,hw⟩:=iha h1;exact⟨hp,mz _ hp hw fun e=>by rw[e]at h3;cases h3⟩
 | .cond c a b, ex, live, s, t, ρ, o, h, ho, hl, hi => by
  simp only[sxC]at h
  have sg:∀ v,Bb9 c=some v->c=.const (.bool v):=by
   intro v hv;unfold Bb9 at hv;split at hv
   ·cases hv;rfl
   ·cases hv
  split at h
  ·rename_i hc
   obtain rfl:=sg _ hc;obtain⟨hp,hw⟩:=qV hF hti cI hm a h ho hl hi;exact⟨hp,fun a' w G Q hR hQ=>wp_cond_true rfl (hw a' w G Q hR hQ)⟩
  ·rename_i hc
   obtain rfl:=sg _ hc;obtain⟨hp,hw⟩:=qV hF hti cI hm b h ho hl hi;exact⟨hp,fun a' w G Q hR hQ=>wp_cond_false rfl (hw a' w G Q hR hQ)⟩
  rename_i hcn;clear hcn sg;split at h
  ·rename_i x tt hk
   cases hb:(bB s.nv x&&Acw tt E.ntmps) with
   | false =>
    rw[hb]at h;simp only[Bool.not_false,cond_true,Option.some.injEq]at h;subst h;rw[jI]at ho;cases ho
   | true =>
    rw[hb]at h;simp only[Cca,cond_false,bind,Zbc,Option.some.injEq]at h;obtain⟨ta,zi,tb,htb,rfl⟩:=h;simp only[Zbd,Ach]at hb
    have hev:∀ a' w G,R E.ntmps F s.get ρ a' w G->Sc (a'.eval (.tmp tt)) (x.val ρ):=by
     intro a' w G hR;have:=hR.slot hk rfl;simp only[cB,aB,Bae]at this;rw[if_pos hb.2]at this
     have e:a'.eval (.tmp tt)=a'.tmps.getD tt undef:=by
      simp[Act.eval,Ack]
     rw[e];exact this
    rw[Fa2]at ho;split at ho
    ·rename_i hx
     obtain⟨hp,hw⟩:=qV hF hti cI hm a zi ho hl hi;refine⟨hp,fun a' w G Q hR hQ=>wp_cond_true ?_ (hw a' w G Q hR hQ)⟩;have:=hev a' w G hR;rw[hx]at this;exact this.bool_inv
    ·rename_i hx
     obtain⟨hp,hw⟩:=qV hF hti cI hm b htb ho hl hi;refine⟨hp,fun a' w G Q hR hQ=>wp_cond_false ?_ (hw a' w G Q hR hQ)⟩;have:=hev a' w G hR;rw[hx]at this;exact this.bool_inv
    ·cases ho
  ·simp only[Option.some.injEq]at h
   subst h;rw[jI]at ho;cases ho
 | .block id b, ex, live, s, t, ρ, o, h, ho, hl, hi => by
  simp only[sxC,bind,Zbc]at h;obtain⟨tb,htb,h⟩:=h;have ihb:=fun {o1:Out St} (h1:Ec cf tb ρ=some o1)=>qV hF hti cI hm b htb h1 hl hi
  have mz:∀ o1:Out St,Post E ρ o1->Wp P E F b s ρ o1->oO id o1.kind=false->Wp P E F (.block id b) s ρ o1:=by
   intro o1 hp hw hk a' w G Q hR hQ;refine wp_block (hw a' w G _ hR fun a1 w1 G1 se=>?_);have:=hQ a1 w1 G1 se
   revert this hk
   have:=hp.nice
   revert this
   cases o1.kind with
   | exit j =>
    intro h1 h2 h3;simp only[Bbl,Exit.inBlock];rw[if_neg]
    ·exact h3
    ·intro e
     simp[oO,e]at h2
   |fall=>exact fun h1 h2 h3=>h3
   |ret=>exact fun h1 h2 h3=>h3
   |cont=>exact fun h1 h2 h3=>h1.elim
   |yield i=>exact fun h1 h2 h3=>h1.elim
  cases vv:tb.no (oO id) with
  | true =>
   rw[vv,cond_true,Option.some.injEq]at h;subst h;obtain⟨hp,hw⟩:=ihb ho;exact⟨hp,mz o hp hw (wN vv ho)⟩
  | false =>
   rw[vv,cond_false]at h
   have vA:∀ {o1:Out St} {o:Out St},Ec cf tb ρ=some o1->Ra1 id o1.kind=true->o.kind=.fall->(∀ a w G,R E.ntmps F o1.ext.get o1.env a w G->∃ G',R E.ntmps F o.ext.get o.env a w G')->Wp P E F (.block id b) s ρ o:=by
    intro o1 o h1 hk ho hg a' w G Q hR hQ;obtain⟨hp,hw⟩:=ihb h1;refine wp_block (hw a' w G _ hR fun a1 w1 G1 se=>?_);obtain⟨G2,ze⟩:=hg a1 w1 G1 se;have:=hQ a1 w1 G2 ze;rw[ho]at this
    revert hk
    cases o1.kind with
    | exit j =>
     intro hk;simp only[Ra1,Zb8]at hk;simp only[Bbl,Exit.inBlock];rw[if_pos hk.symm];exact this
    |fall=>exact fun _=>this
    |ret=>intro hk;cases hk
    |cont=>intro hk;cases hk
    |yield i=>intro hk;cases hk
   split at h
   ·obtain⟨o1,h1,h2⟩:=jQ h ho
    obtain⟨hp,hw⟩:=ihb h1
    rcases h2 with ⟨h3,h4⟩|⟨h3,h4⟩
    ·subst h4
     refine⟨⟨trivial,hp.len,hp.inv,hp.pre⟩,vA h1 ?_ rfl fun a w G hR=>⟨G,hR⟩⟩
     revert h3
     cases o1.kind<;>simp[oO,Ra1]
    ·subst h4
     exact⟨hp,mz _ hp hw h3⟩
   ·simp only[Zbc]at h
    obtain⟨⟨t',τ⟩,hj,h⟩:=h;simp only[Option.some.injEq]at h;subst h;obtain⟨o1,h1,h2⟩:=Abt hF hj rfl (fun _=>rfl) ho hl fun o1 h1=>(ihb h1).1
    rcases h2 with ⟨h3,vals,h4,h5,h6,h7⟩|⟨h3,h4⟩
    ·rw[fU]at h4
     obtain rfl:=Option.some.inj h4;exact⟨⟨trivial,h5,h6,vals,rfl⟩,vA h1 h3 rfl fun a w G hR=>h7 a w G hR⟩
    ·subst h4
     obtain⟨hp,hw⟩:=ihb h1;refine⟨hp,mz _ hp hw ?_⟩
     revert h3
     cases o.kind<;>simp[oO,Ra1]
 | .loop b, ex, live, s, t, ρ, o, h, ho, hl, hi => by
  simp only[sxC]at h;split at h
  ·exact Ka9 hF (fun h1 h2 h3 h4=>qV hF hti cI hm b h1 h2 h3 h4) (Qaf h) ho hl hi
  ·exact Ka9 hF (fun h1 h2 h3 h4=>qV hF hti cI hm b h1 h2 h3 h4) (Iae h) ho hl hi
 | .scope _, ex, live, s, t, ρ, o, h, ho, hl, hi => by
  simp only[sxC,Option.some.injEq]at h;subst h;rw[jI]at ho;cases ho
 | .goto _, ex, live, s, t, ρ, o, h, ho, hl, hi => by
  simp only[sxC,Option.some.injEq]at h;subst h;rw[jI]at ho;cases ho
 | .rangeFunc _ _ _ _, ex, live, s, t, ρ, o, h, ho, hl, hi => by
  simp only[sxC,Option.some.injEq]at h;subst h;rw[jI]at ho;cases ho
 | .refuse _, ex, live, s, t, ρ, o, h, ho, hl, hi => by
  simp only[sxC,Option.some.injEq]at h;subst h;rw[jI]at ho;cases ho
end
end Go.Proofs.YtcbkmmhkccnamaaGreat.Rf
