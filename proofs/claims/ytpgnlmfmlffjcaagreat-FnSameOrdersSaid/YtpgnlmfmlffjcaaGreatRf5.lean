/- Terms for oe program's functions, and j9 they are right: part 5 of 9. -/
import Derived.Test.YtpgnlmfmlffjcaaGreatRf4
import Derived.Orders
open Array renaming getElem?_eq_getElem → Rb0, getD_eq_getD_getElem? → Rb6, getElem?_toList → Sbi
open Bool renaming and_eq_true → Qb1, not_eq_true' → Rbp, or_eq_true → Sbe, not_true → Sb2, false_or → Tbr, or_true → Tb4
open List renaming mem_append_left → Qb2, getElem?_eq_getElem → Qb3, mem_append_right → Qb5, length_append → Qb6, getD_eq_getElem?_getD → Qb8, getElem?_cons_zero → Qb9, append_assoc → Rba, mem_singleton → Rbb, mem_cons_of_mem → Rbd, length_cons → Rbe, mem_cons_self → Rbj, getElem?_append_left → Rbm, append_nil → Rbs, all_eq_true → Rbu, mem_cons → Rb2, nil_append → Sba, mem_map_of_mem → Sbh, not_mem_nil → Sbn, getElem?_set → Sb0, mem_range → Sb1, mem_filter → Tb3, isEmpty_iff → Tb9
open Nat renaming le_refl → Rbg, lt_or_ge → Rbo, beq_eq → Rbv, add_zero → Rbx, zero_add → Rby, blt_eq → Rb4, ble_eq → Sbb, blt → Sbg, zero_le → Sbq, testBit → Tbj, lt_trichotomy → Tbz, le_succ → Tb0, le_add_right → Ubc
open Option renaming bind_eq_some_iff → Qb0, bind_some → Qb7, map_eq_some_iff → Rbc, map_some → Rb9, getD_some → Sbv
set_option linter.unusedSimpArgs false
set_option linter.unusedVariables false
set_option linter.unnecessarySimpa false
set_option linter.unusedSectionVars false
namespace Go.Proofs.YtpgnlmfmlffjcaaGreat.Rf
theorem mem_range {x:Nat}:∀ {n a:Nat},x∈range a n↔a<=x/\x<a+n
 |0,a=>by simp[range]
 | n + 1, a => by
  simp only[range,Rb2,mem_range];omega
theorem rR {bb b8 r:Nat}(h:r<bb):Saq bb b8 r=r:=by
 unfold Saq
 have:Nat.ble bb r=false:=by
  cases e:Nat.ble bb r with
  |false=>rfl
  |true=>simp only[Sbb]at e;omega
 rw[this];rfl
theorem Nag {bb b8 r:Nat}(h:bb<=r):Saq bb b8 r=b8+(r-bb):=by
 unfold Saq;have:Nat.ble bb r=true:=by simpa using h
 rw[this];rfl
def uG (cq b8 bb:Nat):Ow->Ow
 |.slc r p=>if r<cq then .slc r p else if b8<=r then .slc (bb+(r-b8)) p else .oth
 |o=>o
theorem Van {cq b8 bb:Nat}{o:Ow}{r:Nat}{p:List Nat}(h0:cq<=bb)(h:uG cq b8 bb o=.slc r p):o=.slc (Saq bb b8 r) p:=by
 cases o with
 | slc s q =>
  simp only[uG]at h;split at h
  ·injection h with h1 h2
   subst h1 h2;rw[rR (by omega)]
  ·split at h
   ·injection h with h1 h2
    subst h1 h2;rw[Nag (by omega)];congr 1;omega
   ·cases h
 |_=>simp only[uG]at h;cases h
theorem Haj {cq b8 bb r:Nat}{p:List Nat}(h0:cq<=bb)(hB:cq<=b8)(hr:r<cq\/bb<=r):uG cq b8 bb (.slc (Saq bb b8 r) p)=.slc r p:=by
 simp only[uG]
 rcases hr with h|h
 ·rw[rR (by omega),if_pos h]
 ·rw[Nag h,if_neg (by omega),if_pos (by omega)]
  congr 1;omega
structure Zay (τ:St) (σ:Nat->Option aP) (cS ρ:List D) (G' G:Gh) (N n:Nat) (xs:List aI) (bb b8 cq:Nat):Prop where
 at_:∀ x,aX N x=true->x.val cS=(Nah n xs x).val ρ
 le:cq<=bb
 leB:cq<=b8
 hdr:∀ r,G'.hdr r=G.hdr (Saq bb b8 r)
 own:∀ b,G'.own b=uG cq b8 bb (G.own b)
 bx:G'.bx=G.bx
 valid:∀ r k,r<cq->kY τ.get r k->kY σ r k
 live:∀ r k m,r<cq->yA τ.get r k m->yA σ r k m
theorem Dad {τ:St}{cq:Nat}:∀ {deps:List (Nat×Nat)},Pah τ cq deps=true->∀ z∈deps,z.1<cq/\iJ τ.get z.1 z.2
 |[],_,z,hz=>by simp at hz
 | (r, k) :: d, h, z, hz => by
  simp only[Pah,Qb1]at h
  rcases List.mem_cons.1 hz with rfl|hz
  ·refine⟨by simpa using h.1.1,?_⟩
   have h2:=h.1.2;split at h2
   ·rename_i x m v e;exact⟨_,_,_,_,e,fun hs=>by rcases hs with hs|hs<;>cases hs⟩
   ·rename_i x m v r' e;exact⟨_,_,_,_,e,fun hs=>by rcases hs with hs|hs<;>cases hs⟩
   ·rename_i x m v st oa tG e;exact⟨_,_,_,_,e,fun _=>by simpa using h2⟩
   ·cases h2
  ·exact Dad h.2 z hz
section
variable {τ:St} {σ:Nat->Option aP} {cS ρ:List D} {G' G:Gh} {w:World} {N n:Nat} {xs:List aI} {bb b8 cq:Nat}
theorem Zay.ownLow (h:Zay τ σ cS ρ G' G N n xs bb b8 cq){b r:Nat}{p:List Nat}(hr:r<cq)(hb:G.own b=.slc r p):G'.own b=.slc r p:=by
 rw[h.own,hb];have h1:Saq bb b8 r=r:=rR (by have:=h.le;omega);have h2:=Haj (p:=p) h.le h.leB (.inl hr:r<cq\/bb<=r);rw[h1]at h2;exact h2
theorem Zay.frz (h:Zay τ σ cS ρ G' G N n xs bb b8 cq){b:Nat}(hb:G.own b=.frz):G'.own b=.frz:=by
 rw[h.own,hb];rfl
theorem Zay.allow (h:Zay τ σ cS ρ G' G N n xs bb b8 cq){deps:List (Nat×Nat)}(hd:∀ z∈deps,z.1<cq){b:Nat}(hb:Go.Proofs.YtpgnlmfmlffjcaaGreat.Rf.allow G deps b):Go.Proofs.YtpgnlmfmlffjcaaGreat.Rf.allow G' deps b:=by
 rcases hb with hb|⟨r,k,p,hm,hb⟩
 ·exact .inl (h.frz hb)
 ·exact .inr ⟨r,k,p,hm,h.ownLow (hd _ hm) hb⟩
theorem Zay.path (h:Zay τ σ cS ρ G' G N n xs bb b8 cq){p:List (aI×Nat×Nat)}(hp:(p.all fun x=>aX N x.1)=true):aZ cS p=aZ ρ (p.map fun x=>(Nah n xs x.1,x.2)):=by
 unfold aZ;rw[List.map_map];apply List.map_congr_left;intro x hx;rw[Rbu]at hp;simp only[Function.comp,kF,h.at_ x.1 (hp x hx)]
mutual
theorem aB.fit (h:Zay τ σ cS ρ G' G N n xs bb b8 cq):∀ (l:aO) (v:Value),l.inScope N=true->l.wf τ cq=true->aB σ ρ G w (l.sub n xs bb b8) v->aB τ.get cS G' w l v
 |.dead,_,_,_,hl=>by simpa[aO.sub,aB] using hl
 | .sc x, v, hs, _, hl => by
  simp only[aO.inScope]at hs;simp only[aO.sub,aB]at hl ⊢;rw[h.at_ x hs];exact hl
 | .su g x, v, hs, _, hl => by
  simp only[aO.inScope,Qb1]at hs;obtain⟨y,b⟩:=g;simp only[aO.sub,aB]at hl ⊢;have hg:gOn cS (some (y,b))=gOn ρ (some (Nah n xs y,b)):=by simp only[gOn,h.at_ y hs.2]
  rw[h.at_ x hs.1,hg];exact hl
 | .ex r, v, _, hw, hl => by
  simp only[aO.wf]at hw;simp only[aO.sub,aB]at hl ⊢;exact⟨by rw[h.hdr];exact hl.1,hw,hl.2.2⟩
 | .sn deps p nie x, v, hs, hw, hl => by
  simp only[aO.inScope,Qb1]at hs;simp only[aO.wf]at hw;have hd:=Dad hw;simp only[aO.sub,aB]at hl ⊢;rw[h.at_ x hs.1];refine⟨⟨hl.1.1,fun z hz=>(hd z hz).2⟩,fun hv=>?_⟩;obtain⟨h1,h2,h3⟩:=hl.2 fun z hz=>h.valid _ _ (hd z hz).1 (hv z hz)
  refine⟨h1.mono fun b hb=>⟨h.allow (fun z hz=>(hd z hz).1) hb,rfl⟩,h2,?_⟩
  cases p with
  |no=>trivial
  | view =>
   intro r k m e ef;have hr:=(hd (r,k) (by simp[e])).1;have:=(h3 r k m e (h.live r k m hr ef)).mono (own':=G'.own) (w':=w) (q:=[]) (q':=[]) (r':=r) (fun b hb=>⟨h.frz hb,rfl⟩) [] rfl (fun b t hb=>⟨h.ownLow hr hb,rfl⟩);simpa using this
  | suf sz lo =>
   intro r k m e ef;have hr:=(hd (r,k) (by simp[e])).1;have h4:=h3 r k m e (h.live r k m hr ef)
   have h5:kF cS lo=kF ρ (Nah n xs lo):=by
    unfold kF;rw[h.at_ lo hs.2]
   rw[h5];rw[h.hdr,rR (by have:=h.le;omega)];exact h4
  | path p =>
   intro r k m e ef;have hr:=(hd (r,k) (by simp[e])).1;obtain⟨h4,h5,h6⟩:=h3 r k m e (h.live r k m hr ef);rw[h.path hs.2];rw[List.length_map]at h4 h5;refine⟨h4,?_,?_⟩
   ·have:=h5.mono (own':=G'.own) (w':=w) (q:=[]) (q':=[]) (r':=r) (fun b hb=>⟨h.frz hb,rfl⟩) _ rfl (fun b t hb=>⟨h.ownLow hr hb,rfl⟩)
    rw[Sba]at this;exact this
   ·rw[h.hdr,rR (by have:=h.le;omega)]
    exact yG.mono _ _ _ _ _ (fun b t hb=>⟨h.ownLow hr hb,rfl⟩) h6
 | .px b off, v, _, hw, hl => by
  simp only[aO.wf]at hw;simp only[aO.sub,aB]at hl ⊢;exact⟨by rw[h.bx];exact hl.1,hw⟩
 | .pe l sz i off, v, hs, hw, hl => by
  simp only[aO.inScope,Qb1]at hs;simp only[aO.wf]at hw;simp only[aO.sub,aB]at hl ⊢;obtain⟨a,n,c,k,iv,h1,h2⟩:=hl;exact⟨a,n,c,k,iv,aB.fit h l _ hs.1 hw h1,by rw[h.at_ i hs.2];exact h2⟩
 | .rp deps sz x, v, hs, hw, hl => by
  simp only[aO.inScope]at hs;simp only[aO.wf]at hw;have hd:=Dad hw;simp only[aO.sub,aB]at hl ⊢;rw[h.at_ x hs];refine⟨⟨hl.1.1,fun z hz=>(hd z hz).2⟩,fun hv=>?_⟩
  rcases hl.2 fun z hz=>h.valid _ _ (hd z hz).1 (hv z hz) with h1|⟨a,row,h1,h2,h3⟩
  ·exact .inl h1
  ·exact .inr ⟨a,row,h1,h2,h3.mono fun b hb=>⟨h.allow (fun z hz=>(hd z hz).1) hb,rfl⟩⟩
 |.pn,v,_,_,hl=>by simpa[aO.sub,aB] using hl
 | .clo f cD, v, hs, hw, hl => by
  simp only[aO.inScope]at hs;simp only[aO.wf]at hw;simp only[aO.sub,aB]at hl ⊢;obtain⟨vs,h1,h2⟩:=hl;exact⟨vs,h1,aD.fit h cD vs hs hw h2⟩
theorem aD.fit (h:Zay τ σ cS ρ G' G N n xs bb b8 cq):∀ (ls:List aO) (vs:List Value),bB N ls=true->mK τ cq ls=true->aD σ ρ G w (gH n xs bb b8 ls) vs->aD τ.get cS G' w ls vs
 |[],vs,_,_,hl=>by simpa[gH,aD] using hl
 | l :: ls, vs, hs, hw, hl => by
  simp only[bB,Qb1]at hs;simp only[mK,Qb1]at hw;simp only[gH,aD]at hl ⊢;obtain⟨u,us,e,h1,h2⟩:=hl;exact⟨u,us,e,aB.fit h l u hs.1 hw.1 h1,aD.fit h ls us hs.2 hw.2 h2⟩
end
theorem xU:∀ {d d':List (Nat×Nat)},wG d d'=true->d=d'
 |[],[],_=>rfl
 |[],_::_,h=>by simp[wG]at h
 |_::_,[],h=>by simp[wG]at h
 | (a, b) :: r, (a', b') :: r', h => by
  simp only[wG,Qb1,Rbv]at h;rw[h.1.1,h.1.2,xU h.2]
theorem Oag:∀ {d d':List (aI×Nat×Nat)},Jas d d'=true->d=d'
 |[],[],_=>rfl
 |[],_::_,h=>by simp[Jas]at h
 |_::_,[],h=>by simp[Jas]at h
 | (a, b, c) :: r, (a', b', c') :: r', h => by
  simp only[Jas,Qb1,Rbv]at h;rw[aI.beq0_eq h.1.1.1,h.1.1.2,h.1.2,Oag h.2]
theorem Pth.beq0_eq {p q:Pth}(h:p.beq0 q=true):p=q:=by
 cases p<;>cases q<;>simp only[Pth.beq0]at h<;>first|rfl|cases h|skip
 ·rw[Oag h]
 ·simp only[Qb1,Rbv]at h
  rw[h.1,aI.beq0_eq h.2]
mutual
theorem aO.beq0_eq:∀ {a b:aO},a.beq0 b=true->a=b
 |.dead,b,h=>by cases b<;>first | rfl | (simp[aO.beq0]at h)
 | .sc x, b, h => by
  cases b<;>simp only[aO.beq0]at h<;>first|cases h|skip
  rw[aI.beq0_eq h]
 | .su g x, b, h => by
  cases b<;>simp only[aO.beq0]at h<;>first|cases h|skip
  rename_i g' x';simp only[Qb1,beq_iff_eq]at h;obtain⟨y,u⟩:=g;obtain⟨y',u'⟩:=g';have h1:=aI.beq0_eq h.1.1;have h2:u=u':=h.1.2;dsimp only at h1;rw[h1,h2,aI.beq0_eq h.2]
 | .ex r, b, h => by
  cases b<;>simp only[aO.beq0]at h<;>first|cases h|skip
  simp only[Rbv]at h;rw[h]
 | .sn d p e x, b, h => by
  cases b<;>simp only[aO.beq0]at h<;>first|cases h|skip
  simp only[Qb1,beq_iff_eq]at h;rw[xU h.1.1.1,Pth.beq0_eq h.1.1.2,h.1.2,aI.beq0_eq h.2]
 | .px c o, b, h => by
  cases b<;>simp only[aO.beq0]at h<;>first|cases h|skip
  simp only[Qb1,Rbv]at h;rw[h.1,h.2]
 | .pe l s i o, b, h => by
  cases b<;>simp only[aO.beq0]at h<;>first|cases h|skip
  simp only[Qb1,Rbv]at h;rw[aO.beq0_eq h.1.1.1,h.1.1.2,aI.beq0_eq h.1.2,h.2]
 | .rp d s x, b, h => by
  cases b<;>simp only[aO.beq0]at h<;>first|cases h|skip
  simp only[Qb1,Rbv]at h;rw[xU h.1.1,h.1.2,aI.beq0_eq h.2]
 |.pn,b,h=>by cases b<;>first | rfl | (simp[aO.beq0]at h)
 | .clo f l, b, h => by
  cases b<;>simp only[aO.beq0]at h<;>first|cases h|skip
  simp only[Qb1,Rbv]at h;rw[h.1,Bae h.2]
theorem Bae:∀ {a b:List aO},qN a b=true->a=b
 |[],b,h=>by cases b<;>first | rfl | (simp[qN]at h)
 | a :: r, b, h => by
  cases b<;>simp only[qN]at h<;>first|cases h|skip
  simp only[Qb1]at h;rw[aO.beq0_eq h.1,Bae h.2]
end
theorem vR {a b:aO}(h:xO a b=true){v:Value}(hb:aB σ ρ G w b v):aB σ ρ G w a v:=by
 unfold xO at h;split at h
 ·simp only[aB]
  exact hb.one h
 ·rename_i d x
  split at h
  ·rename_i d' p nie x'
   simp only[Qb1]at h;obtain rfl:=xU h.1;obtain rfl:=aI.beq0_eq h.2;simp only[aB]at hb ⊢;exact⟨hb.1,fun hv=>⟨(hb.2 hv).1,(fun e=>absurd e (by decide)),trivial⟩⟩
  ·cases h
 ·rw[aO.beq0_eq h];exact hb
theorem Bab:∀ {a b:List aO},dR a b=true->∀ {vs:List Value},aD σ ρ G w b vs->aD σ ρ G w a vs
 |[],[],_,vs,hb=>hb
 |[],_::_,h,vs,hb=>by simp[dR]at h
 |_::_,[],h,vs,hb=>by simp[dR]at h
 | a :: r, b :: s, h, vs, hb => by
  simp only[dR,Qb1]at h;simp only[aD]at hb ⊢;obtain⟨u,us,e,h1,h2⟩:=hb;exact⟨u,us,e,vR h.1 h1,Bab h.2 h2⟩
theorem Bac:∀ {a b:List aO},dR a b=true->a.length=b.length
 |[],[],_=>rfl
 |[],_::_,h=>by simp[dR]at h
 |_::_,[],h=>by simp[dR]at h
 | a :: r, b :: s, h => by
  simp only[dR,Qb1]at h;simp[Bac h.2]
theorem Bad:∀ {a b:List aO},dR a b=true->∀ {j:Nat} {l:aO},a[j]?=some l->∃ m,b[j]?=some m/\xO l m=true
 |[],[],_,j,l,hj=>by simp at hj
 |[],_::_,h,_,_,_=>by simp[dR]at h
 |_::_,[],h,_,_,_=>by simp[dR]at h
 | a :: r, b :: s, h, j, l, hj => by
  simp only[dR,Qb1]at h
  cases j with
  | zero =>
   simp only[Qb9,Option.some.injEq]at hj;subst hj;exact⟨b,rfl,h.1⟩
  |succ j=>exact Bad h.2 (by simpa using hj)
theorem Baa:∀ {ls:List aO} {j:Nat} {l:aO},ls[j]?=some l->(gH n xs bb b8 ls)[j]?=some (l.sub n xs bb b8)
 |[],j,l,h=>by simp at h
 | m :: ls, 0, l, h => by
  simp only[Qb9,Option.some.injEq]at h;subst h;rfl
 | m :: ls, j + 1, l, h => by
  simp only[gH,List.getElem?_cons_succ]at h ⊢;exact Baa h
theorem Aa9:∀ {ls:List aO},(gH n xs bb b8 ls).length=ls.length
 |[]=>rfl
 |m::ls=>by simp[gH,Aa9 (ls:=ls)]
theorem Da4:∀ {ls:List aO} {j:Nat} {l:aO},mK τ cq ls=true->ls[j]?=some l->l.wf τ cq=true
 |[],j,l,_,h=>by simp at h
 | m :: ls, 0, l, hs, h => by
  simp only[mK,Qb1]at hs;simp only[Qb9,Option.some.injEq]at h;rw[<- h];exact hs.1
 | m :: ls, j + 1, l, hs, h => by
  simp only[mK,Qb1]at hs;exact Da4 hs.2 (by simpa using h)
end
theorem zR {s:St}{k:Nat}{c:aP}(h:s.get k=some c):(∃ t,k=kT t/\t<s.nt)\/(∃ b,k=kB b/\b<s.nb)\/(∃ r,k=kR r/\r<s.nr):=by
 unfold St.get at h
 cases hk:uK s.nt s.nb s.nr k with
 |false=>rw[hk]at h;cases h
 | true =>
  unfold uK at hk
  cases b0:Nat.beq (k % 3) 0 with
  | true =>
   rw[b0,cond_true,Rb4]at hk;simp only[Rbv]at b0;exact .inl ⟨k / 3,by unfold kT;omega,hk⟩
  | false =>
   rw[b0,cond_false]at hk;have n0:k % 3≠0:=fun e=>by rw[e]at b0;cases b0
   cases b1:Nat.beq (k % 3) 1 with
   | true =>
    rw[b1,cond_true,Rb4]at hk;simp only[Rbv]at b1;exact .inr (.inl ⟨k / 3,by unfold kB;omega,hk⟩)
   | false =>
    rw[b1,cond_false,Rb4]at hk;have n1:k % 3≠1:=fun e=>by rw[e]at b1;cases b1
    exact .inr (.inr ⟨k / 3,by unfold kR;omega,hk⟩)
theorem sO {n:Nat}{xs:List aI}{bb b8:Nat}{τ s:St}:∀ {ks:List Nat},Bap n xs bb b8 τ s ks=true->∀ k∈ks,bS n xs bb b8 (τ.get k) (s.get k)=true
 |[],_,k,hk=>by simp at hk
 | k' :: ks, h, k, hk => by
  simp only[Bap,Qb1]at h
  rcases List.mem_cons.1 hk with rfl|hk
  ·exact h.1
  ·exact sO h.2 k hk
theorem Baq {n:Nat}{xs:List aI}{bb b8:Nat}{τ s:St}:∀ {ks:List Nat},Bar n xs bb b8 τ s ks=true->∀ r∈ks,bS n xs bb b8 (τ.get (kR r)) (s.get (kR (Saq bb b8 r)))=true
 |[],_,k,hk=>by simp at hk
 | k' :: ks, h, k, hk => by
  simp only[Bar,Qb1]at h
  rcases List.mem_cons.1 hk with rfl|hk
  ·exact h.1
  ·exact Baq h.2 k hk
theorem Cah {τ:St}{cq:Nat}:∀ {ks:List Nat},Faq τ cq ks=true->∀ k∈ks,qW τ cq k (τ.get k)=true
 |[],_,k,hk=>by simp at hk
 | k' :: ks, h, k, hk => by
  simp only[Faq,Qb1]at h
  rcases List.mem_cons.1 hk with rfl|hk
  ·exact h.1
  ·exact Cah h.2 k hk
theorem Jaz {τ:St}:∀ {ks:List Nat},Sa8 τ ks=true->∀ k∈ks,τ.get k=none
 |[],_,k,hk=>by simp at hk
 | k' :: ks, h, k, hk => by
  simp only[Sa8,Qb1,Option.isNone_iff_eq_none]at h
  rcases List.mem_cons.1 hk with rfl|hk
  ·exact h.1
  ·exact Jaz h.2 k hk
structure yX (E:Env) (s0:St) (bb len:Nat) (τ:St):Prop where
 nv:τ.nv=s0.nv+len
 nt1:E.ntmps<=τ.nt
 nt2:τ.nt<=E.ntmps+E.ngh
 nr:τ.nr=bb+len
 le:s0.nr<=bb
 none:∀ r,s0.nr<=r->r<bb->τ.get (kR r)=none
 wf:∀ k c,τ.get k=some c->qW τ s0.nr k (some c)=true
theorem zC {E:Env}{s0:St}{bb len:Nat}{τ:St}(h:Dar E s0 bb len τ=true):yX E s0 bb len τ:=by
 simp only[Dar,Qb1,Rbv,Sbb]at h;obtain⟨⟨⟨⟨⟨⟨h1,h2⟩,h3⟩,h4⟩,h5⟩,h6⟩,h7⟩:=h
 have ja:∀ r,s0.nr<=r->r<bb->τ.get (kR r)=Option.none:=fun r ha hb =>
  Jaz h6 _ (List.mem_map.2 ⟨r,mem_range.2 ⟨ha,by omega⟩,rfl⟩)
 refine⟨h1,h2,h3,h4,h5,ja,fun k c hk=>?_⟩
 have:k∈(range 0 τ.nt).map kT++(range 0 τ.nb).map kB++((range 0 s0.nr++range bb len).map kR):=by
  rcases zR hk with ⟨t,rfl,ht⟩|⟨b,rfl,hb⟩|⟨r,rfl,hr⟩
  ·exact Qb2 _ (Qb2 _ (List.mem_map.2 ⟨t,mem_range.2 ⟨by omega,by omega⟩,rfl⟩))
  ·exact Qb2 _ (Qb5 _ (List.mem_map.2 ⟨b,mem_range.2 ⟨by omega,by omega⟩,rfl⟩))
  ·refine Qb5 _ (List.mem_map.2 ⟨r,?_,rfl⟩)
   rcases Rbo r s0.nr with h8|h8
   ·exact Qb2 _ (mem_range.2 ⟨by omega,by omega⟩)
   ·rcases Rbo r bb with h9|h9
    ·rw[ja r h8 h9]at hk;cases hk
    ·exact Qb5 _ (mem_range.2 ⟨h9,by omega⟩)
 have:=Cah h7 k this;rw[hk]at this;exact this
theorem sZ {τ:St}{cq k:Nat}{c:aP}(h:qW τ cq k (some c)=true):bR τ.nv c=true:=by
 simp only[qW,Qb1]at h;exact h.1
theorem yX.inScope {E:Env}{s0:St}{bb len:Nat}{τ:St}(h:yX E s0 bb len τ):yZ τ.get τ.nv:=fun k c hk=>sZ (h.wf k c hk)
theorem Mag {n:Nat}{xs:List aI}{bb b8:Nat}{x:aI}{m v:Nat}{st:RSt}{c:Option aP}(h:bS n xs bb b8 (some (.root x m v st)) c=true) :
  st=.gone\/∃ x',c=some (.root x' m v st)/\Nah n xs x=x':=by
 cases st with
 |gone=>exact .inl rfl
 | _ =>
  right
  cases c with
  |none=>simp[bS]at h
  | some c =>
   cases c with
   | root x' m' v' qf =>
    simp only[bS,Qb1,Rbv,Aax,decide_eq_true_eq]at h;exact⟨x',by rw[h.1.1.1,h.1.1.2,h.1.2],aI.beq0_eq h.2⟩
   |_=>simp[bS]at h
theorem Pam {n:Nat}{xs:List aI}{bb b8:Nat}{l:aO}{c:Option aP}(h:bS n xs bb b8 (some (.slot none (.one l))) c=true) :
  ∃ b,c=some (.slot none (.one b))/\xO (l.sub n xs bb b8) b=true:=by
 cases c with
 |none=>simp[bS]at h
 | some c =>
  cases c with
  | slot g v =>
   cases g with
   |some g=>simp[bS]at h
   |none=>cases v<;>first | exact⟨_,rfl,by simpa[bS] using h⟩ | simp[bS]at h
  |_=>simp[bS]at h
theorem Pan {n:Nat}{xs:List aI}{bb b8:Nat}{l:List aO}{c:Option aP}(h:bS n xs bb b8 (some (.slot none (.agg l))) c=true) :
  ∃ b,c=some (.slot none (.agg b))/\dR (gH n xs bb b8 l) b=true:=by
 cases c with
 |none=>simp[bS]at h
 | some c =>
  cases c with
  | slot g v =>
   cases g with
   |some g=>simp[bS]at h
   |none=>cases v<;>first | exact⟨_,rfl,by simpa[bS] using h⟩ | simp[bS]at h
  |_=>simp[bS]at h
theorem Eal {n:Nat}{xs:List aI}{bb b8:Nat}{ro:Bool}{l:List aO}{c:Option aP}(h:bS n xs bb b8 (some (.box ro l)) c=true) :
  ∃ b,c=some (.box ro b)/\dR (gH n xs bb b8 l) b=true:=by
 cases c with
 |none=>simp[bS]at h
 | some c =>
  cases c with
  | box gp b =>
   simp only[bS,Qb1,beq_iff_eq]at h;exact⟨b,by rw[h.1],h.2⟩
  |_=>simp[bS]at h
theorem Dbq (t:Nat):kT t % 3=0:=by unfold kT;omega
theorem Oaq (t:Nat):kB t % 3=1:=by unfold kB;omega
theorem Oap (t:Nat):kR t % 3=2:=by unfold kR;omega
theorem Lap {s:St}{k:Nat}{c:aP}(h:s.get k=some c)(hm:Nat.beq (k % 3) 0=true):∃ t,k=kT t/\t<s.nt:=by
 rw[Rbv]at hm
 rcases zR h with h|⟨b,rfl,hb⟩|⟨r,rfl,hr⟩
 ·exact h
 ·rw[Oaq]at hm;omega
 ·rw[Oap]at hm;omega
theorem Eb3 {s:St}{k:Nat}{c:aP}(h:s.get k=some c)(hm:Nat.beq (k % 3) 1=true):∃ t,k=kB t/\t<s.nb:=by
 rw[Rbv]at hm
 rcases zR h with ⟨b,rfl,hb⟩|h|⟨r,rfl,hr⟩
 ·rw[Dbq]at hm;omega
 ·exact h
 ·rw[Oap]at hm;omega
theorem Bbz {s:St}{k:Nat}{c:aP}(h:s.get k=some c)(hm:Nat.beq (k % 3) 2=true):∃ t,k=kR t/\t<s.nr:=by
 rw[Rbv]at hm
 rcases zR h with ⟨b,rfl,hb⟩|⟨r,rfl,hr⟩|h
 ·rw[Dbq]at hm;omega
 ·rw[Oaq]at hm;omega
 ·exact h
theorem R.fit {E:Env}{F:bE}{τ s s0:St}{ρ0 e:List D}{a:Act}{w:World}{G:Gh}{xs:List aI}{bb b8 len:Nat}
  (hR:R E.ntmps F s.get (ρ0++e) a w G) (hn:ρ0.length=s0.nv) (jm:xs.length=len) (gE:yX E s0 bb len τ)
  (cE:mE E s0.nv xs s0.nr bb b8 len τ s=true) (hle:s0.nr<=b8):∃ G',R E.ntmps F τ.get (ρ0++xs.map (·.val (ρ0++e))) a w G':=by
 simp only[mE,Qb1]at cE;obtain⟨hf1,hf2⟩:=cE
 have gv:∀ t,t<τ.nt->bS s0.nv xs bb b8 (τ.get (kT t)) (s.get (kT t))=true:=fun t ht =>
  sO hf1 _ (Qb2 _ (List.mem_map.2 ⟨t,mem_range.2 ⟨by omega,by have:=gE.nt2;omega⟩,rfl⟩))
 have mm:∀ b,b<τ.nb->bS s0.nv xs bb b8 (τ.get (kB b)) (s.get (kB b))=true:=fun b hb =>
  sO hf1 _ (Qb5 _ (List.mem_map.2 ⟨b,mem_range.2 ⟨by omega,by omega⟩,rfl⟩))
 have cw:∀ r,r<s0.nr\/(bb<=r/\r<bb+len)->bS s0.nv xs bb b8 (τ.get (kR r)) (s.get (kR (Saq bb b8 r)))=true:=fun r hr =>
  Baq hf2 r (by
   rcases hr with hr|hr
   ·exact Qb2 _ (mem_range.2 ⟨by omega,by omega⟩)
   ·exact Qb5 _ (mem_range.2 hr))
 have hrk:∀ r c,τ.get (kR r)=some c->r<s0.nr\/(bb<=r/\r<bb+len):=by
  intro r c hk
  rcases zR hk with ⟨t,e,_⟩|⟨t,e,_⟩|⟨r',e,hr⟩
  ·exact absurd e.symm gX
  ·exact absurd e.symm eO
  ·obtain rfl:=eD e
   rw[gE.nr]at hr
   rcases Rbo r s0.nr with h1|h1
   ·exact .inl h1
   ·rcases Rbo r bb with h2|h2
    ·rw[gE.none r h1 h2]at hk;cases hk
    ·exact .inr ⟨h2,hr⟩
 have ka:∀ r x m v st,τ.get (kR r)=some (.root x m v st)->st=.live\/st=.frozen->∃ x',s.get (kR (Saq bb b8 r))=some (.root x' m v st)/\Nah s0.nv xs x=x':=by
  intro r x m v st hk aj;have h1:=cw r (hrk r _ hk);rw[hk]at h1
  rcases Mag h1 with h2|h2
  ·rw[h2]at aj
   rcases aj with h|h<;>cases h
  ·exact h2
 let ρs:=ρ0++e
 let G':Gh:={ own:=fun b=>uG s0.nr b8 bb (G.own b),hdr:=fun r=>G.hdr (Saq bb b8 r),bx:=G.bx }
 have eA:∀ x,aX τ.nv x=true->x.val (ρ0++xs.map (·.val ρs))=(Nah s0.nv xs x).val ρs:=by
  intro x hx
  cases x with
  |c d=>rfl
  | v i =>
   simp only[aX,Rb4]at hx;rw[gE.nv]at hx;simp only[Nah]
   cases hb:Sbg i s0.nv with
   | true =>
    simp only[Rb4]at hb;simp only[cond_true,aI.val,Qb8,ρs];rw[Rbm (by omega),Rbm (by omega)]
   | false =>
    have kn:s0.nv<=i:=by
     rcases Rbo i s0.nv with h|h
     ·rw[<- Rb4,hb]at h;cases h
     ·exact h
    simp only[cond_false];have hlt:i-s0.nv<xs.length:=by omega
    rw[Qb8,Qb3 hlt,Sbv];simp only[aI.val,Qb8];rw[List.getElem?_append_right (by omega),List.getElem?_map,hn,Qb3 hlt];rfl
 have H:Zay τ s.get (ρ0++xs.map (·.val ρs)) ρs G' G τ.nv s0.nv xs bb b8 s0.nr:=by
  refine⟨eA,gE.le,hle,fun _=>rfl,fun _=>rfl,rfl,fun r k hr hv=>?_,fun r k m hr hv=>?_⟩
  ·obtain⟨x,m,st,hk,aj⟩:=hv
   obtain⟨x',h1,-⟩:=ka r x m k st hk aj;rw[rR (by have:=gE.le;omega)]at h1;exact⟨x',m,st,h1,aj⟩
  ·obtain⟨x,hk⟩:=hv
   obtain⟨x',h1,-⟩:=ka r x m k .live hk (.inl rfl);rw[rR (by have:=gE.le;omega)]at h1;exact⟨x',h1⟩
 refine⟨G',hR.tmps,hR.defers,fun k c hk=>?_,?_,fun b ls hk hb ho=>?_⟩
 ·have ic:=gE.wf k c hk
  have gb:=sZ ic
  cases c with
  | slot g v =>
   cases g with
   |some g=>simp[qW]at ic
   | none =>
    cases v with
    | dead =>
     simp only[qW,Qb1]at ic;obtain⟨t,rfl,ht⟩:=Lap hk ic.2;exact⟨t,rfl,fun _=>trivial⟩
    | one l =>
     simp only[qW,Qb1]at ic;obtain⟨t,rfl,ht⟩:=Lap hk ic.2.1;refine⟨t,rfl,fun _=>?_⟩;have h1:=gv t ht;rw[hk]at h1;obtain⟨b,h2,h3⟩:=Pam h1;have h4:aB s.get ρs G w b _:=hR.slot h2 rfl;simp only[bR,wY,Qb1]at gb;exact aB.fit H l _ gb.2 ic.2.2 (vR h3 h4)
    | agg ls =>
     simp only[qW,Qb1]at ic;obtain⟨t,rfl,ht⟩:=Lap hk ic.2.1;refine⟨t,rfl,fun _=>?_⟩;have h1:=gv t ht;rw[hk]at h1;obtain⟨b,h2,h3⟩:=Pan h1;obtain⟨vs,h4,h5⟩:bU s.get ρs G w (.agg b) _:=hR.slot h2 rfl;simp only[bR,wY,Qb1]at gb;exact⟨vs,h4,aD.fit H ls _ gb.2 ic.2.2 (Bab h3 h5)⟩
    |tup ts=>simp[qW]at ic
  | box ro ls =>
   simp only[qW,Qb1]at ic;obtain⟨b,rfl,hb⟩:=Eb3 hk ic.2.1;have h1:=mm b hb;rw[hk]at h1;obtain⟨bs,h2,h3⟩:=Eal h1;obtain⟨h4,h5,h6⟩:=hR.box h2;refine⟨b,rfl,h4,?_,fun j l hj=>?_⟩
   ·show uG _ _ _ _=_
    rw[h5];cases ro<;>rfl
   ·obtain⟨m,h7,h8⟩:=Bad h3 (Baa hj)
    obtain⟨v,h9,bo,b9⟩:=h6 j m h7;simp only[bR]at gb;exact⟨v,h9,bo,aB.fit H l v (lZ gb hj) (Da4 ic.2.2 hj) (vR h8 b9)⟩
  | root x m an st =>
   have hm:Nat.beq (k % 3) 2=true:=by
    cases st<;>simp only[qW,Qb1]at ic<;>first|exact ic.2|(exact absurd ic.2 (by decide))
   obtain⟨r,rfl,hr⟩:=Bbz hk hm;have nz:=hrk r _ hk;refine⟨r,rfl,by rw[hk];rfl,?_⟩;simp only[bR]at gb;have a1v:r<s0.nr\/bb<=r:=nz.imp id (·.1)
   cases st with
   | live =>
    obtain⟨x',h1,h2⟩:=ka r x m an .live hk (.inl rfl);have h3:=hR.root h1;simp only[bM]at h3 ⊢;rw[eA x gb,h2]
    have:=h3.mono (own':=G'.own) (w':=w) (q:=[]) (q':=[]) (r':=r) (fun b hb=>⟨H.frz hb,rfl⟩) [] rfl (fun b t hb=>⟨by
     show uG _ _ _ _=_
     rw[hb];exact Haj gE.le hle a1v,rfl⟩)
    simpa using this
   | frozen =>
    obtain⟨x',h1,h2⟩:=ka r x m an .frozen hk (.inr rfl);obtain⟨h3,h4⟩:=hR.root h1;simp only[bM];rw[eA x gb,h2];refine⟨h3.mono fun b hb=>⟨H.frz hb,rfl⟩,fun b p hb=>?_⟩;exact h4 b p (Van gE.le hb)
   |gone=>trivial
   |fwd r'=>simp[qW]at ic
 ·refine⟨hR.frame.os,hR.frame.tape,hR.frame.output,hR.frame.size,fun b hb ho=>?_,fun b j hb ho=>?_,fun b hb=>?_⟩
  ·obtain⟨h1,h2⟩:=hR.frame.keep b hb ho
   refine⟨h1,?_⟩;show uG _ _ _ _=_
   rw[h2]
   rcases ho with ho|ho<;>rw[ho]<;>rfl
  ·obtain⟨h1,h2⟩:=hR.frame.boxes b j hb ho
   refine⟨?_,h2⟩;show uG _ _ _ _=_
   rw[h1];rfl
  ·show uG _ _ _ _=_
   rw[hR.frame.fresh b hb];rfl
 ·have h1:=mm b (by
   rcases zR hk with ⟨t,e,_⟩|⟨t,e,ht⟩|⟨r',e,hr⟩
   ·exact absurd e.symm kP
   ·obtain rfl:=Bai e;exact ht
   ·exact absurd e eO)
  rw[hk]at h1;obtain⟨bs,h2,h3⟩:=Eal h1;have h4:=hR.rng b bs h2 hb ho;rw[h4,<- Bac h3,Aa9]
def Xad (draw:Bool)(s:St)(r:bJ):St:={ (s.puts r.upd) with nv:=s.nv+bF r.lets,nb:=s.nb+1,nr:=Ra3 draw s.nr r.upd }
inductive Maz (E:Env) (draw:Bool) (gf:Nat) (ops:List Oper):Nat->List Oper->St->List OpI->St->Prop
 |nil (i:Nat) (s:St):Maz E draw gf ops i [] s [] s
 | cons {i : Nat} {o : Oper} {os : List Oper} {s : St} {g : Option (aI × Bool)} {r : bJ} {log : List Nat} {is : List OpI} {s' : St} (mv b6 : Bool)
   (h1:(kJ E ops mv b6 s.nv s.nb s.nr o).run s.get=some ((g,r),log)) (h2:Bbu s g r=true)
   (h3:Maz E draw gf ops (i+1) os (Xad draw s r) is s'):Maz E draw gf ops i (o::os) s (⟨g,r,log,s.nb,s.nr⟩::is) s'
theorem Fay {E:Env}{draw:Bool}{gf:Nat}{ops:List Oper}:∀ {os:List Oper} {i:Nat} {s:St} {acc is:List OpI} {s':St},Wah E draw gf ops i os s acc=.inl (is,s') ->
  ∃ js,is=acc.reverse++js/\Maz E draw gf ops i os s js s'
 | [], i, s, acc, is, s', h => by
  simp only[Wah,Sum.inl.injEq,Prod.mk.injEq]at h;obtain⟨rfl,rfl⟩:=h;exact⟨[],by simp,.nil i s⟩
 | o :: os, i, s, acc, is, s', h => by
  simp only[Wah]at h;split at h
  ·rename_i g r log aw
   cases jt:Bbu s g r with
   |false=>rw[jt]at h;simp at h
   | true =>
    rw[jt]at h;simp only[Sb2,cond_false]at h;obtain⟨js,h1,h2⟩:=Fay h;exact⟨⟨g,r,log,s.nb,s.nr⟩::js,by rw[h1];simp,.cons _ _ aw jt h2⟩
  ·cases h
structure Cad (E:Env) (s:St):Prop where
 nt:E.ntmps<=s.nt
 sc:yZ s.get s.nv
def Maw (cf:Nat->List D->Option (List D))(ρ:List D):Nat->List OpI->Prop
 |_,[]=>True
 |nv,a::r=>aL cf ρ a.g nv a.res.lets/\Maw cf ρ (nv+bF a.res.lets) r
def Aac (P:Program)(E:Env)(F:bE)(cf:Nat->List D->Option (List D)):Prop :=
 ∀ (σ:Nat->Option aP) (ρ:List D) (a:Act) (w:World) (G:Gh) (g:Option (aI×Bool)) (o:Oper) (Q:Exit->Act->World->Prop) (mv b6:Bool) (nv nb nr:Nat) (res:bJ) (f:Operand) (args:Array Operand) (argTypes:Array TypeId),
  R E.ntmps F σ ρ a w G->eT E.ntmps o->Cae σ nb nr->o.op=.call { callee:=.value f,args,argTypes } ->
  (oJ E mv b6 nv nb nr g o).eval σ=some res->res.upd.all (fun x=>yC E.ntmps nb nr x.1)=true->aL cf ρ g nv res.lets->fV P E F σ ρ a w g o Q res.upd
section
variable {P:Program} {E:Env} {F:bE} {cf:Nat->List D->Option (List D)} {draw:Bool}
theorem Jay {s:St}{g:Option (aI×Bool)}{r:bJ}(h:Bbu s g r=true) :
  nS s.nv g=true/\dV s.nv r.lets=true/\r.upd.all (fun x=>bR (s.nv+bF r.lets) x.2)=true:=by
 simp only[Bbu,Qb1]at h;exact⟨h.1.1.2,h.1.2,h.2⟩
theorem Laf {ops:List Oper}{mv b6:Bool}{s:St}{o:Oper}{g:Option (aI×Bool)}{r:bJ}{log:List Nat}(hi:E.ntmps<=s.nt)
  (h1:(kJ E ops mv b6 s.nv s.nb s.nr o).run s.get=some ((g,r),log)) (h2:Bbu s g r=true):(Xad draw s r).get=upds s.get r.upd:=by
 funext k;exact Bbt h2 hi (jA (RdM.run_eval h1)).2.2.2 draw _ k
theorem Cad.next {ops:List Oper}{mv b6:Bool}{s:St}{o:Oper}{g:Option (aI×Bool)}{r:bJ}{log:List Nat}(hi:Cad E s)
  (h1:(kJ E ops mv b6 s.nv s.nb s.nr o).run s.get=some ((g,r),log)) (h2:Bbu s g r=true):Cad E (Xad draw s r):=by
 refine⟨?_,?_⟩
 ·show E.ntmps<=(s.puts r.upd).nt
  rw[(iC r.upd s).2.2.2];exact hi.nt
 ·rw[Laf hi.nt h1 h2]
  exact hi.sc.upds (Ubc ..) (Jay h2).2.2
theorem Uaj {gf:Nat}{ops:List Oper}{i:Nat}{os:List Oper}{s s':St}{is:List OpI}(hc:Maz E draw gf ops i os s is s') :
  ∀ {yq:St} {ρ:List D} {o:Out St},yq.nv=s'.nv->ρ.length=s.nv->Ec cf (Fa1 (.leaf .fall [] yq) is) ρ=some o ->
  o.kind=.fall/\o.ext=yq/\o.env.length=s'.nv/\(∃ ds,o.env=ρ++ds)/\∀ ext,Maw cf (o.env++ext) s.nv is:=by
 induction hc with
 | nil i s =>
  intro yq ρ o hv hl h;simp only[Fa1,fD,Option.some.injEq]at h;subst h;exact⟨rfl,rfl,hl,⟨[],by simp⟩,fun _=>trivial⟩
 | cons mv b6 h1 h2 h3 ih =>
  rename_i i o' os s g r log is s';intro yq ρ o hv hl h;simp only[Fa1]at h;obtain⟨hg,hs,-⟩:=Jay h2;obtain⟨ds,h4,h5,h6⟩:=uR (by rw[hl];exact hg) (by rw[hl];exact hs) h;obtain⟨h7,h8,h9,⟨es,bo⟩,b9⟩:=ih hv (by rw[Qb6,h4,hl];rfl) h5;refine⟨h7,h8,h9,⟨ds++es,by rw[bo,Rba]⟩,fun ext=>⟨?_,b9 ext⟩⟩;have:=h6 (es++ext);rw[hl]at this;rw[bo];simpa[Rba] using this
theorem Zaj {gf:Nat}{ops:List Oper}{i:Nat}{os:List Oper}{s s':St}{is:List OpI}(hc:Maz E draw gf ops i os s is s')(hi:Cad E s):Cad E s':=by
 induction hc with
 |nil i s=>exact hi
 |cons mv b6 h1 h2 h3 ih=>exact ih (hi.next h1 h2)
theorem Cad.trim {lo:Nat}{d:Bool}{s:St}(h:Cad E s):Cad E (trimS d lo s) :=
 ⟨by rw[wV.2.2];exact h.nt,by rw[Ma6,wV.1];exact h.sc⟩
theorem Zak {gf:Nat}{ops:List Oper}{i:Nat}{os:List Oper}{s s':St}{is:List OpI}(hc:Maz E draw gf ops i os s is s'):∀ o∈os,eT E.ntmps o:=by
 induction hc with
 |nil i s=>simp
 | cons mv b6 h1 h2 h3 ih =>
  intro o ho
  rcases List.mem_cons.1 ho with rfl|ho
  ·exact (jA (RdM.run_eval h1)).2.1
  ·exact ih o ho
theorem Lb3 (hti:uO P E.ti)(bl:Aac P E F cf){ops:Array Oper}(kt:∀ o∈ops.toList,eT E.ntmps o){mv b6:Bool}{s:St}{o:Oper}{g:Option (aI×Bool)}{r:bJ}{ρ:List D}{a:Act}{w:World}{G:Gh}{Q:Exit->Act->World->Prop}
  {σ:Nat->Option aP} (hf:Cae σ s.nb s.nr)
  (hR:R E.ntmps F σ ρ a w G) (h1:(kJ E ops.toList mv b6 s.nv s.nb s.nr o).eval σ=some (g,r)) (aj:aL cf ρ g s.nv r.lets):Gbl P E F σ ρ ops o Q r.upd a w:=by
 refine Aao hR hti kt hf h1 aj fun f args argTypes ho=>?_
 obtain⟨h2,h3,h4,h5⟩:=jA h1;rw[Jaa ho]at h4;exact bl σ ρ a w G g o Q mv b6 s.nv s.nb s.nr r f args argTypes hR h3 hf ho h4 h5 aj
theorem Zai (hti:uO P E.ti)(bl:Aac P E F cf){gf:Nat}{ops:Array Oper}(kt:∀ o∈ops.toList,eT E.ntmps o){Q:Exit->Act->World->Prop}{i:Nat}{os:List Oper}{s s':St}{is:List OpI}(hc:Maz E draw gf ops.toList i os s is s') :
  ∀ {ρ:List D} {a:Act} {w:World} {G:Gh},ops.toList.drop i=os->R E.ntmps F s.get ρ a w G->Cad E s->Maw cf ρ s.nv is ->
  (∀ a' w' G',R E.ntmps F s'.get ρ a' w' G'->Q .normal a' w')->wpOps P ops Q (List.range' i os.length) a w:=by
 induction hc with
 | nil i s =>
  intro ρ a w G hdr hR hi aj hQ;exact hQ a w G hR
 | cons mv b6 h1 h2 h3 ih =>
  rename_i i o os s g r log is s';intro ρ a w G hdr hR hi aj hQ
  have jl:ops[i]?=some o:=by
   rw[<- Sbi];have:(ops.toList.drop i)[0]?=some o:=by rw[hdr];rfl
   rwa[List.getElem?_drop,Rbx]at this
  rw[Rbe,List.range'_succ,wpOps_cons];unfold wpOp;rw[jl];have c5:=Lb3 (Q:=Q) hti bl kt Oa1 hR (RdM.run_eval h1) aj.1
  have sr:∀ a w,Nx E.ntmps F s.get ρ r.upd a w->wpOps P ops Q (List.range' (i+1) os.length) a w:=by
   intro a' w' ⟨G',eu⟩;rw[<- Laf hi.nt h1 h2]at eu;exact ih (by rw[<- List.drop_drop,hdr];rfl) eu (hi.next h1 h2) aj.2 hQ
  unfold Gbl at c5;dsimp only;split
  ·rename_i hw
   rw[if_pos hw]at c5;exact .inl (Oper.wp_mono sr c5)
  ·rename_i hw
   rw[if_neg hw]at c5;exact sr _ _ c5
end
theorem nH {a b:List Nat}(h:meets a b=false){k:Nat}(ha:k∈a):k∉b:=by
 intro hb
 have:meets a b=true:=by
  unfold meets;rw[List.any_eq_true];exact⟨k,ha,lL.2 hb⟩
 rw[h]at this;cases this
theorem Fas {acc:List Nat}:∀ {es:List Edge} {m b:Nat},Tbj (zA acc es m) b=true->Tbj m b=true\/∃ e∈es,Region.binds .any e=true/\(b=e.on\/Tbj (acc.getD e.on 0) b=true)
 |[],m,b,h=>.inl h
 | e :: es, m, b, h => by
  have h':Tbj (zA acc es (bif Region.binds .any e then (m ||| 2 ^ e.on) ||| acc.getD e.on 0 else m)) b=true:=h
  rcases Fas (es:=es) h' with h1|⟨e',he',h1⟩
  ·cases hb:Region.binds .any e with
   |false=>rw[hb,cond_false]at h1;exact .inl h1
   | true =>
    rw[hb,cond_true]at h1;simp only[Nat.testBit_or,Sbe,Nat.testBit_two_pow,decide_eq_true_eq]at h1
    rcases h1 with (h1|h1)|h1
    ·exact .inl h1
    ·exact .inr ⟨e,Rbj,hb,.inl h1.symm⟩
    ·exact .inr ⟨e,Rbj,hb,.inr h1⟩
  ·exact .inr ⟨e',Rbd _ he',h1⟩
theorem Far:∀ {os:List Oper} {acc:List Nat} {i w:Nat},acc[i]?=some w->(waits os acc)[i]?=some w
 |[],_,_,_,h=>h
 | o :: os, acc, i, w, h => by
  refine Far (os:=os) ?_;rw[Rbm (List.getElem?_eq_some_iff.1 h).1];exact h
theorem Ma5:∀ {os:List Oper} {acc:List Nat} {p w:Nat} {o:Oper},os[p]?=some o->(waits os acc)[acc.length+p]?=some w->∀ b,Tbj w b=true ->
  ∃ e∈o.after.toList,Region.binds .any e=true/\(b=e.on\/∃ w',(waits os acc)[e.on]?=some w'/\Tbj w' b=true)
 |[],acc,p,w,o,ho,_,_,_=>by simp at ho
 | o' :: os, acc, 0, w, o, ho, hw, b, hb => by
  simp only[Qb9,Option.some.injEq]at ho;subst ho;have h1:(acc++[zA acc o'.after.toList 0])[acc.length]?=some (zA acc o'.after.toList 0):=by simp
  have h2:=Far (os:=os) h1;simp only[waits,Rbx]at hw;rw[h2]at hw;obtain rfl:=Option.some.inj hw
  rcases Fas hb with h3|⟨e,he,h4,h5⟩
  ·simp at h3
  ·refine⟨e,he,h4,h5.imp id fun h6=>?_⟩
   rw[Qb8]at h6
   cases ha:acc[e.on]? with
   |none=>rw[ha]at h6;simp at h6
   | some w' =>
    rw[ha,Sbv]at h6;have hlt:=(List.getElem?_eq_some_iff.1 ha).1;exact⟨w',Far (os:=os) (by rw[Rbm hlt];exact ha),h6⟩
 | o' :: os, acc, p + 1, w, o, ho, hw, b, hb => by
  have:=Ma5 (os:=os) (acc:=acc++[zA acc o'.after.toList 0]) (p:=p) (w:=w) (o:=o) (by simpa using ho) (by
   simp only[Qb6,List.length_singleton];simp only[waits]at hw;rw[<- hw];congr 1
   omega) b hb
  exact this
theorem Eab {a:OpI}{i:Nat}:∀ {bs:List OpI} {ws:List Nat},Ban a i bs ws=true->∀ {q:Nat} {b:OpI},bs[q]?=some b->∃ w,ws[q]?=some w/\(Tbj w i=true\/pK a b=true)
 |[],_,_,q,b,h=>by simp at h
 |_::_,[],h,_,_,_=>by simp[Ban]at h
 | b :: bs, w :: ws, h, q, b', hq => by
  simp only[Ban,Qb1,Sbe]at h
  cases q with
  | zero =>
   simp only[Qb9,Option.some.injEq]at hq;subst hq;exact⟨w,rfl,h.1⟩
  |succ q=>exact Eab h.2 (by simpa using hq)
theorem Aa5:∀ {is:List OpI} {ws:List Nat} {i:Nat},vK is ws i=true->∀ {p q:Nat} {a b:OpI},p<q->is[p]?=some a->is[q]?=some b ->
  ∃ w,ws[q]?=some w/\(Tbj w (i+p)=true\/pK a b=true)
 |[],_,_,_,p,q,a,b,_,hp,_=>by simp at hp
 | x :: is, ws, i, h, p, q, a, b, hpq, hp, hq => by
  simp only[vK,Qb1]at h
  cases q with
  |zero=>omega
  | succ q =>
   cases p with
   | zero =>
    simp only[Qb9,Option.some.injEq]at hp;subst hp;obtain⟨w,h1,h2⟩:=Eab h.1 (q:=q) (by simpa using hq);exact⟨w,by rw[List.getElem?_tail]at h1;exact h1,h2⟩
   | succ p =>
    obtain⟨w,h1,h2⟩:=Aa5 h.2 (p:=p) (q:=q) (by omega) (by simpa using hp) (by simpa using hq);exact⟨w,by rw[List.getElem?_tail]at h1;exact h1,by rw[show i+(p+1)=i+1+p by omega];exact h2⟩
theorem Eaj:∀ {os:List Oper} {i:Nat},Baz os i=true->∀ {p:Nat} {o:Oper},os[p]?=some o->∀ e∈o.after.toList,Region.binds .any e=true->e.on<i+p
 |[],_,_,p,o,h,_,_,_=>by simp at h
 | x :: os, i, h, p, o, hp, e, he, hb => by
  simp only[Baz,Qb1,Rbu,Sbe,Rbp,Rb4]at h
  cases p with
  | zero =>
   simp only[Qb9,Option.some.injEq]at hp;subst hp
   rcases h.1 e he with h1|h1
   ·rw[hb]at h1;cases h1
   ·omega
  | succ p =>
   have:=Eaj h.2 (p:=p) (by simpa using hp) e he hb;omega
def sig (D:Nat->Bool):Nat->List OpI->(Nat->Option aP)->Nat->Option aP
 |_,[],σ=>σ
 |i,a::r,σ=>sig D (i+1) r (bif D i then upds σ a.res.upd else σ)
def Wr (a:OpI)(k:Nat):Prop:=∃ c,(k,c)∈a.res.upd
theorem Kap {a:OpI}{σ:Nat->Option aP}{k:Nat}(h:¬ Wr a k):upds σ a.res.upd k=σ k:=dZ _ _ _ fun c hc=>h ⟨c,hc⟩
theorem Aap {D D':Nat->Bool}{k:Nat}:∀ {is:List OpI} {i:Nat} {σ cd:Nat->Option aP},(∀ p a,is[p]?=some a->Wr a k->D (i+p)=D' (i+p))->σ k=cd k->sig D i is σ k=sig D' i is cd k
 |[],i,σ,cd,_,h=>h
 | a :: r, i, σ, cd, hd, h => by
  simp only[sig];refine Aap (fun p b hb hw=>?_) ?_
  ·have:=hd (p+1) b (by simpa using hb) hw
   rw[show i+(p+1)=i+1+p by omega]at this;exact this
  ·by_cases hw:Wr a k
   ·have:=hd 0 a rfl hw
    rw[Rbx]at this;rw[this]
    cases D' i with
    |false=>exact h
    |true=>exact pY _ _ _ _ h
   ·have e:∀ (x:Bool) (τ:Nat->Option aP),(bif x then upds τ a.res.upd else τ) k=τ k:=by
     intro x τ
     cases x with
     |false=>rfl
     |true=>exact Kap hw
    rw[e,e];exact h
theorem uZ {D:Nat->Bool}{k:Nat}:∀ {is:List OpI} {i:Nat} {σ:Nat->Option aP},(∀ p a,is[p]?=some a->Wr a k->D (i+p)=false)->sig D i is σ k=σ k
 |[],i,σ,_=>rfl
 | a :: r, i, σ, hd => by
  simp only[sig]
  rw[uZ fun p b hb hw=>by
   have:=hd (p+1) b (by simpa using hb) hw;rw[show i+(p+1)=i+1+p by omega]at this;exact this]
  by_cases hw:Wr a k
  ·have:=hd 0 a rfl hw
   rw[Rbx]at this;rw[this];rfl
  ·cases D i with
   |false=>rfl
   |true=>exact Kap hw
theorem Saw {D:Nat->Bool}{k:Nat}:∀ {is:List OpI} {i p:Nat} {a:OpI} {σ τ:Nat->Option aP},is[p]?=some a->D (i+p)=true->Wr a k->(∀ q b,p<q->is[q]?=some b->Wr b k->D (i+q)=false) ->
  sig D i is σ k=upds τ a.res.upd k
 |[],i,p,a,σ,τ,hp,_,_,_=>by simp at hp
 | x :: r, i, 0, a, σ, τ, hp, hD, hw, hq => by
  simp only[Qb9,Option.some.injEq]at hp;subst hp;rw[Rbx]at hD;simp only[sig]
  rw[uZ fun q b hb uw=>by
   have:=hq (q+1) b (by omega) (by simpa using hb) uw;rw[show i+(q+1)=i+1+q by omega]at this;exact this,hD,cond_true]
  exact Ea2 _ _ _ _ hw
 | x :: r, i, p + 1, a, σ, τ, hp, hD, hw, hq => by
  simp only[sig];refine Saw (p:=p) (by simpa using hp) (by rw[show i+1+p=i+(p+1) by omega];exact hD) hw fun q b hpq hb uw=>?_
  have:=hq (q+1) b (by omega) (by simpa using hb) uw;rw[show i+(q+1)=i+1+q by omega]at this;exact this
section
variable {P:Program} {E:Env} {F:bE} {cf:Nat->List D->Option (List D)}
theorem Sav {D:Nat->Bool}{is:List OpI}{i:Nat}{σ:Nat->Option aP}(h:∀ q,i<=q->D q=false):sig D i is σ=σ :=
 funext fun k=>uZ fun p a _ _=>h _ (Ubc ..)
structure At (E:Env) (ops:List Oper) (cf:Nat->List D->Option (List D)) (ρ:List D) (σ0:Nat->Option aP) (i0:Nat) (is:List OpI) (p:Nat) (o:Oper) (a:OpI) (s0:St):Prop where
 run:∃ mv b6 nv,(kJ E ops mv b6 nv a.nb a.nr o).run (sig (fun q=>decide (q<i0+p)) i0 is σ0)=some ((a.g,a.res),a.log)/\aL cf ρ a.g nv a.res.lets
 nb:a.nb=s0.nb+p
 nr:a.nr=s0.nr+bP*p
theorem Cbz {gf:Nat}{ops:List Oper}{i:Nat}{os:List Oper}{s s':St}{is:List OpI}(hc:Maz E true gf ops i os s is s') :
  ∀ {ρ:List D},Cad E s->Maw cf ρ s.nv is->is.length=os.length/\s'.get=sig (fun _=>true) i is s.get/\∀ p o,os[p]?=some o->∃ a,is[p]?=some a/\At E ops cf ρ s.get i is p o a s:=by
 induction hc with
 |nil i s=>exact fun _ _=>⟨rfl,rfl,by simp⟩
 | cons mv b6 h1 h2 h3 ih =>
  rename_i i o os s g r log is s';intro ρ hi aj;obtain⟨h4,h5,h6⟩:=ih (hi.next h1 h2) aj.2;have hg:=Laf (draw:=true) hi.nt h1 h2;refine⟨by simp[h4],?_,fun p o' hp=>?_⟩
  ·rw[h5,hg];rfl
  ·cases p with
   | zero =>
    simp only[Qb9,Option.some.injEq]at hp;subst hp;refine⟨_,rfl,⟨mv,b6,s.nv,?_,aj.1⟩,rfl,rfl⟩;rw[Rbx,Sav fun q hq=>by simpa using hq];exact h1
   | succ p =>
    obtain⟨a,h7,h8⟩:=h6 p o' (by simpa using hp);refine⟨a,by simpa using h7,?_,?_,?_⟩
    ·obtain⟨mv',z7,nv',h9,bo⟩:=h8.run
     refine⟨mv',z7,nv',?_,bo⟩;simp only[sig];have:(decide (i<i+(p+1)):Bool)=true:=by simp
     rw[this,cond_true,<- hg,show i+(p+1)=i+1+p by omega];exact h9
    ·rw[h8.nb];show s.nb+1+p=_;omega
    ·rw[h8.nr]
     show s.nr+bP+bP*p=_
     rw[Nat.mul_succ];omega
theorem Tac {a:OpI}{n nb nr k:Nat}(h:a.res.upd.all (fun x=>yC n nb nr x.1)=true)(hw:Wr a k):yC n nb nr k=true:=by
 obtain⟨c,hc⟩:=hw;rw[Rbu]at h;exact h _ hc
theorem Xaw {n nb nr b:Nat}(h:yC n nb nr (kB b)=true):b<=nb:=by
 unfold yC at h;rw[Oaq]at h;have:kB b / 3=b:=by unfold kB;omega
 rw[this]at h;simpa using h
theorem Ca2 {n nb nr r:Nat}(h:yC n nb nr (kR r)=true):r<nr+bP:=by
 unfold yC at h;rw[Oap]at h;have:kR r / 3=r:=by unfold kR;omega
 rw[this]at h;simpa using h
structure Db7 (E:Env) (ops:Array Oper) (cf:Nat->List D->Option (List D)) (ρ:List D) (s:St) (is:List OpI):Prop where
 len:is.length=ops.size
 at_:∀ p o,ops.toList[p]?=some o->∃ a,is[p]?=some a/\At E ops.toList cf ρ s.get 0 is p o a s
 free:∀ p q a b,p<q->is[p]?=some a->is[q]?=some b->(∃ w,(waits ops.toList [])[q]?=some w/\Tbj w p=true)\/pK a b=true
 low:∀ p o,ops.toList[p]?=some o->∀ e∈o.after.toList,Region.binds .any e=true->e.on<p
 dst:∀ o∈ops.toList,eT E.ntmps o
def dn (l:Array Bool)(q:Nat):Bool:=l.getD q false
def Closed (ops:Array Oper)(l:Array Bool):Prop:=∀ q w p,dn l q=true->(waits ops.toList [])[q]?=some w->Tbj w p=true->dn l p=true
theorem apart_spec {a b:OpI}(h:pK a b=true):(∀ k,Wr a k->k∉b.log)/\(∀ k,Wr a k->¬ Wr b k)/\(∀ k,k∈a.log->¬ Wr b k)/\∀ k,Wr b k->Lax a k=false:=by
 simp only[pK,Qb1,Rbp]at h;obtain⟨⟨⟨h1,h2⟩,h3⟩,h4⟩:=h
 have key:∀ {x:OpI} {k:Nat},Wr x k↔k∈x.res.upd.map (·.1):=by
  intro x k;simp only[List.mem_map];constructor
  ·rintro⟨c,hc⟩;exact⟨_,hc,rfl⟩
  ·rintro⟨⟨k',c⟩,hc,rfl⟩;exact⟨c,hc⟩
 refine⟨fun k hk=>nH h1 (key.1 hk),fun k hk hb=>nH h2 (key.1 hk) (key.1 hb),fun k hk hb=>nH h3 hk (key.1 hb),fun k hk=>?_⟩;rw[List.any_eq_false]at h4;simpa using h4 k (key.1 hk)
theorem Raz:∀ {l:List Bool} {i:Nat},l[i]?=some false->(l.set i true).count false+1=l.count false
 |[],i,h=>by simp at h
 | b :: l, 0, h => by
  simp only[Qb9,Option.some.injEq]at h;subst h;simp
 | b :: l, i + 1, h => by
  have:=Raz (l:=l) (i:=i) (by simpa using h);simp only[List.set_cons_succ,List.count_cons];omega
theorem Jam {ops:Array Oper}{l:Array Bool}{i:Nat}(hl:l.size=ops.size)(h:i∈Region.ready .any ops l) :
  ∃ o,ops[i]?=some o/\l[i]?=some false/\∀ e∈o.after.toList,Region.binds .any e=true->dn l e.on=true:=by
 unfold Region.ready at h;rw[Tb3,Sb1]at h;obtain⟨h1,h2⟩:=h;simp only[Qb1,Rbp]at h2;have ho:ops[i]?=some ops[i]:=Rb0 h1;rw[ho,Rb9,Sbv]at h2;refine⟨_,ho,?_,fun e he hb=>?_⟩
 ·have h3:=h2.1
  rw[Rb6]at h3;have hlt:i<l.size:=by omega
  rw[Rb0 hlt,Sbv]at h3;rw[Rb0 hlt,h3]
 ·have h3:=h2.2
  rw[<- Array.all_toList,Rbu]at h3;have:=h3 e he;rw[hb]at this;simpa[dn] using this
theorem ready_nil {ops:Array Oper}{l:Array Bool}(hl:l.size=ops.size)(vp:∀ p o,ops.toList[p]?=some o->∀ e∈o.after.toList,Region.binds .any e=true->e.on<p)
  (h:Region.ready .any ops l=[]):∀ q,q<ops.size->dn l q=true:=by
 intro q
 induction q using Nat.strongRecOn with
 | _ q ih =>
  intro hq
  cases hd:dn l q with
  |true=>rfl
  | false =>
   exfalso;have ho:ops[q]?=some ops[q]:=Rb0 hq
   have:q∈Region.ready .any ops l:=by
    unfold Region.ready;rw[Tb3,Sb1];refine⟨hq,?_⟩;simp only[Qb1,Rbp];refine⟨?_,?_⟩
    ·have hlt:q<l.size:=by omega
     unfold dn at hd;rw[Rb6,Rb0 hlt,Sbv]at hd ⊢;exact hd
    ·rw[ho,Rb9,Sbv,<- Array.all_toList,Rbu]
     intro e he
     cases hb:Region.binds .any e with
     |false=>rfl
     | true =>
      have hlt:=vp q _ (by rw[Sbi];exact ho) e he hb;have:=ih e.on hlt (by omega);simpa[dn] using this
   rw[h]at this;simp at this
theorem Tar {l:Array Bool}{i:Nat}(hi:i<l.size)(q:Nat):dn (l.setIfInBounds i true) q=(decide (q=i)||dn l q):=by
 unfold dn;rw[Rb6,Rb6,Array.getElem?_setIfInBounds];by_cases h:i=q
 ·subst h
  simp[hi]
 ·rw[if_neg h]
  have:(decide (q=i):Bool)=false:=by simp;exact fun e=>h e.symm
  rw[this,Tbr]
theorem Cbm (hti:uO P E.ti)(bl:Aac P E F cf){ops:Array Oper}{s:St}{is:List OpI}{ρ:List D}(hd:Db7 E ops cf ρ s is){Q:Exit->Act->World->Prop}
  (hQ:∀ a' w' G',R E.ntmps F (sig (fun _=>true) 0 is s.get) ρ a' w' G'->Q .normal a' w') :
  ∀ (fuel:Nat) (l:Array Bool) (a:Act) (w:World) (G:Gh),l.size=ops.size->l.toList.count false<=fuel->Closed ops l->R E.ntmps F (sig (dn l) 0 is s.get) ρ a w G ->
  wpAny P .any ops Q fuel l a w:=by
 have sA:∀ (l:Array Bool) (a:Act) (w:World) (G:Gh),l.size=ops.size->R E.ntmps F (sig (dn l) 0 is s.get) ρ a w G->Region.ready .any ops l=[]->Q .normal a w:=by
  intro l a w G hl hR hr;have br:=ready_nil hl hd.low hr;refine hQ a w G ?_
  have:sig (fun _=>true) 0 is s.get=sig (dn l) 0 is s.get:=by
   funext k;refine Aap (fun p a hp _=>?_) rfl;have hlt:=(List.getElem?_eq_some_iff.1 hp).1;rw[hd.len]at hlt;rw[br _ (by omega)]
  rw[this];exact hR
 intro fuel
 induction fuel with
 | zero =>
  intro l a w G hl nq eV hR
  have c7:Region.ready .any ops l=[]:=by
   cases hr:Region.ready .any ops l with
   |nil=>rfl
   | cons i r =>
    exfalso;obtain⟨o,h1,h2,h3⟩:=Jam hl (by rw[hr];exact Rbj:i∈Region.ready .any ops l);rw[<- Sbi]at h2;have:=Raz h2;omega
  exact⟨c7,sA l a w G hl hR c7⟩
 | succ fuel ih =>
  intro l a w G hl nq eV hR;refine⟨sA l a w G hl hR,fun i hi=>?_⟩;obtain⟨o,ho,ub,pa⟩:=Jam hl hi;have hoL:ops.toList[i]?=some o:=by rw[Sbi];exact ho
  have gC:i<l.size:=by
   rw[<- Sbi]at ub;have:=(List.getElem?_eq_some_iff.1 ub).1;simpa using this
  obtain⟨ai,hai,eA⟩:=hd.at_ i o hoL;obtain⟨mv,b6,nv,aw,aj⟩:=eA.run
  have qh:dn l i=false:=by
   unfold dn;rw[Rb6,ub];rfl
  have tl:∀ w p,(waits ops.toList [])[i]?=some w->Tbj w p=true->dn l p=true:=by
   intro w' p hw hb;obtain⟨e,he,hbe,h1⟩:=Ma5 (acc:=[]) (p:=i) hoL (by simpa using hw) p hb
   rcases h1 with h1|⟨w'',h1,h2⟩
   ·rw[h1];exact pa e he hbe
   ·exact eV e.on w'' p (pa e he hbe) h1 h2
  have se:∀ p b,p<i->is[p]?=some b->dn l p=false->pK b ai=true:=by
   intro p b hpi hb mT
   rcases hd.free p i b ai hpi hb hai with ⟨w',h1,h2⟩|h
   ·rw[tl w' p h1 h2]at mT;cases mT
   ·exact h
  have ie:∀ q b,i<q->is[q]?=some b->dn l q=true->pK ai b=true:=by
   intro q b hiq hb uq
   rcases hd.free i q ai b hiq hai hb with ⟨w',h1,h2⟩|h
   ·rw[eV q w' i uq h1 h2]at qh;cases qh
   ·exact h
  have zm:∀ k∈ai.log,sig (dn l) 0 is s.get k=sig (fun q=>decide (q<0+i)) 0 is s.get k:=by
   intro k hk;refine Aap (fun p b hb hw=>?_) rfl;rw[Rby,Rby]
   rcases Tbz p i with h|h|h
   ·have e:(decide (p<i):Bool)=true:=by simpa using h
    rw[e]
    cases hdp:dn l p with
    |true=>rfl
    |false=>exact absurd hk ((apart_spec (se p b h hb hdp)).1 k hw)
   ·subst h
    rw[qh];simp
   ·have e:(decide (p<i):Bool)=false:=by simp;omega
    rw[e]
    cases hdp:dn l p with
    |false=>rfl
    |true=>exact absurd hw ((apart_spec (ie p b h hb hdp)).2.2.1 k hk)
  have tk:=RdM.run_eval (RdM.run_same aw zm)
  have gy:∀ (p:Nat) (b:OpI),is[p]?=some b->∃ nv' ,b.res.upd.all (fun x=>yC E.ntmps (s.nb+p) (s.nr+bP*p) x.1)=true/\nv'=nv:=by
   intro p b hb;have hlt:=(List.getElem?_eq_some_iff.1 hb).1
   have fY:ops.toList[p]?=some ops.toList[p]!:=by
    rw[List.getElem!_eq_getElem?_getD,Qb3 (by simpa[<- hd.len] using hlt)];rfl
   obtain⟨b',cr,uh⟩:=hd.at_ p _ fY;rw[hb]at cr;obtain rfl:=Option.some.inj cr;obtain⟨mv',z7,nv',hr',-⟩:=uh.run;have:=(jA (RdM.run_eval hr')).2.2.2;rw[uh.nb,uh.nr]at this;exact⟨nv,this,rfl⟩
  have na:Cae (sig (dn l) 0 is s.get) ai.nb ai.nr:=by
   have hf:=Oa1 (s:=s);refine⟨?_,fun j xo fj=>?_⟩
   ·rw[uZ fun p b hb hw=>?_]
    ·rw[eA.nb]
     unfold St.get uK kB;have e:(3*(s.nb+i)+1) % 3=1:=by omega
     have e2:(3*(s.nb+i)+1) / 3=s.nb+i:=by omega
     rw[e,e2]
     have:Sbg (s.nb+i) s.nb=false:=by
      cases hb:Sbg (s.nb+i) s.nb with
      |false=>rfl
      |true=>simp only[Rb4]at hb;omega
     rw[this];rfl
    ·rw[Rby]
     obtain⟨_,hk,-⟩:=gy p b hb;have h1:=Xaw (Tac hk hw);rw[eA.nb]at h1
     rcases Tbz p i with h|h|h
     ·omega
     ·rw[h];exact qh
     ·cases hdp:dn l p with
      |false=>rfl
      | true =>
       have:=(apart_spec (ie p b h hb hdp)).2.2.2 _ hw;unfold Lax at this;rw[Oaq]at this;have e2:kB ai.nb / 3=ai.nb:=by unfold kB;omega
       rw[e2]at this;simp at this
   ·rw[uZ fun p b hb hw=>?_]
    ·unfold St.get uK kR
     have e:(3*j+2) % 3=2:=by omega
     have e2:(3*j+2) / 3=j:=by omega
     rw[e,e2]
     have:Sbg j s.nr=false:=by
      cases hb:Sbg j s.nr with
      |false=>rfl
      |true=>simp only[Rb4]at hb;rw[eA.nr]at xo;omega
     rw[this];rfl
    ·rw[Rby]
     obtain⟨_,hk,-⟩:=gy p b hb;have h1:=Ca2 (Tac hk hw)
     rcases Tbz p i with h|h|h
     ·rw[eA.nr]at xo
      have:bP*(p+1)<=bP*i:=Nat.mul_le_mul_left _ h;rw[Nat.mul_succ]at this;omega
     ·rw[h];exact qh
     ·cases hdp:dn l p with
      |false=>rfl
      | true =>
       have:=(apart_spec (ie p b h hb hdp)).2.2.2 _ hw;unfold Lax at this;rw[Oap]at this;have e2:kR j / 3=j:=by unfold kR;omega
       rw[e2]at this;have e3:Nat.ble ai.nr j=true:=by simpa using xo
       have e4:Sbg j (ai.nr+bP)=true:=by simpa using fj
       rw[e3,e4]at this;simp at this
  have c5:Gbl P E F (sig (dn l) 0 is s.get) ρ ops o Q ai.res.upd a w:=by
   refine Aao hR hti hd.dst na tk aj fun f args argTypes qy=>?_
   obtain⟨h2,h3,h4,h5⟩:=jA tk;rw[Jaa qy]at h4;exact bl _ ρ a w G ai.g o Q mv b6 nv _ _ ai.res f args argTypes hR h3 na qy h4 h5 aj
  have x6:sig (dn (l.setIfInBounds i true)) 0 is s.get=upds (sig (dn l) 0 is s.get) ai.res.upd:=by
   funext k;by_cases hw:Wr ai k
   ·refine Saw hai (by rw[Rby,Tar gC];simp) hw fun q b hiq hb uw=>?_
    rw[Rby,Tar gC];have e:(decide (q=i):Bool)=false:=by simp;omega
    rw[e,Tbr]
    cases uq:dn l q with
    |false=>rfl
    |true=>exact absurd uw ((apart_spec (ie q b hiq hb uq)).2.1 k hw)
   ·rw[Kap hw]
    refine Aap (fun p b hb uw=>?_) rfl;rw[Rby,Tar gC]
    have e:(decide (p=i):Bool)=false:=by
     simp;intro e;subst e;rw[hai]at hb;obtain rfl:=Option.some.inj hb;exact hw uw
    rw[e,Tbr]
  have a4k:Closed ops (l.setIfInBounds i true):=by
   intro q w' p uq hw hb;rw[Tar gC]at uq ⊢;by_cases e:q=i
   ·subst e
    rw[tl w' p hw hb,Tb4]
   ·have e':(decide (q=i):Bool)=false:=by simp[e]
    rw[e',Tbr]at uq;rw[eV q w' p uq hw hb,Tb4]
  have sr:∀ a w,Nx E.ntmps F (sig (dn l) 0 is s.get) ρ ai.res.upd a w->wpAny P .any ops Q fuel (l.setIfInBounds i true) a w:=by
   intro a' w' ⟨G',eu⟩;rw[<- x6]at eu;refine ih _ a' w' G' (by simp[hl]) ?_ a4k eu;rw[Array.toList_setIfInBounds];rw[<- Sbi]at ub;have:=Raz ub;omega
  unfold wpOp;rw[ho];unfold Gbl at c5;dsimp only;split
  ·rename_i hw
   rw[if_pos hw]at c5;exact .inl (Oper.wp_mono sr c5)
  ·rename_i hw
   rw[if_neg hw]at c5;exact sr _ _ c5
end
section
variable {P:Program} {E:Env} {F:bE} {cf:Nat->List D->Option (List D)} {n:Nat} {σ:Nat->Option aP} {ρ:List D} {a:Act} {w:World} {G:Gh}
theorem R.world {w':World}(h:R n F σ ρ a w G)(hh:w'.heap=w.heap)(ho:w'.os=w.os)(ht:w'.tape=w.tape)(hp:w'.output=w.output):R n F σ ρ a w' G:=by
 have cm:Fr σ G w (upds σ []) G w':=by
  refine⟨fun b hb _=>⟨hb,by rw[hh]⟩,fun r k _ h=>h,fun r k h=>h,fun r k b p _ _ h=>⟨.inl h,by rw[hh]⟩,fun r k m _ h=>⟨h,fun b p h=>h⟩,fun _ _=>rfl,fun _ _=>rfl,fun k h=>h,fun _ _ _ _ _ _ _ h=>h⟩
 exact h.upd [] cm h.tmps h.defers ⟨ho.trans h.frame.os,ht.trans h.frame.tape,hp.trans h.frame.output,by rw[hh];exact h.frame.size,
  fun b hb hf=>by rw[hh];exact h.frame.keep b hb hf,fun b j hb hj=>by rw[hh];exact h.frame.boxes b j hb hj,fun b hb=>h.frame.fresh b (by rw[<- hh];exact hb)⟩
  (fun t _=>rfl) (fun b ro ls _ _=>⟨rfl,by rw[hh]⟩) (fun b ls hb=>by simp at hb) (fun k c hk=>by simp at hk)
theorem Nav (hti:uO P E.ti)(bl:Aac P E F cf)(hm:P.follows .mixedOrders=true){gf:Nat}{ops:Array Oper}{draw:Bool}{s:St}{o:Out St}
  (h:Ec cf (Kar E false gf ops.toList draw s) ρ=some o) (hl:ρ.length=s.nv) (hi:Cad E s) :
  (o.kind=.fall/\o.env.length=o.ext.nv/\Cad E o.ext/\∃ ds,o.env=ρ++ds) /\
  ∀ a w G Q,R E.ntmps F s.get ρ a w G->(∀ a' w' G',R E.ntmps F o.ext.get o.env a' w' G'->Q .normal a' w')->(Code.region gf ops draw).wp P Q a w:=by
 unfold Kar at h;split at h
 case h_2=>simp only[cond_false,iL]at h;cases h
 rename_i is s' a3h;obtain⟨js,hjs,hc⟩:=Fay a3h;simp only[List.reverse_nil,Sba]at hjs;subst hjs;have kt:=Zak hc
 cases hb:(!draw||(Baz ops.toList 0&&vK is (waits ops.toList []) 0)) with
 |false=>rw[hb]at h;simp only[cond_false,iL]at h;cases h
 | true =>
  rw[hb,cond_true]at h;obtain⟨h1,h2,h3,⟨ds,h4⟩,h5⟩:=Uaj hc wV.1 hl h;have ru:=h5 [];rw[Rbs]at ru;refine⟨⟨h1,by rw[h2,wV.1];exact h3,by rw[h2];exact (Zaj hc hi).trim,ds,h4⟩,fun a w G Q hR hQ=>?_⟩;rw[h2,Ma6]at hQ;have eu:R E.ntmps F s.get o.env a w G:=by rw[h4];exact hR.ext hi.sc (by omega) ds
  cases draw with
  | false =>
   refine wp_region ?_;rw[List.range_eq_range'];have:=Zai hti bl (ops:=ops) kt hc (by simp) eu hi ru hQ;simpa using this
  | true =>
   simp only[Sb2,Tbr,Qb1]at hb;obtain⟨hlen,r8,eA⟩:=Cbz (ρ:=o.env) (cf:=cf) hc hi ru;have xk:is.length=ops.size:=by rw[hlen];simp
   have hd:Db7 E ops cf o.env s is:=by
    refine⟨xk,eA,fun p q x y hpq hp hq=>?_,fun p o' hp e he hbe=>?_,kt⟩
    ·obtain⟨w',h6,h7⟩:=Aa5 hb.2 hpq hp hq
     rw[Rby]at h7;exact h7.imp (fun h7=>⟨w',h6,h7⟩) id
    ·have:=Eaj hb.1 hp e he hbe
     omega
   refine wp_region_any hm ?_;refine Cbm hti bl hd (fun a' w' G' pg=>hQ a' w' G' (by rw[r8];exact pg)) ops.size _ a _ G (by simp) ?_ ?_ ?_
   ·simp only[Array.toList_replicate,List.count_replicate_self,Rbg]
   ·intro q w' p hq
    unfold dn at hq;rw[Rb6,Array.getElem?_replicate]at hq;split at hq<;>simp at hq
   ·rw[Sav fun q _=>by
     unfold dn;rw[Rb6,Array.getElem?_replicate];split<;>rfl]
    exact eu.world rfl rfl rfl rfl
end
theorem Bah {s:St}{k:Nat}{c:aP}(h:s.get k=some c):uK s.nt s.nb s.nr k=true:=by
 unfold St.get at h
 cases e:uK s.nt s.nb s.nr k with
 |true=>rfl
 |false=>rw[e]at h;cases h
theorem Oao {nt nb nr r:Nat}(h:r<nr):uK nt nb nr (kR r)=true:=by
 unfold uK;rw[Oap];have:kR r / 3=r:=by unfold kR;omega
 rw[this];simpa using h
theorem xH {s:St}{u:List (Nat×aP)}(h:∀ k c,(k,c)∈u->uK s.nt s.nb s.nr k=true):(s.puts u).get=upds s.get u:=by
 funext k;obtain⟨e1,e2,e3,e4⟩:=iC u s;unfold St.get;rw[e2,e3,e4,Ka9];by_cases hm:∃ c,(k,c)∈u
 ·obtain⟨c,hc⟩:=hm
  rw[h k c hc,cond_true];exact Ea2 _ _ _ _ ⟨c,hc⟩
 ·have hn:∀ c,(k,c)∉u:=fun c hc=>hm ⟨c,hc⟩
  rw[dZ _ _ _ hn,dZ _ _ _ hn]
def Ja1 (σ:Nat->Option aP)(k j:Nat):Option aO :=
 match σ k with
 |some (.slot none (.one a))=>if j=0 then some a else none
 |some (.slot none (.agg ls))=>ls[j]?
 |some (.box _ ls)=>ls[j]?
 |_=>none
theorem Xao {k j:Nat}{s:St}:vS k j s=(Ja1 s.get k j).getD .dead:=by
 unfold vS Ja1;split
 ·rename_i v hk
  rw[hk]
  cases v with
  |dead=>simp[rO]
  | one a =>
   simp only[rO]
   cases j with
   |zero=>rfl
   |succ j=>simp
  |agg ls=>simp[rO,Qb8]
  |tup ts=>simp[rO]
 ·rename_i ro ls hk
  rw[hk];simp[Qb8]
 ·rename_i h1 h2
  cases hs:s.get k with
  |none=>rfl
  | some c =>
   cases c with
   | slot g v =>
    cases g with
    |none=>exact absurd hs (h1 v)
    |some g=>rfl
   |box ro ls=>exact absurd hs (h2 ro ls)
   |root=>rfl
theorem iQ {k j:Nat}{s:St}{l:aO}(h:vS k j s=l)(hl:l≠.dead):Ja1 s.get k j=some l:=by
 rw[Xao]at h
 cases e:Ja1 s.get k j with
 |none=>rw[e]at h;exact absurd h.symm hl
 |some l'=>rw[e,Sbv]at h;rw[h]
section
variable {E:Env} {F:bE} {n:Nat} {σ:Nat->Option aP} {ρ:List D} {a:Act} {w:World} {G G':Gh}
inductive ValAt (n:Nat) (gh:Nat->Value) (a:Act) (w:World) (bx:Nat->Addr):aP->Nat->Nat->Value->Prop
 |one (t:Nat) (l:aO):ValAt n gh a w bx (.slot none (.one l)) (kT t) 0 (Aad n a gh t)
 |agg (t:Nat) (ls:List aO) (vs:List Value) (j:Nat) (v:Value) (h:Aad n a gh t=.agg vs.toArray) (hv:vs[j]?=some v):ValAt n gh a w bx (.slot none (.agg ls)) (kT t) j v
 |box (b j:Nat) (ro:Bool) (ls:List aO) (v:Value) (h:w.cell? ((bx b).add j)=some v):ValAt n gh a w bx (.box ro ls) (kB b) j v
theorem R.valAt (h:R n F σ ρ a w G){k j:Nat}{l:aO}(hl:Ja1 σ k j=some l):∃ v c,σ k=some c/\ValAt n F.gh a w G.bx c k j v/\aB σ ρ G w l v:=by
 unfold Ja1 at hl;split at hl
 ·rename_i l' hk
  obtain⟨t,rfl,h1⟩:=h.cont _ _ hk;split at hl
  ·rename_i hj
   subst hj;obtain rfl:=Option.some.inj hl;exact⟨_,_,hk,.one t l',h1 rfl⟩
  ·cases hl
 ·rename_i ls hk
  obtain⟨t,rfl,h1⟩:=h.cont _ _ hk;obtain⟨vs,h2,h3⟩:bU σ ρ G w (.agg ls) _:=h1 rfl;obtain⟨v,h4,h5⟩:=h3.get hl;exact⟨v,_,hk,.agg t ls vs j v h2 h4,h5⟩
 ·rename_i ro ls hk
  obtain⟨b,rfl,h1,h2,h3⟩:=h.cont _ _ hk;obtain⟨v,h4,h5,h6⟩:=h3 j l hl;exact⟨v,_,hk,.box b j ro ls v h4,h6⟩
 ·cases hl
theorem Fr.nonroot (σ:Nat->Option aP)(G:Gh)(w:World)(u:List (Nat×aP))(hu:∀ k c,(k,c)∈u->∀ r,k≠kR r):Fr σ G w (upds σ u) G w:=by
 have hr:∀ r,upds σ u (kR r)=σ (kR r):=fun r=>dZ _ _ _ fun c hc=>hu _ _ hc r rfl
 refine⟨fun b h _=>⟨h,rfl⟩,fun r k _ h=>?_,fun r k h=>?_,fun r k b p _ _ h=>⟨.inl h,rfl⟩,fun r k m _ h=>⟨?_,fun b p h=>h⟩,fun _ _=>rfl,fun _ _=>rfl,fun k h=>dP _ _ _ (.inl h),fun _ _ _ _ _ _ _ h=>h⟩
 ·obtain⟨x,m,st,e,h⟩:=h
  exact⟨x,m,st,by rw[<- hr];exact e,h⟩
 ·obtain⟨x,m,an,st,e,h⟩:=h
  exact⟨x,m,an,st,by rw[hr];exact e,h⟩
 ·obtain⟨x,e⟩:=h
  exact⟨x,by rw[<- hr];exact e⟩
theorem Ear {α:Type}{x y:List α}(h:x.toArray=y.toArray):x=y:=by
 have:=congrArg Array.toList h;simpa using this
structure Dbb (s s':St):Prop where
 nr:s'.nr=s.nr
 nt:s'.nt=s.nt
 root:∀ r,s'.get (kR r)=s.get (kR r)
theorem R.putAt {s:St}(h:R n F s.get ρ a w G){k j:Nat}{l:aO}{c0:aP}(hk:s.get k=some c0){v:Value}(hv:ValAt n F.gh a w G.bx c0 k j v)(hl:aB s.get ρ G w l v) :
  R n F (Go.Proofs.YtpgnlmfmlffjcaaGreat.Rf.putAt k j l s).get ρ a w G/\Dbb s (Go.Proofs.YtpgnlmfmlffjcaaGreat.Rf.putAt k j l s)/\(Go.Proofs.YtpgnlmfmlffjcaaGreat.Rf.putAt k j l s).nv=s.nv:=by
 have il:∀ c,Ob9 j l c0=some c->(∀ r,k≠kR r)->(∃ t,(k=kT t/\∃ sv,c=.slot none sv/\bU (upds s.get [(k,c)]) ρ G w sv (Aad n a F.gh t))\/(k=kB t/\∃ ro ls,c=.box ro ls/\Kam (upds s.get [(k,c)]) ρ G w t ro ls))->(∀ b ls,k=kB b->c=.box false ls->∃ fm,c0=.box false fm/\ls.length=fm.length) ->
   R n F (Go.Proofs.YtpgnlmfmlffjcaaGreat.Rf.putAt k j l s).get ρ a w G/\Dbb s (Go.Proofs.YtpgnlmfmlffjcaaGreat.Rf.putAt k j l s)/\(Go.Proofs.YtpgnlmfmlffjcaaGreat.Rf.putAt k j l s).nv=s.nv:=by
  intro c hc gS hcr w9
  have e:Go.Proofs.YtpgnlmfmlffjcaaGreat.Rf.putAt k j l s=s.puts [(k,c)]:=by
   unfold Go.Proofs.YtpgnlmfmlffjcaaGreat.Rf.putAt;rw[hk,Qb7,hc];rfl
  have hg:(s.puts [(k,c)]).get=upds s.get [(k,c)]:=xH fun k' c' hm=>by
   simp only[Rbb,Prod.mk.injEq]at hm;rw[hm.1];exact Bah hk
  obtain⟨e1,e2,e3,e4⟩:=iC [(k,c)] s
  have bq:∀ k' c',(k',c')∈[(k,c)]->k'=k/\c'=c:=by
   intro k' c' hm;simpa using hm
  rw[e];refine⟨?_,⟨e3,e4,fun r=>?_⟩,e1⟩
  ·rw[hg]
   have cm:=Fr.nonroot s.get G w [(k,c)] fun k' c' hm r=>by rw[(bq _ _ hm).1];exact gS r
   refine h.upd _ cm h.tmps h.defers h.frame (fun _ _=>rfl) (fun _ _ _ _ _=>⟨rfl,rfl⟩) (fun b ls hm hb ho=>?_) (fun k' c' hm _=>?_)
   ·obtain⟨e5,e6⟩:=bq _ _ hm
    obtain⟨fm,h1,h2⟩:=w9 b ls e5.symm e6.symm;rw[h1]at hk;rw[h2];exact h.rng b fm (by rw[e5];exact hk) hb ho
   ·obtain⟨rfl,rfl⟩:=bq _ _ hm
    obtain⟨t,⟨e7,sv,e8,h8⟩|⟨e7,ro,ls,e8,h8⟩⟩:=hcr
    ·subst e8
     exact⟨t,e7,fun _=>h8⟩
    ·subst e8
     exact⟨t,e7,h8⟩
  ·rw[hg]
   exact dZ _ _ _ fun c' hm=>gS r (bq _ _ hm).1.symm
 have cm:∀ c,(∀ r,k≠kR r)->Fr s.get G w (upds s.get [(k,c)]) G w:=fun c gS=>Fr.nonroot s.get G w [(k,c)] fun k' c' hm r=>by
  simp only[Rbb,Prod.mk.injEq]at hm;rw[hm.1];exact gS r
 cases hv with
 | one t l0 =>
  exact il (.slot none (.one l)) rfl (fun r=>gX) ⟨t,.inl ⟨rfl,_,rfl,aB.mono (cm _ fun r=>gX) l _ hl⟩⟩ (fun b ls e=>absurd e kP)
 | agg t ls vs _ _ h2 hvj =>
  have h1:=h.slot hk rfl;obtain⟨pN,sf,h3⟩:bU s.get ρ G w (.agg ls) _:=h1;rw[h2]at sf
  injection sf with e
  have e:=Ear e;subst e;have hf:=cm (.slot none (.agg (ls.set j l))) fun r=>gX
  refine il (.slot none (.agg (ls.set j l))) rfl (fun r=>gX) ⟨t,.inl ⟨rfl,_,rfl,vs,h2,?_⟩⟩ (fun b ls e=>absurd e kP);refine aD.of_get (by simp[h3.len]) fun i l' v' hi uu=>?_
  rw[Sb0]at hi;split at hi
  ·rename_i nh
   subst nh;split at hi
   ·obtain rfl:=Option.some.inj hi
    rw[uu]at hvj;obtain rfl:=Option.some.inj hvj;exact aB.mono hf _ _ hl
   ·cases hi
  ·obtain⟨u,hu,hu2⟩:=h3.get hi
   rw[uu]at hu;obtain rfl:=Option.some.inj hu;exact aB.mono hf _ _ hu2
 | box b _ ro ls _ hb =>
  obtain⟨h1,h2,h3⟩:=h.box hk;have hf:=cm (.box ro (ls.set j l)) fun r=>eO
  refine il (.box ro (ls.set j l)) rfl (fun r=>eO) ⟨b,.inr ⟨rfl,_,_,rfl,h1,h2,fun i l' hi=>?_⟩⟩ (fun b' fR e e'=>?_)
  ·rw[Sb0]at hi
   split at hi
   ·rename_i nh
    subst nh;split at hi
    ·rename_i hlt
     obtain rfl:=Option.some.inj hi;obtain⟨v0,h4,h5,h6⟩:=h3 _ _ (Qb3 hlt);rw[h4]at hb;obtain rfl:=Option.some.inj hb;exact⟨v0,h4,h5,aB.mono hf _ _ hl⟩
    ·cases hi
   ·obtain⟨u,h4,h5,h6⟩:=h3 i l' hi
    exact⟨u,h4,h5,aB.mono hf _ _ h6⟩
  ·injection e' with e1 e2
   subst e1 e2;exact⟨ls,rfl,by simp⟩
end
section
variable {E:Env} {F:bE} {σ:Nat->Option aP} {ρ:List D} {a:Act} {w:World} {G G':Gh}
def Pbb:Oper:={ (default:Oper) with dst:=none }
theorem R.roots (h:R E.ntmps F σ ρ a w G){ur:List (Nat×aP)}{f:Nat->List Nat->Ow}
  (hu:∀ k c,(k,c)∈ur->∃ r,k=kR r) (ab:∀ b,G'.own b=lS f (G.own b))
  (uz:∀ b r p,G.own b=.slc r p->(∀ c,(kR r,c)∉ur)->f r p=.slc r p)
  (vt:∀ r c,(kR r,c)∈ur->upds σ ur (kR r)=some c->Chg σ G w G' w r c)
  (lz:∀ r x m k,σ (kR r)=some (.root x m k .frozen)->∀ s p q,f s p=.slc r q->s=r/\p=q)
  (pC:∀ r,(σ (kR r)).isSome->G'.hdr r=G.hdr r) (cT:G'.bx=G.bx)
  (cw:∀ r c,(kR r,c)∈ur->upds σ ur (kR r)=some c->∃ x m an st,c=.root x m an st/\bM (upds σ ur) ρ G' w r x m st):R E.ntmps F (upds σ ur) ρ a w G':=by
 have h0:dL Pbb none .dead=[]:=rfl
 have:=h.own (o:=Pbb) (g:=none) (sv:=.dead) (v:=undef) (ur:=ur) (f:=f) (wr:=fun _=>False) (G':=G') (w':=w) (fun d hd=>by cases hd) hu (fun b _=>ab b)
  (fun b hb=>by rw[ab,h.frame.fresh b hb];rfl) ⟨rfl,rfl,rfl,Rbg _⟩ (fun b hb=>.inl (by rw[ab,h.frame.fresh b hb];rfl)) (fun _ _ _=>rfl) (fun b hb=>hb.elim) uz
  (by rw[h0,Sba];exact vt) lz pC cT (fun _ _=>trivial) (by rw[h0,Sba];exact fun _=>cw)
 rw[h0,Sba]at this;exact this
def mvF (r rN m:Nat)(s:Nat)(p:List Nat):Ow:=if s=r then (if p.length<m then .slc rN p else .frz) else .slc s p
theorem R.moveRoot (h:R E.ntmps F σ ρ a w G){r rN m m' v:Nat}{x x0:aI}(hr:σ (kR r)=some (.root x0 m' v .live))(hN:σ (kR rN)=none)(hm:m<=m'){u:Value}
  (cA:Rp G.own w r [] m' u (x.val ρ)) {st:RSt} (aj:st=.gone\/(st=.fwd rN/\u=G.hdr r)) :
  ∃ G',R E.ntmps F (upds σ [(kR r,.root (.c .hole) 0 0 st),(kR rN,.root x m 0 .live)]) ρ a w G'/\G'.hdr rN=u/\G'.bx=G.bx:=by
 have bh:r≠rN:=fun e=>by rw[e,hN]at hr;cases hr
 let G':Gh:={ own:=fun b=>lS (mvF r rN m) (G.own b),hdr:=fun s=>if s=rN then u else G.hdr s,bx:=G.bx }
 have e1:upds σ [(kR r,aP.root (.c .hole) 0 0 st),(kR rN,.root x m 0 .live)] (kR r)=some (.root (.c .hole) 0 0 st):=by
  simp only[upds,Sax];rw[if_neg fun e=>bh (eD e)];simp
 have e2:upds σ [(kR r,aP.root (.c .hole) 0 0 st),(kR rN,.root x m 0 .live)] (kR rN)=some (.root x m 0 .live):=by
  simp[upds,Sax]
 have bq:∀ s c,(kR s,c)∈[(kR r,aP.root (.c .hole) 0 0 st),(kR rN,.root x m 0 .live)]->s=r\/s=rN:=by
  intro s c hc;simp only[Rb2,Prod.mk.injEq,Sbn,or_false]at hc;exact hc.imp (fun e=>eD e.1) (fun e=>eD e.1)
 refine⟨G',h.roots (f:=mvF r rN m) ?_ (fun b=>rfl) ?_ ?_ ?_ ?_ rfl ?_,by simp[G'],rfl⟩
 ·intro k c hc
  simp only[Rb2,Prod.mk.injEq,Sbn,or_false]at hc
  rcases hc with ⟨e,-⟩|⟨e,-⟩<;>exact⟨_,e⟩
 ·intro b s p hb hn
  unfold mvF;rw[if_neg fun e=>hn _ (by rw[e];exact Rbj)]
 ·intro s c hc cQ
  rcases bq s c hc with rfl|rfl
  ·rw[e1]at cQ
   obtain rfl:=Option.some.inj cQ;refine .inr (.inr (.inl ⟨_,_,_,_,rfl,?_,?_⟩))<;>rcases aj with e|⟨e,-⟩<;>rw[e]<;>simp
  ·rw[e2]at cQ
   obtain rfl:=Option.some.inj cQ;exact .inl ⟨hN,_,_,_,_,rfl⟩
 ·intro r0 x1 m1 k1 hk s p q hf
  unfold mvF at hf;split at hf
  ·split at hf
   ·injection hf with f1 f2
    rw[<- f1,hN]at hk;cases hk
   ·cases hf
  ·injection hf with f1 f2
   exact⟨f1,f2⟩
 ·intro s hs
  show (if s=rN then u else G.hdr s)=_
  rw[if_neg];intro e;rw[e,hN]at hs;cases hs
 ·intro s c hc cQ
  rcases bq s c hc with rfl|rfl
  ·rw[e1]at cQ
   obtain rfl:=Option.some.inj cQ;refine⟨_,_,_,_,rfl,?_⟩
   rcases aj with e|⟨e,hu⟩
   ·subst e;trivial
   ·subst e
    refine⟨?_,by rw[e2];rfl⟩;show (if s=rN then u else G.hdr s)=(if rN=rN then u else G.hdr rN)
    rw[if_neg bh,if_pos rfl,hu]
  ·rw[e2]at cQ
   obtain rfl:=Option.some.inj cQ;refine⟨_,_,_,_,rfl,?_⟩;show Rp G'.own w s [] m (if s=s then u else G.hdr s) (x.val ρ)
   rw[if_pos rfl]
   have hw:=cA.weaken (own':=fun b=>lS (fun s' p=>if s'=r then (if p.length<m then .slc r p else .frz) else .slc s' p) (G.own b)) (fun b hb=>by rw[hb];rfl) m hm (fun b t hb=>by
    rw[hb];simp only[lS,if_pos rfl,Sba]
    rfl)
   have:=hw.mono (own':=G'.own) (w':=w) (q:=[]) (q':=[]) (r':=s) (fun b hb=>⟨?_,rfl⟩) [] rfl (fun b t hb=>⟨?_,rfl⟩)
   ·simpa using this
   ·show lS _ (G.own b)=_
    cases e:G.own b with
    | slc s' p =>
     rw[e]at hb;simp only[lS]at hb ⊢;unfold mvF;split at hb
     ·rename_i fL
      rw[if_pos fL];split at hb
      ·cases hb
      ·rename_i hl;rw[if_neg hl]
     ·cases hb
    |_=>rw[e]at hb;simpa[lS] using hb
   ·show lS _ (G.own b)=_
    cases e:G.own b with
    | slc s' p =>
     rw[e]at hb;simp only[lS]at hb ⊢;unfold mvF;split at hb
     ·rename_i fL
      rw[if_pos fL];split at hb
      ·rename_i hl
       rw[if_pos hl]
       injection hb with f1 f2
       rw[f2]
      ·cases hb
     ·rename_i fL
      injection hb with f1 f2
      exact absurd f1 fL
    |_=>rw[e]at hb;simp[lS]at hb
theorem R.nilRoot (h:R E.ntmps F σ ρ a w G){rN m z:Nat}(hN:σ (kR rN)=none) :
  ∃ G',R E.ntmps F (upds σ [(kR rN,.root (.c (.rows z [])) m 0 .live)]) ρ a w G'/\G'.hdr rN=.slice none 0 0/\G'.bx=G.bx:=by
 let G':Gh:={ own:=G.own,hdr:=fun s=>if s=rN then .slice none 0 0 else G.hdr s,bx:=G.bx }
 have e2:upds σ [(kR rN,aP.root (.c (.rows z [])) m 0 .live)] (kR rN)=some (.root (.c (.rows z [])) m 0 .live):=by
  simp[upds,Sax]
 have bq:∀ s c,(kR s,c)∈[(kR rN,aP.root (.c (.rows z [])) m 0 .live)]->s=rN:=by
  intro s c hc;simp only[Rb2,Prod.mk.injEq,Sbn,or_false]at hc;exact eD hc.1
 refine⟨G',h.roots (f:=fun s p=>.slc s p) ?_ (fun b=>?_) (fun _ _ _ _ _=>rfl) ?_ (fun _ _ _ _ _ s p q hf=>?_) ?_ rfl ?_,by simp[G'],rfl⟩
 ·intro k c hc
  simp only[Rb2,Prod.mk.injEq,Sbn,or_false]at hc;exact⟨_,hc.1⟩
 ·show G.own b=_
  cases G.own b<;>rfl
 ·intro s c hc cQ
  obtain rfl:=bq s c hc;rw[e2]at cQ;obtain rfl:=Option.some.inj cQ;exact .inl ⟨hN,_,_,_,_,rfl⟩
 ·injection hf with f1 f2
  exact⟨f1,f2⟩
 ·intro s hs
  show (if s=rN then _ else G.hdr s)=_
  rw[if_neg];intro e;rw[e,hN]at hs;cases hs
 ·intro s c hc cQ
  obtain rfl:=bq s c hc;rw[e2]at cQ;obtain rfl:=Option.some.inj cQ;refine⟨_,_,_,_,rfl,?_⟩;show Rp G.own w s [] m (if s=s then _ else G.hdr s) (.rows z [])
  rw[if_pos rfl]
  cases m with
  |zero=>exact .fz (.rows none ⟨0,0,none⟩ 0 0 z [] (fun _ _=>undef) rfl (Rbg _) (.inl rfl) (by simp) (by simp) (by simp))
  |succ m=>exact .sl none ⟨0,0,none⟩ 0 0 z [] (fun _ _=>undef) rfl (Rbg _) (.inr ⟨rfl,rfl⟩) (by simp) (fun e=>by cases e) (by simp) (by simp)
def fzF (rs:List Nat)(s:Nat)(p:List Nat):Ow:=if s∈rs then .frz else .slc s p
theorem R.freeze (h:R E.ntmps F σ ρ a w G){rs:List Nat}{fr:List (Nat×aP)}(cm:(dH rs).eval σ=some fr) :
  ∃ G',R E.ntmps F (upds σ fr) ρ a w G'/\(∀ b,G'.own b=lS (fzF rs) (G.own b))/\G'.hdr=G.hdr/\G'.bx=G.bx:=by
 obtain⟨h1,h2⟩:=fK cm
 let G':Gh:={ own:=fun b=>lS (fzF rs) (G.own b),hdr:=G.hdr,bx:=G.bx }
 have a2u:∀ b r p,G.own b=.slc r p->r∈rs->∃ c,(kR r,c)∈fr:=by
  intro b r p hb hr
  rcases h1 r hr with ⟨x,m,an,-,h4⟩|⟨x,m,an,h4⟩
  ·exact⟨_,h4⟩
  ·exact absurd hb ((h.root h4).2 b p)
 have b5:∀ r c,(kR r,c)∈fr->∃ x m an,c=.root x m an .frozen/\σ (kR r)=some (.root x m an .live)/\r∈rs:=by
  intro r c hc;obtain⟨s,hs,x,m,an,e,e',h3⟩:=h2 _ _ hc;obtain rfl:=eD e;exact⟨x,m,an,e',h3,hs⟩
 have vq:∀ r x m an,σ (kR r)=some (.root x m an .live)->r∈rs->Rd (fun b=>G'.own b=.frz) w (G.hdr r) (x.val ρ):=by
  intro r x m an hk hr;have h3:=h.root hk;simp only[bM]at h3;refine h3.rd.mono fun b hb=>⟨?_,rfl⟩
  show lS _ _=_
  rcases hb with hb|⟨q,hb⟩
  ·rw[hb];rfl
  ·rw[hb];simp only[lS,fzF];rw[if_pos hr]
 refine⟨G',h.roots (f:=fzF rs) ?_ (fun b=>rfl) ?_ ?_ ?_ (fun _ _=>rfl) rfl ?_,fun b=>rfl,rfl,rfl⟩
 ·intro k c hc
  obtain⟨s,-,x,m,an,e,-⟩:=h2 _ _ hc;exact⟨s,e⟩
 ·intro b r p hb hn
  unfold fzF;rw[if_neg];intro hr;obtain⟨c,hc⟩:=a2u b r p hb hr;exact hn c hc
 ·intro r c hc _
  obtain⟨x,m,an,rfl,h3,h4⟩:=b5 r c hc;refine .inr (.inr (.inr ⟨x,m,an,h3,rfl,fun b p hb=>⟨?_,rfl⟩⟩));show lS _ _=_
  rw[hb];simp only[lS,fzF];rw[if_pos h4]
 ·intro r x m k hk s p q hf
  unfold fzF at hf;split at hf
  ·cases hf
  ·injection hf with f1 f2
   exact⟨f1,f2⟩
 ·intro r c hc _
  obtain⟨x,m,an,rfl,h3,h4⟩:=b5 r c hc;refine⟨_,_,_,_,rfl,vq r x m an h3 h4,fun b p hb=>?_⟩;have hb:lS (fzF rs) (G.own b)=.slc r p:=hb
  cases e:G.own b with
  | slc s q =>
   rw[e]at hb;simp only[lS,fzF]at hb;split at hb
   ·cases hb
   ·rename_i hs
    injection hb with f1 f2
    rw[f1]at hs;exact hs h4
  |_=>rw[e]at hb;simp[lS]at hb
theorem wN {rs:List Nat}{deps:List (Nat×Nat)}(ab:∀ b,G'.own b=lS (fzF rs) (G.own b))(hd:∀ z∈deps,z.1∈rs){b:Nat}(hb:allow G deps b):allow G' [] b:=by
 refine .inl ?_;rw[ab]
 rcases hb with hb|⟨r,k,p,hm,hb⟩
 ·rw[hb];rfl
 ·rw[hb]
  simp only[lS,fzF];rw[if_pos (hd _ hm)]
theorem Hag {s:St}{rs:List Nat}{fr:List (Nat×aP)}(cm:(dH rs).eval s.get=some fr):∀ k c,(k,c)∈fr->uK s.nt s.nb s.nr k=true:=by
 intro k c hc;obtain⟨r,-,x,m,an,rfl,-,h3⟩:=(fK cm).2 k c hc;exact Bah h3
end
structure RI (nr len i:Nat) (s:St):Prop where
 nr_:s.nr=nr+len
 free:∀ j,i<=j->j<len->s.get (kR (nr+j))=none
section
variable {E:Env} {F:bE} {ρ:List D} {a:Act} {w:World} {G:Gh} {cf:Nat->List D->Option (List D)} {nr len i:Nat} {s s':St}
theorem RI.succ (h:RI nr len i s):RI nr len (i+1) s:=⟨h.nr_,fun j h1 h2=>h.free j (by omega) h2⟩
theorem RI.keeps (h:RI nr len i s)(hk:Dbb s s'):RI nr len i s':=⟨hk.nr.trans h.nr_,fun j h1 h2=>by rw[hk.root];exact h.free j h1 h2⟩
theorem RI.puts (h:RI nr len i s){u:List (Nat×aP)}{i':Nat}(hi:i<=i')(hg:(s.puts u).get=upds s.get u)(hu:∀ j,i'<=j->j<len->∀ c,(kR (nr+j),c)∉u):RI nr len i' (s.puts u) :=
 ⟨(iC u s).2.2.1.trans h.nr_,fun j h1 h2=>by rw[hg,dZ _ _ _ (hu j h1 h2)];exact h.free j (by omega) h2⟩
theorem Aa0 {u:List (Nat×aP)}{G':Gh}(hg:(s.puts u).get=upds s.get u)(eu:R E.ntmps F (upds s.get u) ρ a w G')(cT:G'.bx=G.bx){k j:Nat}{c0:aP}(hk:s.get k=some c0)
  {v:Value} (hv:ValAt E.ntmps F.gh a w G.bx c0 k j v) (hu:∀ c,(k,c)∉u) {l:aO} (hl:aB (upds s.get u) ρ G' w l v) :
  R E.ntmps F (putAt k j l (s.puts u)).get ρ a w G'/\Dbb (s.puts u) (putAt k j l (s.puts u))/\(putAt k j l (s.puts u)).nv=s.nv:=by
 rw[<- hg]at eu hl;have fy:(s.puts u).get k=some c0:=by rw[hg,dZ _ _ _ hu];exact hk
 obtain⟨h1,h2,h3⟩:=eu.putAt fy (by rw[cT];exact hv) hl;exact⟨h1,h2,h3.trans (iC u s).1⟩
theorem wU {n:Nat}{gh:Nat->Value}{bx:Nat->Addr}{c0:aP}{k j:Nat}{v:Value}(h:ValAt n gh a w bx c0 k j v):∀ r,k≠kR r:=by
 intro r
 cases h with
 |one=>exact gX
 |agg=>exact gX
 |box=>exact eO
theorem vD (hR:R E.ntmps F s.get ρ a w G)(hI:RI nr len i s){rs:List Nat}{fr:List (Nat×aP)}(cm:(dH rs).eval s.get=some fr){k j:Nat}{c0:aP}(hk:s.get k=some c0)
  {v:Value} (hv:ValAt E.ntmps F.gh a w G.bx c0 k j v) {l:aO} (hl:∀ G' cd,(∀ b,G'.own b=lS (fzF rs) (G.own b))->aB cd ρ G' w l v) :
  (∃ G',R E.ntmps F (putAt k j l (s.puts fr)).get ρ a w G')/\RI nr len (i+1) (putAt k j l (s.puts fr))/\(putAt k j l (s.puts fr)).nt=s.nt/\(putAt k j l (s.puts fr)).nv=s.nv:=by
 obtain⟨G',eu,h1,h2,h3⟩:=hR.freeze cm;have hg:(s.puts fr).get=upds s.get fr:=xH (Hag cm);have hfk:=(fK cm).2
 obtain⟨h4,h5,h6⟩:=Aa0 hg eu h3 hk hv (fun c hc=>by
  obtain⟨r,-,x,m,an,e,-⟩:=hfk _ _ hc;exact wU hv r e) (hl G' _ h1)
 refine⟨⟨G',h4⟩,RI.keeps (hI.succ.puts (Rbg _) hg fun q oX lA c hc=>?_) h5,h5.nt.trans (iC fr s).2.2.2,h6⟩;obtain⟨r,-,x,m,an,e,-,h7⟩:=hfk _ _ hc;rw[<- e,hI.free q (by omega) lA]at h7;cases h7
theorem Oaa {p:Pos}{ls:List Step}{x:aI}(h:Ka6 E p nr i s=some (ls,s',x))(hI:RI nr len i s)(hi:i<len)(hR:R E.ntmps F s.get ρ a w G)(aj:aL cf ρ none s.nv ls) :
  (∃ G',R E.ntmps F s'.get ρ a w G')/\RI nr len (i+1) s'/\s'.nt=s.nt/\s'.nv=s.nv+bF ls:=by
 have pS:=hI.free i (Rbg _) hi;have hkN:uK s.nt s.nb s.nr (kR (nr+i))=true:=Oao (by rw[hI.nr_];omega);unfold Ka6 at h;dsimp only at h;split at h
 ·
  simp only[Option.some.injEq,Prod.mk.injEq]at h;obtain⟨rfl,rfl,rfl⟩:=h;exact⟨⟨G,hR⟩,hI.succ,rfl,rfl⟩
 ·
  rename_i al r hf hl;split at h
  ·rename_i x0 m0 v0 r' hk
   cases hb:Nat.beq r' (nr+al) with
   |false=>rw[hb]at h;simp[jI]at h
   | true =>
    rw[hb,cond_true]at h;simp only[Option.some.injEq,Prod.mk.injEq]at h;obtain⟨rfl,rfl,rfl⟩:=h;simp only[Rbv]at hb;obtain⟨v,c,kg,kk,ef⟩:=hR.valAt (iQ hl (by simp));simp only[aB]at ef;have nz:=hR.root hk;simp only[bM]at nz
    obtain⟨h1,h2,h3⟩:=hR.putAt kg kk (l:=.ex (nr+al)) (by
     simp only[aB];rw[<- hb];exact⟨ef.1.trans nz.1,nz.2,ef.2.2⟩)
    exact⟨⟨G,h1⟩,(hI.keeps h2).succ,h2.nt,h3⟩
  ·simp[jI]at h
 ·
  simp only[Option.some.injEq,Prod.mk.injEq]at h;obtain⟨rfl,rfl,rfl⟩:=h;exact⟨⟨G,hR⟩,hI.succ,rfl,rfl⟩
 ·
  rename_i m r hf hl;split at h
  ·rename_i x0 m' v0 hk
   cases hb:Nat.ble m m' with
   |false=>rw[hb]at h;simp[jI]at h
   | true =>
    rw[hb,cond_true]at h;simp only[Option.some.injEq,Prod.mk.injEq]at h;obtain⟨rfl,rfl,rfl⟩:=h;simp only[Sbb]at hb;obtain⟨v,c,kg,kk,ef⟩:=hR.valAt (iQ hl (by simp));simp only[aB]at ef;have nz:=hR.root hk;simp only[bM]at nz;obtain⟨G',eu,h1,h2⟩:=hR.moveRoot hk pS hb nz (.inr ⟨rfl,rfl⟩)
    have hg:=xH (s:=s) (u:=[(kR r,.root (.c .hole) 0 0 (.fwd (nr+i))),(kR (nr+i),.root x0 m 0 .live)]) (fun k c hc=>by
     simp only[Rb2,Prod.mk.injEq,Sbn,or_false]at hc
     rcases hc with ⟨e,-⟩|⟨e,-⟩<;>rw[e]
     ·exact Bah hk
     ·exact hkN)
    obtain⟨h3,h4,h5⟩:=Aa0 (j:=p.j) hg eu h2 kg kk (fun c hc=>by
     simp only[Rb2,Prod.mk.injEq,Sbn,or_false]at hc
     rcases hc with ⟨e,-⟩|⟨e,-⟩<;>exact wU kk _ e) (l:=.ex (nr+i)) (by
     simp only[aB];exact⟨by rw[h1];exact ef.1,dP _ _ _ (.inr ⟨.root x0 m 0 .live,by simp⟩),ef.2.2⟩)
    refine⟨⟨G',h3⟩,RI.keeps (hI.puts (Tb0 i) hg fun q oX lA c hc=>?_) h4,h4.nt.trans (iC _ s).2.2.2,h5⟩;simp only[Rb2,Prod.mk.injEq,Sbn,or_false]at hc
    rcases hc with ⟨e,-⟩|⟨e,-⟩
    ·rw[<- e,hI.free q (by omega) lA]at hk;cases hk
    ·have:=eD e;omega
  ·simp[jI]at h
 ·
  rename_i m nie z hf hl;simp only[Option.some.injEq,Prod.mk.injEq]at h;obtain⟨rfl,rfl,rfl⟩:=h;obtain⟨v,c,kg,kk,ef⟩:=hR.valAt (iQ hl (by simp));simp only[aB]at ef;have xa:v=.slice none 0 0:=(ef.2 (by simp)).2.1 trivial z rfl;obtain⟨G',eu,h1,h2⟩:=hR.nilRoot (m:=m) (z:=z) pS
  have hg:=xH (s:=s) (u:=[(kR (nr+i),.root (.c (.rows z [])) m 0 .live)]) (fun k c hc=>by
   simp only[Rb2,Prod.mk.injEq,Sbn,or_false]at hc;rw[hc.1];exact hkN)
  obtain⟨h3,h4,h5⟩:=Aa0 (j:=p.j) hg eu h2 kg kk (fun c hc=>by
   simp only[Rb2,Prod.mk.injEq,Sbn,or_false]at hc
   exact wU kk _ hc.1) (l:=.ex (nr+i)) (by
   simp only[aB];exact⟨by rw[h1];exact xa,dP _ _ _ (.inr ⟨.root (.c (.rows z [])) m 0 .live,by simp⟩),ef.1.1⟩)
  refine⟨⟨G',h3⟩,RI.keeps (hI.puts (Tb0 i) hg fun q oX lA c hc=>?_) h4,h4.nt.trans (iC _ s).2.2.2,h5⟩;simp only[Rb2,Prod.mk.injEq,Sbn,or_false]at hc;have:=eD hc.1;omega
 ·
  rename_i m r k nie x0 hf hl;split at h
  ·rename_i x1 m' v0 hk
   cases hb:(Nat.ble m m'&&Nat.beq v0 k) with
   |false=>rw[hb]at h;simp[jI]at h
   | true =>
    rw[hb,cond_true]at h;simp only[Option.some.injEq,Prod.mk.injEq]at h;obtain⟨rfl,rfl,rfl⟩:=h;simp only[Qb1,Sbb,Rbv]at hb;obtain⟨hb,rfl⟩:=hb;obtain⟨v,c,kg,kk,ef⟩:=hR.valAt (iQ hl (by simp));simp only[aB]at ef
    obtain⟨-,-,h0⟩:=ef.2 fun z hz=>by
     simp only[Rbb]at hz;subst hz;exact⟨x1,m',.live,hk,.inl rfl⟩
    have cA:=h0 r v0 m' rfl ⟨x1,hk⟩;obtain⟨G',eu,h1,h2⟩:=hR.moveRoot hk pS hb cA (.inl rfl)
    have hg:=xH (s:=s) (u:=[(kR r,.root (.c .hole) 0 0 .gone),(kR (nr+i),.root x0 m 0 .live)]) (fun k c hc=>by
     simp only[Rb2,Prod.mk.injEq,Sbn,or_false]at hc
     rcases hc with ⟨e,-⟩|⟨e,-⟩<;>rw[e]
     ·exact Bah hk
     ·exact hkN)
    obtain⟨h3,h4,h5⟩:=Aa0 (j:=p.j) hg eu h2 kg kk (fun c hc=>by
     simp only[Rb2,Prod.mk.injEq,Sbn,or_false]at hc
     rcases hc with ⟨e,-⟩|⟨e,-⟩<;>exact wU kk _ e) (l:=.ex (nr+i)) (by
     simp only[aB];exact⟨h1.symm,dP _ _ _ (.inr ⟨.root x0 m 0 .live,by simp⟩),ef.1.1⟩)
    refine⟨⟨G',h3⟩,RI.keeps (hI.puts (Tb0 i) hg fun q oX lA c hc=>?_) h4,h4.nt.trans (iC _ s).2.2.2,h5⟩;simp only[Rb2,Prod.mk.injEq,Sbn,or_false]at hc
    rcases hc with ⟨e,-⟩|⟨e,-⟩
    ·rw[<- e,hI.free q (by omega) lA]at hk;cases hk
    ·have:=eD e;omega
  ·simp[jI]at h
 ·
  rename_i hf;split at h
  ·rename_i x0 fr eo
   simp only[Option.some.injEq,Prod.mk.injEq]at h;obtain⟨rfl,rfl,rfl⟩:=h;simp only[aA,Qb0,aC,Option.some.injEq,Prod.mk.injEq]at eo;obtain⟨sl,h1,fr',h2,rfl,rfl⟩:=eo;obtain⟨v,c,kg,kk,ef⟩:=hR.valAt (iQ (k:=p.k) (j:=p.j) rfl (by intro e;rw[e]at h1;cases h1));have hs:=dM hR h1 ef;have gA:v.oneCell'=true:=ef.one (by cases fq:vS p.k p.j s<;>first|rfl|(rw[fq]at h1;cases h1));refine vD hR hI h2 kg kk fun G' cd ab=>?_
   simp only[aB];exact⟨⟨gA,by simp⟩,fun _=>⟨hs.rd.mono fun b hb=>⟨wN ab (fun z hz=>Sbh hz) hb,rfl⟩,fun e=>absurd e (by decide),trivial⟩⟩
  ·simp[jI]at h
 ·
  rename_i z hf hl;simp only[Option.some.injEq,Prod.mk.injEq]at h;obtain⟨rfl,rfl,rfl⟩:=h;obtain⟨v,c,kg,kk,ef⟩:=hR.valAt (iQ hl (by simp));simp only[aB]at ef
  obtain⟨h1,h2,h3⟩:=hR.putAt kg kk (l:=.rp [] z (.c (.rows z []))) (by
   simp only[aB];exact⟨⟨by rw[ef];rfl,by simp⟩,fun _=>.inl ⟨ef,z,rfl⟩⟩)
  exact⟨⟨G,h1⟩,(hI.keeps h2).succ,h2.nt,h3⟩
 ·
  rename_i z deps z' x0 hf hl;split at h
  ·rename_i fr eo
   simp only[Option.some.injEq,Prod.mk.injEq]at h;obtain⟨rfl,rfl,rfl⟩:=h;simp only[aA,Qb0]at eo;obtain⟨ds,h1,h2⟩:=eo;obtain⟨v,c,kg,kk,ef⟩:=hR.valAt (iQ hl (by simp));simp only[aB]at ef;obtain⟨h3,h4,h5⟩:=iG h1;refine vD hR hI h2 kg kk fun G' cd ab=>?_
   simp only[aB];refine⟨⟨ef.1.1,by simp⟩,fun _=>?_⟩
   rcases ef.2 h3 with h6|⟨ad,row,h6,h7,h8⟩
   ·exact .inl h6
   ·exact .inr ⟨ad,row,h6,h7,(h8.drop hR h5).mono fun b hb=>⟨wN ab (fun z hz=>Sbh hz) hb,rfl⟩⟩
  ·simp[jI]at h
 ·
  rename_i z l z' ix hf hl;split at h
  ·rename_i x0 fr eo
   simp only[Option.some.injEq,Prod.mk.injEq]at h;obtain⟨rfl,rfl,rfl⟩:=h;simp only[aA,Qb0,aC,Option.some.injEq,Prod.mk.injEq]at eo;obtain⟨sl,h1,fr',h2,rfl,rfl⟩:=eo;obtain⟨v,c,kg,kk,ef⟩:=hR.valAt (iQ hl (by simp));simp only[aB]at ef;obtain⟨ad,n,cp,ik,iv,h3,h4,h5,h6,h7⟩:=ef;have hs:=dM hR h1 h3;obtain⟨d,aw,hd⟩:=fF aj rfl;simp only[List.map_cons,List.map_nil,h4]at aw
   have dt:∃ sz rs r,sl.x.val ρ=.rows sz rs/\sz=z'/\rs[iv.toNat]?=some r/\d=.rows z' [r]:=by
    cases hx:sl.x.val ρ with
    | rows sz rs =>
     rw[hx]at aw;simp only[aR.run]at aw;split at aw
     ·rename_i hc
      split at aw
      ·rename_i r hr
       simp only[Option.some.injEq,List.cons.injEq,and_true]at aw;exact⟨sz,rs,r,rfl,hc.1,hr,aw.symm⟩
      ·cases aw
     ·cases aw
    |_=>rw[hx]at aw;simp[aR.run]at aw
   obtain⟨sz,rs,r,hx,rfl,hr,rfl⟩:=dt;have eo:=hs.rd;rw[hx]at eo;obtain⟨A',b,n',c',vs,e1,e2,e3,e4,e5,e6,e7⟩:=eo.inv
   injection e1 with e1 xy e1''
   have hlt:iv.toNat<rs.length:=(List.getElem?_eq_some_iff.1 hr).1;have hA:some ad=some b:=by rw[e1];exact e4.resolve_left (by omega)
   obtain rfl:=Option.some.inj hA;have lg:r.length=sz:=e5 r (List.mem_of_getElem? hr)
   obtain⟨q1,q2,q3,q4⟩:=vD hR hI h2 kg kk (l:=.rp [] z (.v s.nv)) fun G' cd ab=>by
    simp only[aB];refine⟨⟨by rw[h7];rfl,by simp⟩,fun _=>.inr ⟨_,r,h7,by rw[hd,lg],?_⟩⟩;have jv:∀ {b:Nat},allow G sl.deps b->allow G' [] b:=fun hb=>wN ab (fun z hz=>Sbh hz) hb
    refine .rows _ (ad.add (iv.toNat*sz+0)) 1 1 r.length [r] (fun _ j=>vs iv.toNat j) rfl (Rbg _) (.inr rfl) (by simp) (fun i0 r0 jq j d0 hj=>?_) (fun i0 r0 jq j d0 hj=>?_)
    ·cases i0 with
     | zero =>
      simp only[Qb9,Option.some.injEq]at jq;subst jq;obtain⟨k1,k2⟩:=e6 _ _ hr j d0 hj;refine⟨by rw[add_block];exact jv k1,?_⟩;rw[add_add];rw[show iv.toNat*sz+0+(0*r.length+j)=iv.toNat*sz+j by omega];exact k2
     |succ i0=>simp at jq
    ·cases i0 with
     | zero =>
      simp only[Qb9,Option.some.injEq]at jq;subst jq;exact (e7 _ _ hr j d0 hj).mono fun b hb=>⟨jv hb,rfl⟩
     |succ i0=>simp at jq
   exact⟨q1,⟨q2.nr_,q2.free⟩,q3,rfl⟩
  ·simp[jI]at h
 ·simp only[Option.some.injEq,Prod.mk.injEq]at h
  obtain⟨rfl,rfl,rfl⟩:=h;exact⟨⟨G,hR⟩,hI.succ,rfl,rfl⟩
 ·simp only[Option.some.injEq,Prod.mk.injEq]at h
  obtain⟨rfl,rfl,rfl⟩:=h;exact⟨⟨G,hR⟩,hI.succ,rfl,rfl⟩
 ·simp[jI]at h
theorem vE:∀ {ps:List Pos} {i:Nat} {s s':St} {ls:List Step} {xs:List aI} {G:Gh},jD E nr ps i s=some (ls,s',xs)->RI nr len i s->i+ps.length=len->R E.ntmps F s.get ρ a w G->aL cf ρ none s.nv ls ->
  (∃ G',R E.ntmps F s'.get ρ a w G')/\s'.nt=s.nt/\s'.nr=s.nr/\s'.nv=s.nv+bF ls
 | [], i, s, s', ls, xs, G, h, hI, hl, hR, aj => by
  simp only[jD,Option.some.injEq,Prod.mk.injEq]at h;obtain⟨rfl,rfl,rfl⟩:=h;exact⟨⟨G,hR⟩,rfl,rfl,rfl⟩
 | p :: ps, i, s, s', ls, xs, G, h, hI, hl, hR, aj => by
  simp only[jD,bind,Qb0]at h;obtain⟨⟨l1,s1,x1⟩,h1,⟨l2,s2,xs2⟩,h2,h3⟩:=h;simp only[Option.some.injEq,Prod.mk.injEq]at h3;obtain⟨rfl,rfl,rfl⟩:=h3;simp only[Rbe]at hl;obtain⟨jn,gz⟩:=aL.append aj;obtain⟨⟨G1,n3⟩,hI1,h4,h5⟩:=Oaa h1 hI (by omega) hR jn;rw[<- h5]at gz;obtain⟨h6,h7,h8,h9⟩:=vE h2 hI1 (by omega) n3 gz;refine⟨h6,h7.trans h4,h8.trans (hI1.nr_.trans hI.nr_.symm),?_⟩;rw[h9,h5,eH,Nat.add_assoc]
theorem oL:∀ {ps:List Pos} {i:Nat} {s s':St} {ls:List Step} {xs:List aI},jD E nr ps i s=some (ls,s',xs)->xs.length=ps.length
 | [], i, s, s', ls, xs, h => by
  simp only[jD,Option.some.injEq,Prod.mk.injEq]at h;obtain⟨rfl,rfl,rfl⟩:=h;rfl
 | p :: ps, i, s, s', ls, xs, h => by
  simp only[jD,bind,Qb0]at h;obtain⟨⟨l1,s1,x1⟩,h1,⟨l2,s2,xs2⟩,h2,h3⟩:=h;simp only[Option.some.injEq,Prod.mk.injEq]at h3;obtain⟨rfl,rfl,rfl⟩:=h3;simp[oL h2]
theorem lN {τ:St}:∀ {rs:List Nat} {s s':St} {G:Gh},gG τ rs s=some s'->R E.ntmps F s.get ρ a w G->∃ G',R E.ntmps F s'.get ρ a w G'
 | [], s, s', G, h, hR => by
  simp only[gG,Option.some.injEq]at h;subst h;exact⟨G,hR⟩
 | r :: rs, s, s', G, h, hR => by
  simp only[gG]at h;split at h
  ·rename_i x m v _ hk
   have cm:(dH [r]).eval s.get=some [(kR r,.root x m v .frozen)]:=by
    simp only[dH,aA,aQ,Qb7];rw[hk];rfl
   obtain⟨G',eu,-,-,-⟩:=hR.freeze cm;have hg:(s.puts [(kR r,.root x m v .frozen)]).get=upds s.get [(kR r,.root x m v .frozen)]:=xH (Hag cm);rw[<- hg]at eu;exact lN h eu
  ·exact lN h hR
theorem Haf {s:St}(h:mG s.tr s.nr len=true):RI s.nr len 0 { s with nr:=s.nr+len }:=by
 refine⟨rfl,fun j _ hj=>?_⟩;unfold St.get;dsimp only;rw[xQ h (s.nr+j) (by omega) (by omega)];cases uK s.nt s.nb (s.nr+len) (kR (s.nr+j))<;>rfl
theorem Tax {s:St}(h:mG s.tr s.nr len=true):({ s with nr:=s.nr+len }:St).get=s.get:=by
 funext k;unfold St.get;dsimp only;unfold uK
 cases b0:Nat.beq (k % 3) 0 with
 |true=>rfl
 | false =>
  rw[cond_false,cond_false]
  cases b1:Nat.beq (k % 3) 1 with
  |true=>rfl
  | false =>
   rw[cond_false,cond_false];have n0:k % 3≠0:=fun e=>by rw[e]at b0;cases b0
   have n1:k % 3≠1:=fun e=>by rw[e]at b1;cases b1
   cases hb:Sbg (k / 3) s.nr with
   | true =>
    have:Sbg (k / 3) (s.nr+len)=true:=by simp only[Rb4]at hb ⊢;omega
    rw[this]
   | false =>
    cases cr:Sbg (k / 3) (s.nr+len) with
    |false=>rfl
    | true =>
     simp only[Rb4]at cr
     have kn:s.nr<=k / 3:=by
      rcases Rbo (k / 3) s.nr with h1|h1
      ·rw[<- Rb4,hb]at h1;cases h1
      ·exact h1
     have:k=kR (k / 3):=by unfold kR;omega
     rw[cond_true,cond_false,this];exact xQ h _ kn cr
theorem Ray {s0:St}{bb:Nat}{ae:List Pos}{τ:St}{kind:Kind}{r:Tm St}(h:Hay E s0.nv s0.nr bb ae τ kind s=some r)(gE:yX E s0 bb ae.length τ){ρ0 e:List D}(hρ:ρ=ρ0++e)(h0:ρ0.length=s0.nv)
  {o:Out St} (ho:Ec cf r ρ=some o) (hl:ρ.length=s.nv) (hi:Cad E s) :
  o.kind=kind/\o.vals.length=ae.length/\∀ a w G,R E.ntmps F s.get ρ a w G->∃ G',R E.ntmps F τ.get (ρ0++o.vals) a w G':=by
 unfold Hay at h;simp only[bind,Qb0]at h;obtain⟨⟨ls,s1,xs⟩,h1,s2,h2,h3⟩:=h;dsimp only at h1 h2 h3;generalize hb:(mE E s0.nv xs s0.nr bb s.nr ae.length τ s2&&mG s.tr s.nr ae.length&&Nat.ble s0.nr s.nr&&dV s.nv ls&&xs.all (aX (s.nv+bF ls)))=b at h3
 cases b with
 |false=>simp[jI]at h3
 | true =>
  rw[cond_true]at h3;obtain rfl:=Option.some.inj h3;simp only[Qb1,Sbb]at hb;obtain⟨⟨⟨⟨kf,dm⟩,pB⟩,hb4⟩,hb5⟩:=hb;obtain⟨ds,h4,h5,h6⟩:=uR (g:=none) rfl (by rw[hl];exact hb4) ho;rw[fD]at h5;obtain rfl:=Option.some.inj h5;refine⟨rfl,by simp[Out.vals,oL h1],fun a w G hR=>?_⟩;have h6':=h6 [];rw[Rbs,hl]at h6'
  have n3:R E.ntmps F ({ s with nr:=s.nr+ae.length }:St).get (ρ++ds) a w G:=by
   rw[Tax dm];exact hR.ext hi.sc (by omega) ds
  obtain⟨⟨G1,vu⟩,h7,h8,h9⟩:=vE (cf:=cf) h1 (Haf dm) (by simp) n3 h6';obtain⟨G2,hR3⟩:=lN h2 vu;subst hρ;rw[Rba]at hR3;have:=hR3.fit h0 (oL h1) gE kf pB;rw[Rba];exact this
end
theorem qB (b c k:Nat):kH b c (kH b c k)=k:=by
 unfold kH
 cases h1:Nat.beq k b with
 | true =>
  simp only[Rbv]at h1;subst h1;rw[cond_true]
  cases h2:Nat.beq c k with
  |true=>simp only[Rbv]at h2;rw[cond_true];exact h2
  |false=>rw[cond_false,show Nat.beq c c=true by simp,cond_true]
 | false =>
  rw[cond_false]
  cases h2:Nat.beq k c with
  | true =>
   simp only[Rbv]at h2;subst h2;rw[cond_true,show Nat.beq b b=true by simp,cond_true]
  |false=>rw[cond_false,h1,h2,cond_false,cond_false]
theorem Nae {b c k K:Nat}(hk:k<K)(hb:K<=b)(hc:K<=c):kH b c k=k:=by
 unfold kH
 have h1:Nat.beq k b=false:=by cases h:Nat.beq k b with
  |false=>rfl
  |true=>simp only[Rbv]at h;omega
 have h2:Nat.beq k c=false:=by cases h:Nat.beq k c with
  |false=>rfl
  |true=>simp only[Rbv]at h;omega
 rw[h1,h2];rfl
theorem Ab8 {b c k n:Nat}(hb:b<n)(hc:c<n):kH b c k<n↔k<n:=by
 unfold kH
 cases h1:Nat.beq k b with
 |true=>simp only[Rbv]at h1;rw[cond_true];omega
 | false =>
  rw[cond_false]
  cases h2:Nat.beq k c with
  |true=>simp only[Rbv]at h2;rw[cond_true];omega
  |false=>rw[cond_false]
def swS (b c:Nat)(σ:Nat->Option aP):Nat->Option aP:=fun k=>(σ (lI b c k)).map (mP b c)
def swO (b c:Nat):Ow->Ow
 |.box j=>.box (kH b c j)
 |o=>o
def swG (b c:Nat)(G:Gh):Gh:=⟨fun x=>swO b c (G.own x),G.hdr,fun j=>G.bx (kH b c j)⟩
theorem Bag (b c r:Nat):lI b c (kR r)=kR r:=by
 unfold lI;rw[show Nat.beq (kR r % 3) 1=false by unfold kR;rw[show (3*r+2) % 3=2 by omega];rfl];rfl
theorem Oan (b c j:Nat):lI b c (kB j)=kB (kH b c j):=by
 unfold lI;have e1:kB j % 3=1:=by unfold kB;omega
 have e2:kB j / 3=j:=by unfold kB;omega
 rw[e1,e2];rfl
theorem Kaw {b c:Nat}{o:Ow}:swO b c o=.frz↔o=.frz:=by cases o<;>simp[swO]
theorem Kav {b c:Nat}{o:Ow}{r:Nat}{p:List Nat}:swO b c o=.slc r p↔o=.slc r p:=by cases o<;>simp[swO]
theorem Maf {b c:Nat}{y:aP}{x:aI}{m v:Nat}{st:RSt}:mP b c y=.root x m v st↔y=.root x m v st:=by cases y<;>simp[mP]
theorem Kau {b c:Nat}{σ:Nat->Option aP}{r:Nat}{x:aI}{m v:Nat}{st:RSt}:swS b c σ (kR r)=some (.root x m v st)↔σ (kR r)=some (.root x m v st):=by
 unfold swS;rw[Bag]
 cases σ (kR r) with
 |none=>simp
 |some y=>simp only[Rb9,Option.some.injEq];exact Maf
theorem Ea5 {b c:Nat}{σ:Nat->Option aP}{k:Nat}:(swS b c σ k).isSome=(σ (lI b c k)).isSome:=by
 unfold swS;cases σ (lI b c k)<;>rfl
section
variable {b c:Nat} {σ:Nat->Option aP} {ρ:List D} {G:Gh} {w:World}
theorem Sam {r k:Nat}:kY (swS b c σ) r k↔kY σ r k:=by
 unfold kY;simp only[Kau]
theorem San {r k:Nat}:iJ (swS b c σ) r k↔iJ σ r k:=by
 unfold iJ;simp only[Kau]
theorem Qaj {r k m:Nat}:yA (swS b c σ) r k m↔yA σ r k m:=by
 unfold yA;simp only[Kau]
theorem Sao {deps:List (Nat×Nat)}{x:Nat}(h:allow G deps x):allow (swG b c G) deps x:=by
 rcases h with h|⟨r,k,p,hm,h⟩
 ·exact .inl (Kaw.2 h)
 ·exact .inr ⟨r,k,p,hm,Kav.2 h⟩
theorem Ebc {r:Nat}{p:List Nat}{m:Nat}{v:Value}{d:D}(h:Rp G.own w r p m v d):Rp (swG b c G).own w r p m v d:=by
 have:=h.mono (own':=(swG b c G).own) (w':=w) (r':=r) (q:=[]) (q':=[]) (fun x hx=>⟨Kaw.2 hx,rfl⟩) p rfl (fun x t hx=>⟨Kav.2 hx,rfl⟩);simpa using this
theorem Ebd {r:Nat}{q p:List Nat}{v u:Value}(h:yG G.own w r q v p u):yG (swG b c G).own w r q v p u :=
 yG.mono p q q v u (fun x t hx=>⟨Kav.2 hx,rfl⟩) h
theorem Gbt {deps:List (Nat×Nat)}{v:Value}{d:D}{p:Pth}(h:Cac σ ρ G w deps v d p):Cac (swS b c σ) ρ (swG b c G) w deps v d p:=by
 cases p with
 |no=>trivial
 |view=>exact fun r k m e hl=>Ebc (h r k m e (Qaj.1 hl))
 |suf sz lo=>exact fun r k m e hl=>h r k m e (Qaj.1 hl)
 | path p =>
  intro r k m e hl;obtain⟨h1,h2,h3⟩:=h r k m e (Qaj.1 hl);exact⟨h1,Ebc h2,Ebd h3⟩
mutual
theorem Kat:∀ (l:aO) (v:Value),aB σ ρ G w l v->aB (swS b c σ) ρ (swG b c G) w (l.swap b c) v
 |.dead,_,hl=>by simpa[aB,aO.swap] using hl
 |.sc x,v,hl=>by simpa[aB,aO.swap] using hl
 |.su g x,v,hl=>by simpa[aB,aO.swap] using hl
 | .ex r, v, hl => by
  simp only[aB,aO.swap]at hl ⊢;exact⟨hl.1,by rw[Ea5,Bag];exact hl.2.1,hl.2.2⟩
 | .sn deps p nie x, v, hl => by
  simp only[aB,aO.swap]at hl ⊢;refine⟨⟨hl.1.1,fun z hz=>San.2 (hl.1.2 z hz)⟩,fun hv=>?_⟩;obtain⟨h1,h2,h3⟩:=hl.2 (fun z hz=>Sam.1 (hv z hz));exact⟨h1.mono fun x hx=>⟨Sao hx,rfl⟩,h2,Gbt h3⟩
 | .px k off, v, hl => by
  simp only[aB,aO.swap]at hl ⊢;refine⟨?_,?_⟩
  ·show v=.pointer (some ((G.bx (kH b c (kH b c k))).add off))
   rw[qB];exact hl.1
  ·rw[Ea5,Oan,qB];exact hl.2
 | .pe l sz i off, v, hl => by
  simp only[aB,aO.swap]at hl ⊢;obtain⟨a,n,c',k,iv,h1,h2⟩:=hl;exact⟨a,n,c',k,iv,Kat l _ h1,h2⟩
 | .rp deps sz x, v, hl => by
  simp only[aB,aO.swap]at hl ⊢;refine⟨⟨hl.1.1,fun z hz=>San.2 (hl.1.2 z hz)⟩,fun hv=>?_⟩
  rcases hl.2 (fun z hz=>Sam.1 (hv z hz)) with h1|⟨a,row,h1,h2,h3⟩
  ·exact .inl h1
  ·exact .inr ⟨a,row,h1,h2,h3.mono fun x hx=>⟨Sao hx,rfl⟩⟩
 |.pn,v,hl=>by simpa[aB,aO.swap] using hl
 | .clo f cD, v, hl => by
  simp only[aB,aO.swap]at hl ⊢;obtain⟨vs,h1,h2⟩:=hl;exact⟨vs,h1,Aak cD vs h2⟩
theorem Aak:∀ (ls:List aO) (vs:List Value),aD σ ρ G w ls vs->aD (swS b c σ) ρ (swG b c G) w (bQ b c ls) vs
 |[],vs,hl=>by simpa[aD,bQ] using hl
 | l :: ls, vs, hl => by
  simp only[aD,bQ]at hl ⊢;obtain⟨u,us,e,h1,h2⟩:=hl;exact⟨u,us,e,Kat l u h1,Aak ls us h2⟩
end
theorem Dbj:∀ (ts:List (Bool×List aO)) (us:List Value),gT σ ρ G w ts us->gT (swS b c σ) ρ (swG b c G) w (ts.map fun t=>(t.1,bQ b c t.2)) us
 |[],_,ht=>ht
 | (a, ls) :: r, us, ht => by
  obtain⟨u,bn,vs,e,h1,h2,h3⟩:=ht;exact⟨u,bn,vs,e,Aak ls vs h1,h2,Dbj r bn h3⟩
theorem Lbz {v:SV}{u:Value}(hv:bU σ ρ G w v u):bU (swS b c σ) ρ (swG b c G) w (Waj b c v) u:=by
 cases v with
 |dead=>trivial
 |one l=>exact Kat l u hv
 |agg ls=>obtain⟨vs,e,h1⟩:=hv;exact⟨vs,e,Aak ls vs h1⟩
 |tup ts=>obtain⟨us,e,h1⟩:=hv;exact⟨us,e,Dbj ts us h1⟩
theorem Aa8:∀ (ls:List aO) (j:Nat),(bQ b c ls)[j]?=(ls[j]?).map (aO.swap b c)
 |[],j=>by simp[bQ]
 |l::ls,0=>by simp[bQ]
 |l::ls,j+1=>by simp[bQ,Aa8 ls j]
theorem yQ:∀ (ls:List aO),(bQ b c ls).length=ls.length
 |[]=>rfl
 |l::ls=>by simp[bQ,yQ ls]
end
def Dao (F:bE)(K:Nat):Prop:=∀ x j,x<F.w0.heap.size->F.own0 x=.box j->j<K
theorem R.swap {n:Nat}{F:bE}{σ:Nat->Option aP}{ρ:List D}{a:Act}{w:World}{G:Gh}(h:R n F σ ρ a w G){K:Nat}(hF:Dao F K){b c:Nat}(hb:K<=b)(hc:K<=c):R n F (swS b c σ) ρ a w (swG b c G):=by
 refine⟨h.tmps,h.defers,fun k y hk=>?_,⟨h.frame.os,h.frame.tape,h.frame.output,h.frame.size,fun x hx ho=>?_,fun x j hx ho=>?_,fun x hx=>Kaw.2 (h.frame.fresh x hx)⟩,fun j ls hk hx ho=>?_⟩
 ·unfold swS at hk
  rw[Rbc]at hk;obtain⟨z,hz,rfl⟩:=hk;have hr:=h.cont _ _ hz
  cases z with
  | slot g v =>
   obtain⟨t,e,h1⟩:=hr
   have ek:k=kT t:=by
    unfold lI at e
    cases hm:Nat.beq (k % 3) 1 with
    |true=>rw[hm,cond_true]at e;exact absurd e.symm kP
    |false=>rw[hm,cond_false]at e;exact e
   exact⟨t,ek,fun hg=>Lbz (h1 hg)⟩
  | box ro ls =>
   obtain⟨j,e,h1,h2,h3⟩:=hr
   have ek:k=kB (kH b c j):=by
    unfold lI at e
    cases hm:Nat.beq (k % 3) 1 with
    | true =>
     rw[hm,cond_true]at e;simp only[Rbv]at hm;have:=Bai e;rw[<- this,qB];unfold kB;omega
    | false =>
     rw[hm,cond_false]at e;rw[e]at hm;have:kB j % 3=1:=by unfold kB;omega
     rw[this]at hm;cases hm
   refine⟨kH b c j,ek,?_,?_,fun i l hl=>?_⟩
   ·show (G.bx (kH b c (kH b c j))).spot=none
    rw[qB];exact h1
   ·show swO b c (G.own (G.bx (kH b c (kH b c j))).block)=_
    rw[qB,h2];cases ro<;>rfl
   ·rw[Aa8,Rbc]at hl
    obtain⟨l0,ia,rfl⟩:=hl;obtain⟨v,h4,h5,h6⟩:=h3 i l0 ia;show ∃ v,w.cell? ((G.bx (kH b c (kH b c j))).add i)=some v/\w.frozen? ((G.bx (kH b c (kH b c j))).add i)=false/\_
    rw[qB];exact⟨v,h4,h5,Kat l0 v h6⟩
  | root x m an st =>
   obtain⟨r,e,h1,h2⟩:=hr
   have ek:k=kR r:=by
    unfold lI at e
    cases hm:Nat.beq (k % 3) 1 with
    |true=>rw[hm,cond_true]at e;exact absurd e eO
    |false=>rw[hm,cond_false]at e;exact e
   refine⟨r,ek,by rw[Ea5,Bag];exact h1,?_⟩
   cases st with
   |live=>exact Ebc h2
   |frozen=>exact⟨h2.1.mono fun x hx=>⟨Kaw.2 hx,rfl⟩,fun x p hx=>h2.2 x p (Kav.1 hx)⟩
   |gone=>trivial
   |fwd r'=>exact⟨h2.1,by rw[Ea5,Bag];exact h2.2⟩
 ·obtain⟨h1,h2⟩:=h.frame.keep x hx ho
  refine⟨h1,?_⟩;show swO b c (G.own x)=_
  rw[h2]
  rcases ho with ho|ho<;>rw[ho]<;>rfl
 ·obtain⟨h1,h2⟩:=h.frame.boxes x j hx ho
  refine⟨?_,h2⟩;show swO b c (G.own x)=_
  rw[h1];show Ow.box (kH b c j)=_
  rw[Nae (hF x j hx ho) hb hc]
 ·have hj:=hF _ j hx ho
  have e:=Nae hj hb hc
  have fy:σ (kB j)=some (.box false ls)\/∃ l0,σ (kB j)=some (.box false l0)/\l0.length=ls.length:=by
   unfold swS at hk;rw[Oan,e,Rbc]at hk;obtain⟨z,hz,hs⟩:=hk
   cases z with
   |slot=>simp[mP]at hs
   |root=>simp[mP]at hs
   | box ro l0 =>
    simp only[mP,aP.box.injEq]at hs;obtain⟨rfl,rfl⟩:=hs;exact .inr ⟨l0,hz,(yQ l0).symm⟩
  have e2:(swG b c G).bx j=G.bx j:=by show G.bx (kH b c j)=_;rw[e]
  rw[e2]at hx ho ⊢
  rcases fy with fy|⟨l0,fy,hl⟩
  ·exact h.rng j ls fy hx ho
  ·rw[<- hl];exact h.rng j l0 fy hx ho
theorem Jan {f:Nat->Option aP}:∀ (L:List Nat) (t:Tr aP) (k:Nat),(Oab f L t).get k=if k∈L then f k else t.get k
 |[],t,k=>by simp[Oab]
 | x :: L, t, k => by
  rw[Oab,Jan L _ k];by_cases h:k∈L
  ·rw[if_pos h,if_pos (Rbd _ h)]
  ·rw[if_neg h,Tr.get_set]
   by_cases e:k=x
   ·subst e;rw[if_pos rfl,if_pos Rbj]
   ·rw[if_neg e,if_neg (by simp only[Rb2,not_or];exact⟨e,h⟩)]
theorem Ibc {nt nb nr k:Nat}:k∈(range 0 nt).map kT++(range 0 nb).map kB++(range 0 nr).map kR↔uK nt nb nr k=true:=by
 unfold uK;simp only[List.mem_append,List.mem_map,mem_range];constructor
 ·rintro ((⟨x,hx,rfl⟩|⟨x,hx,rfl⟩)|⟨x,hx,rfl⟩)
  ·rw[show kT x % 3=0 by unfold kT;omega,show kT x / 3=x by unfold kT;omega];simpa using hx.2
  ·rw[show kB x % 3=1 by unfold kB;omega,show kB x / 3=x by unfold kB;omega];simpa using hx.2
  ·rw[show kR x % 3=2 by unfold kR;omega,show kR x / 3=x by unfold kR;omega];simpa using hx.2
 ·have a2z:k % 3=0\/k % 3=1\/k % 3=2:=by omega
  rcases a2z with h|h|h<;>rw[h]<;>intro hk
  ·have fy:k / 3<nt:=by simpa using hk
   exact .inl (.inl ⟨k / 3,⟨Sbq _,by omega⟩,by unfold kT;omega⟩)
  ·have fy:k / 3<nb:=by simpa using hk
   exact .inl (.inr ⟨k / 3,⟨Sbq _,by omega⟩,by unfold kB;omega⟩)
  ·have fy:k / 3<nr:=by simpa using hk
   exact .inr ⟨k / 3,⟨Sbq _,by omega⟩,by unfold kR;omega⟩
theorem Ua5 {nt nb nr b c k:Nat}(hb:b<nb)(hc:c<nb):uK nt nb nr (lI b c k)=uK nt nb nr k:=by
 unfold lI
 cases h:Nat.beq (k % 3) 1 with
 |false=>rfl
 | true =>
  rw[cond_true];simp only[Rbv]at h;unfold uK;rw[show kB (kH b c (k / 3)) % 3=1 by unfold kB;omega,show kB (kH b c (k / 3)) / 3=kH b c (k / 3) by unfold kB;omega,h];show Sbg _ _=Sbg _ _
  have:=Ab8 (k:=k / 3) hb hc;cases h1:Sbg (kH b c (k / 3)) nb<;>cases h2:Sbg (k / 3) nb<;>first|rfl|skip
  ·simp only[Rb4]at h2
   have:=this.2 h2;rw[<- Rb4,h1]at this;cases this
  ·simp only[Rb4]at h1
   have:=this.1 h1;rw[<- Rb4,h2]at this;cases this
theorem Sal {s:St}{b c:Nat}(hb:b<s.nb)(hc:c<s.nb):(s.swap b c).get=swS b c s.get:=by
 funext k;have e0:(s.swap b c).get k=bif uK s.nt s.nb s.nr k then (s.swap b c).tr.get k else none:=rfl;have e1:(s.swap b c).tr.get k=if k∈(range 0 s.nt).map kT++(range 0 s.nb).map kB++(range 0 s.nr).map kR then swS b c s.get k else s.tr.get k:=Jan _ _ k
 rw[e0,e1]
 cases h:uK s.nt s.nb s.nr k with
 |true=>rw[cond_true,if_pos (Ibc.2 h)]
 | false =>
  rw[cond_false];unfold swS St.get;rw[Ua5 hb hc,h];rfl
theorem Ja0 {b c N:Nat}:∀ l:aO,(l.swap b c).inScope N=l.inScope N:=by
 intro l
 induction l using aO.rec (motive_2:=fun ls=>bB N (bQ b c ls)=bB N ls) with
 |dead=>rfl
 |sc=>rfl
 |su=>rfl
 |ex=>rfl
 |sn=>rfl
 |px=>rfl
 |pe l sz i off ih=>simp only[aO.swap,aO.inScope,ih]
 |rp=>rfl
 |pn=>rfl
 |clo f cD ih=>simp only[aO.swap,aO.inScope,ih]
 |nil=>rfl
 |cons l ls h1 h2=>simp only[bQ,bB,h1,h2]
theorem oO {b c N:Nat}:∀ ls:List aO,bB N (bQ b c ls)=bB N ls
 |[]=>rfl
 |l::ls=>by simp only[bQ,bB,Ja0,oO ls]
theorem Vay {b c N:Nat}(y:aP):bR N (mP b c y)=bR N y:=by
 cases y with
 | slot g v =>
  simp only[mP,bR];congr 1
  cases v with
  |dead=>rfl
  |one l=>exact Ja0 l
  |agg ls=>exact oO ls
  | tup ts =>
   simp only[Waj,wY,List.all_map];congr 1;funext t;exact oO t.2
 |box ro ls=>exact oO ls
 |root=>rfl
theorem Cad.swap {E:Env}{s:St}(h:Cad E s){b c:Nat}(hb:b<s.nb)(hc:c<s.nb):Cad E (s.swap b c):=by
 refine⟨h.nt,?_⟩;rw[Sal hb hc];intro k y hk;unfold swS at hk;rw[Rbc]at hk;obtain⟨z,hz,rfl⟩:=hk;rw[Vay];exact h.sc _ _ hz
theorem xJ {E:Env}{F:bE}(hF:Dao F E.nbx){τ:St}:∀ (ts:List Nat) (s:St),Cad E s->Cad E (Qa5 E τ ts s)/\(Qa5 E τ ts s).nv=s.nv/\∀ {ρ:List D} {a:Act} {w:World} {G:Gh},R E.ntmps F s.get ρ a w G->∃ G',R E.ntmps F (Qa5 E τ ts s).get ρ a w G'
 |[],s,hi=>⟨hi,rfl,fun hR=>⟨_,hR⟩⟩
 | t :: ts, s, hi => by
  unfold Qa5;split
  ·rename_i b c _ _
   cases hg:(!(Nat.beq b c)&&Nat.ble E.nbx b&&Nat.ble E.nbx c&&Sbg b s.nb&&Sbg c s.nb) with
   |false=>rw[cond_false];exact xJ hF ts s hi
   | true =>
    rw[cond_true];simp only[Qb1,Sbb,Rb4]at hg;obtain⟨⟨⟨⟨-,h1⟩,h2⟩,h3⟩,h4⟩:=hg;obtain⟨k1,k2,k3⟩:=xJ hF ts (s.swap b c) (hi.swap h3 h4);refine⟨k1,k2,fun hR=>?_⟩;have:=hR.swap hF h1 h2;rw[<- Sal h3 h4]at this;exact k3 this
  ·exact xJ hF ts s hi
section
variable {E:Env} {F:bE} {cf:Nat->List D->Option (List D)} {ρ:List D} {s:St}
theorem Kac (hF:Dao F E.nbx){s0:St}{bb:Nat}{ae:List Pos}{τ:St}{kind:Kind}{r:Tm St}(h:coerce E s0.nv s0.nr bb ae τ kind s=some r)(gE:yX E s0 bb ae.length τ){ρ0 e:List D}(hρ:ρ=ρ0++e)(h0:ρ0.length=s0.nv)
  {o:Out St} (ho:Ec cf r ρ=some o) (hl:ρ.length=s.nv) (hi:Cad E s) :
  o.kind=kind/\o.vals.length=ae.length/\∀ a w G,R E.ntmps F s.get ρ a w G->∃ G',R E.ntmps F τ.get (ρ0++o.vals) a w G':=by
 obtain⟨h1,h2,h3⟩:=xJ hF (τ:=τ) E.pxs s hi;obtain⟨h4,h5,h6⟩:=Ray (F:=F) h gE hρ h0 ho (hl.trans h2.symm) h1;refine⟨h4,h5,fun a w G hR=>?_⟩;obtain⟨G',eu⟩:=h3 hR;exact h6 a w G' eu
end
def Yao:Kind->Exit
 |.fall=>.normal
 |.exit id=>.exit id
 |.ret=>.ret
 |_=>.outgrown
def Lb6:Kind->Prop
 |.cont=>False
 |.yield _=>False
 |_=>True
structure Post (E:Env) (ρ:List D) (o:Out St):Prop where
 nice:Lb6 o.kind
 len:o.env.length=o.ext.nv
 inv:Cad E o.ext
 pre:∃ ds,o.env=ρ++ds
def Wp (P:Program)(E:Env)(F:bE)(c:Code)(s:St)(ρ:List D)(o:Out St):Prop :=
 ∀ a w G Q,R E.ntmps F s.get ρ a w G->(∀ a' w' G',R E.ntmps F o.ext.get o.env a' w' G'->Q (Yao o.kind) a' w')->c.wp P Q a w
theorem Post.trans {E:Env}{ρ ds:List D}{o:Out St}(h:Post E (ρ++ds) o):Post E ρ o:=by
 obtain⟨es,h1⟩:=h.pre;exact⟨h.nice,h.len,h.inv,ds++es,by rw[h1,Rba]⟩
theorem Kaf {k:Kind}:nZ k=true↔k=.fall:=by cases k<;>simp[nZ]
section
variable {P:Program} {E:Env} {F:bE} {cf:Nat->List D->Option (List D)} {ρ:List D}
theorem lD {g:Option (aI×Bool)}{kind:Kind}{xs:List aI}{s:St}:∀ {ls:List Step} {ρ:List D} {o:Out St},Ec cf (nA g (.leaf kind xs s) ls) ρ=some o->o.kind=kind
 | [], ρ, o, h => by
  rw[nA,fD]at h;obtain rfl:=Option.some.inj h;rfl
 | .prim p ys n :: r, ρ, o, h => by
  rw[nA,Mau]at h;split at h
  ·simp only[Qb0]at h
   obtain⟨ds,-,h⟩:=h;split at h
   ·exact lD h
   ·cases h
  ·exact lD h
 | .call f ys n olds :: r, ρ, o, h => by
  rw[nA,tL]at h;split at h
  ·simp only[Qb0]at h
   obtain⟨ds,-,h⟩:=h;split at h
   ·exact lD h
   ·cases h
  ·exact lD h
theorem Par {n cq bb:Nat}{ae:List Pos}{τ s:St}{kind:Kind}{r:Tm St}(h:Hay E n cq bb ae τ kind s=some r){ρ:List D}{o:Out St}(ho:Ec cf r ρ=some o):o.kind=kind:=by
 unfold Hay at h;simp only[bind,Qb0]at h;obtain⟨⟨ls,s1,xs⟩,h1,s2,h2,h3⟩:=h;dsimp only at h3
 revert h3
 generalize (mE E n xs cq bb s.nr ae.length τ s2&&mG s.tr s.nr ae.length&&Nat.ble cq s.nr&&dV s.nv ls&&xs.all (aX (s.nv+bF ls)))=b;intro h3
 cases b with
 |false=>simp[jI]at h3
 | true =>
  rw[cond_true]at h3;obtain rfl:=Option.some.inj h3;exact lD ho
theorem Hax {n cq bb:Nat}{ae:List Pos}{τ s:St}{kind:Kind}{r:Tm St}(h:coerce E n cq bb ae τ kind s=some r){ρ:List D}{o:Out St}(ho:Ec cf r ρ=some o):o.kind=kind:=Par h ho
theorem Bb2 {live:Nat}{s0:St}{i:Nat}{fh:Kind->Bool}{ends:List St}{t t':Tm St}{τ:St}(h:join E live s0 i fh ends t=some (t',τ)) :
  ∃ ae cN,yX E s0 cN ae.length τ/\t.turn (.yield i) fh (coerce E s0.nv s0.nr cN ae τ (.yield i))=some t':=by
 unfold join at h;dsimp only at h
 revert h
 generalize hb:Dar E s0 _ _ _=b;intro h
 cases b with
 |false=>simp[jI]at h
 | true =>
  rw[cond_true,Rbc]at h;obtain⟨t1,h1,h2⟩:=h;obtain⟨rfl,rfl⟩:=Prod.mk.inj h2;exact⟨_,_,zC hb,h1⟩
theorem Xax (hF:Dao F E.nbx){live:Nat}{s0:St}{i:Nat}{fh:Kind->Bool}{ends:List St}{t t' k:Tm St}{τ:St}(h:join E live s0 i fh ends t=some (t',τ))(hc:fh .cont=false)(hy:∀ i,fh (.yield i)=false)
  {o:Out St} (ho:Ec cf (.bind i t' k) ρ=some o) (hl:ρ.length=s0.nv) (hP:∀ o1,Ec cf t ρ=some o1->Post E ρ o1) :
  ∃ o1,Ec cf t ρ=some o1/\((fh o1.kind=true/\∃ vals,Ec cf k (ρ++vals)=some o/\(ρ++vals).length=τ.nv/\Cad E τ/\∀ a w G,R E.ntmps F o1.ext.get o1.env a w G->∃ G',R E.ntmps F τ.get (ρ++vals) a w G')\/(fh o1.kind=false/\o=o1)):=by
 obtain⟨ae,cN,gE,ht⟩:=Bb2 h;simp only[pX,Qb0]at ho;obtain⟨o',h1,h2⟩:=ho;obtain⟨o1,h3,h4⟩:=kI (fun s r hr ρ o ho=>Hax hr ho) hc hy ht h1;refine⟨o1,h3,?_⟩;have hp:=hP o1 h3
 rcases h4 with ⟨h5,h6,r,h7,h8⟩|⟨h5,h6⟩
 ·refine .inl ⟨h5,?_⟩
  rw[if_pos h6]at h2;obtain⟨ds,h9⟩:=hp.pre;obtain⟨bo,b9,cL⟩:=Kac hF h7 gE h9 hl h8 hp.len hp.inv;exact⟨o'.vals,h2,by rw[Qb6,hl,b9,gE.nv],⟨gE.nt1,gE.inScope⟩,cL⟩
 ·refine .inr ⟨h5,?_⟩
  subst h6
  have:o'.kind≠.yield i:=fun e=>by
   have:=hp.nice;rw[e]at this;exact this
  rw[if_neg this]at h2;exact (Option.some.inj h2).symm
theorem Gat {live:Nat}{s:St}{body:St->Option (Tm St)}:∀ {fuel:Nat} {ae:List Pos} {keys:List Nat} {cN:Nat} {seen:List St} {t:Tm St},Gau E live s body fuel ae keys cN seen=some t ->
  ∃ ae cN τ tb l8 xs s1 s2,body τ=some tb/\yX E s cN ae.length τ/\jD E s.nr ae 0 { s with nr:=s.nr+ae.length }=some ([],s1,xs)/\gG τ (range 0 s.nr) s1=some s2 /\
   mE E s.nv xs s.nr cN s.nr ae.length τ s2=true/\mG s.tr s.nr ae.length=true/\tb.turn .cont nZ (coerce E s.nv s.nr cN ae τ .cont)=some l8/\t=.loop xs l8
 |0,_,_,_,_,t,h=>by simp[Gau,jI]at h
 | fuel + 1, ae, keys, cN, seen, t, h => by
  simp only[Gau]at h;split at h
  ·cases h
  ·rename_i tb hb
   revert h
   generalize hc:(Qa3 ae _&&_&&_)=b;intro h
   cases b with
   | false =>
    rw[cond_false]at h;exact Gat h
   | true =>
    rw[cond_true]at h;simp only[bind,Qb0]at h;obtain⟨⟨pre,s1,xs⟩,h1,s2,h2,h3⟩:=h;dsimp only at h1 h2 h3
    revert h3
    generalize hd:(mE E s.nv xs s.nr cN s.nr ae.length _ s2&&mG s.tr s.nr ae.length&&pre.isEmpty&&Dar E s cN ae.length _)=b;intro h3
    cases b with
    |false=>simp[jI]at h3
    | true =>
     rw[cond_true]at h3;simp only[Qb0,Option.some.injEq]at h3;obtain⟨l8,h4,h5⟩:=h3;simp only[Qb1,Tb9]at hd;obtain⟨⟨⟨cI,mj⟩,rfl⟩,hd4⟩:=hd;exact⟨ae,cN,_,tb,l8,xs,s1,s2,hb,zC hd4,h1,h2,cI,mj,h4,h5.symm⟩
theorem Oak {s:St}{body:St->Option (Tm St)}{H:List (Nat×Nat×Nat×Nat)×List Nat×Nat×List Nat}{t:Tm St}(h:Lai E s body H=some t) :
  ∃ ae cN τ tb l8 xs s1 s2,body τ=some tb/\yX E s cN ae.length τ/\jD E s.nr ae 0 { s with nr:=s.nr+ae.length }=some ([],s1,xs)/\gG τ (range 0 s.nr) s1=some s2 /\
   mE E s.nv xs s.nr cN s.nr ae.length τ s2=true/\mG s.tr s.nr ae.length=true/\tb.turn .cont nZ (coerce E s.nv s.nr cN ae τ .cont)=some l8/\t=.loop xs l8:=by
 unfold Lai at h
 revert h
 generalize (H.1.map fun p=>(⟨p.1,p.2.1,Ibi p.2.2.1 p.2.2.2⟩:Pos))=ae;generalize s.nr+H.2.2.1=cN;intro h;dsimp only at h;split at h
 ·cases h
 ·rename_i tb hb
  simp only[bind,Qb0]at h;obtain⟨⟨pre,s1,xs⟩,h1,s2,h2,h3⟩:=h;dsimp only at h1 h2 h3
  revert h3
  generalize hd:(mE E s.nv xs s.nr cN s.nr ae.length _ s2&&mG s.tr s.nr ae.length&&pre.isEmpty&&Dar E s cN ae.length _)=b;intro h3
  cases b with
  |false=>simp[jI]at h3
  | true =>
   rw[cond_true]at h3;simp only[Qb0,Option.some.injEq]at h3;obtain⟨l8,h4,h5⟩:=h3;simp only[Qb1,Tb9]at hd;obtain⟨⟨⟨cI,mj⟩,rfl⟩,hd4⟩:=hd;exact⟨ae,cN,_,tb,l8,xs,s1,s2,hb,zC hd4,h1,h2,cI,mj,h4,h5.symm⟩
theorem least {p:Nat->Prop}(h:∃ n,p n):∃ n,p n/\∀ m,p m->n<=m:=by
 obtain⟨n,hn⟩:=h
 induction n using Nat.strongRecOn with
 | _ n ih =>
  by_cases h:∃ m,m<n/\p m
  ·obtain⟨m,h1,h2⟩:=h
   exact ih m h1 h2
  ·refine⟨n,hn,fun m hm=>?_⟩
   rcases Rbo m n with h1|h1
   ·exact absurd ⟨m,h1,hm⟩ h
   ·exact h1
open Classical in
theorem Ma4 {c:Code}{Q:Exit->Act->World->Prop}(K:Nat->Act->World->Prop)
  (round:∀ n a w,K n a w->c.wp P (Exit.then (fun a' w'=>∃ m,m<n/\K m a' w') Q) a w) {n:Nat} {a:Act} {w:World} (h0:K n a w):(Code.loop c).wp P Q a w:=by
 refine wp_loop (fun a w=>∃ n,K n a w) (fun a w=>if h:∃ n,K n a w then (least h).choose else 0) ⟨n,h0⟩ fun a w h=>?_
 have h1:=round _ a w (least h).choose_spec.1;refine wp_mono h1 fun e a' w' hq=>?_
 cases e with
 | normal =>
  obtain⟨m,hm,hK⟩:=hq;have h':∃ n,K n a' w':=⟨m,hK⟩;refine⟨h',?_⟩;rw[dif_pos h',dif_pos h];exact Nat.lt_of_le_of_lt ((least h').choose_spec.2 m hK) hm
 |_=>exact hq
theorem Jag (hF:Dao F E.nbx){s:St}{body:St->Option (Tm St)}{c:Code}
  (hbody:∀ {τ:St} {t:Tm St} {ρ:List D} {o:Out St},body τ=some t->Ec cf t ρ=some o->ρ.length=τ.nv->Cad E τ->Post E ρ o/\Wp P E F c τ ρ o)
  {t:Tm St} (h:∃ ae cN τ tb l8 xs s1 s2,body τ=some tb/\yX E s cN ae.length τ/\jD E s.nr ae 0 { s with nr:=s.nr+ae.length }=some ([],s1,xs)/\gG τ (range 0 s.nr) s1=some s2 /\
   mE E s.nv xs s.nr cN s.nr ae.length τ s2=true/\mG s.tr s.nr ae.length=true/\tb.turn .cont nZ (coerce E s.nv s.nr cN ae τ .cont)=some l8/\t=.loop xs l8) {o:Out St} (ho:Ec cf t ρ=some o) (hl:ρ.length=s.nv) (hi:Cad E s):Post E ρ o/\Wp P E F (.loop c) s ρ o:=by
 obtain⟨ae,cN,τ,tb,l8,xs,s1,s2,h1,gE,h2,h3,h4,h5,h6,rfl⟩:=h;have a3y:Cad E τ:=⟨gE.nt1,gE.inScope⟩;have jm:=oL h2;rw[Mav]at ho
 have pr:∀ vs o',vs.length=ae.length->Ec cf l8 (ρ++vs)=some o'->∃ o1,Ec cf tb (ρ++vs)=some o1/\Post E (ρ++vs) o1/\Wp P E F c τ (ρ++vs) o1 /\
   ((o1.kind=.fall/\o'.kind=.cont/\o'.vals.length=ae.length/\∀ a w G,R E.ntmps F o1.ext.get o1.env a w G->∃ G',R E.ntmps F τ.get (ρ++o'.vals) a w G')\/(o1.kind≠.fall/\o'=o1)):=by
  intro vs o' gx he;obtain⟨o1,h7,h8⟩:=kI (fun s r hr ρ o ho=>Hax hr ho) rfl (fun _=>rfl) h6 he;obtain⟨hp,hw⟩:=hbody h1 h7 (by rw[Qb6,hl,gx,gE.nv]) a3y;refine⟨o1,h7,hp,hw,?_⟩
  rcases h8 with ⟨h9,bo,r,b9,cL⟩|⟨h9,bo⟩
  ·obtain⟨ds,fp⟩:=hp.pre
   obtain⟨gj,ij,je⟩:=Kac hF b9 gE (fp.trans (Rba ..)) hl cL hp.len hp.inv;exact .inl ⟨Kaf.1 h9,gj,ij,je⟩
  ·exact .inr ⟨(fun e=>by rw[e]at h9;cases h9),bo⟩
 refine⟨?_,fun a w G Q hR hQ=>?_⟩
 ·refine Zav (C:=fun vs o=>vs.length=ae.length->Post E ρ o) (fun vs o' he hk gx=>?_) (fun vs o' o2 he hk hC _ gx=>?_) ho (by simp[jm])
  ·obtain⟨o1,-,hp,-,h8⟩:=pr vs o' gx he
   rcases h8 with ⟨-,h9,-⟩|⟨-,h9⟩
   ·exact absurd h9 hk
   ·rw[h9];exact hp.trans
  ·obtain⟨o1,-,hp,-,h8⟩:=pr vs o' gx he
   rcases h8 with ⟨-,-,h9,-⟩|⟨-,h9⟩
   ·exact hC h9
   ·subst h9
    have:=hp.nice;rw[hk]at this;exact this.elim
 ·
  have n3:R E.ntmps F ({ s with nr:=s.nr+ae.length }:St).get ρ a w G:=by rw[Tax h5];exact hR
  obtain⟨⟨G1,vu⟩,-⟩:=vE (cf:=cf) h2 (Haf h5) (by simp) n3 trivial;obtain⟨G2,hR3⟩:=lN h3 vu;obtain⟨G3,hR4⟩:=R.fit (ρ0:=ρ) (e:=[]) (by rw[Rbs];exact hR3) hl jm gE h4 (Rbg _);rw[Rbs]at hR4;have og:=ho;unfold Lc at og;obtain⟨N,hN⟩:=(fH (Mbi (cf:=cf) l8 ρ (xs.map (·.val ρ)))).1 og;refine Ma4 (fun n a w=>∃ vs G,iter n (fun vs=>runT cf N l8 (ρ++vs)) vs=some o/\vs.length=ae.length/\R E.ntmps F τ.get (ρ++vs) a w G) (fun n a w hK=>?_) (n:=N) ⟨_,G3,hN,by simp[jm],hR4⟩;obtain⟨vs,G,hn,gx,hRv⟩:=hK
  cases n with
  |zero=>cases hn
  | succ m =>
   simp only[iter,Qb0]at hn;obtain⟨o',h7,h8⟩:=hn;obtain⟨o1,h9,hp,hw,bo⟩:=pr vs o' gx (Iad.2 ⟨N,h7⟩);refine hw a w G _ hRv fun a' w' G' eu=>?_
   rcases bo with ⟨b9,cL,fp,gj⟩|⟨b9,cL⟩
   ·rw[if_pos cL]at h8
    rw[b9];obtain⟨G'',pg⟩:=gj a' w' G' eu;exact⟨m,Nat.lt_succ_self m,o'.vals,G'',h8,fp,pg⟩
   ·subst cL
    have hk:o'.kind≠.cont:=fun e=>by
     have:=hp.nice;rw[e]at this;exact this
    rw[if_neg hk]at h8;obtain rfl:=Option.some.inj h8;have:=hQ a' w' G' eu
    revert this b9
    have:=hp.nice
    revert this
    cases o'.kind<;>intro h1 h2 h3<;>first|exact h1.elim|exact (h2 rfl).elim|exact h3
theorem pO (hF:Dao F E.nbx)(hti:uO P E.ti)(bl:Aac P E F cf)(hm:P.follows .mixedOrders=true){rb:Nat}:∀ (c:Code) {ex:List (Nat×Nat)} {live:Nat} {s:St} {t:Tm St} {ρ:List D} {o:Out St},sxC E false rb c ex live s=some t ->
  Ec cf t ρ=some o->ρ.length=s.nv->Cad E s->Post E ρ o/\Wp P E F c s ρ o
 | .skip, ex, live, s, t, ρ, o, h, ho, hl, hi => by
  simp only[sxC,Option.some.injEq]at h;subst h;rw[fD]at ho;obtain rfl:=Option.some.inj ho;exact⟨⟨trivial,hl,hi,[],by simp⟩,fun a w G Q hR hQ=>wp_skip (hQ a w G hR)⟩
 | .label _, ex, live, s, t, ρ, o, h, ho, hl, hi => by
  simp only[sxC,Option.some.injEq]at h;subst h;rw[fD]at ho;obtain rfl:=Option.some.inj ho;exact⟨⟨trivial,hl,hi,[],by simp⟩,fun a w G Q hR hQ=>wp_label (hQ a w G hR)⟩
 | .ret, ex, live, s, t, ρ, o, h, ho, hl, hi => by
  simp only[sxC,Option.some.injEq]at h;subst h;rw[fD]at ho;obtain rfl:=Option.some.inj ho;exact⟨⟨trivial,hl,hi,[],by simp⟩,fun a w G Q hR hQ=>wp_ret (hQ a w G hR)⟩
 | .exit id, ex, live, s, t, ρ, o, h, ho, hl, hi => by
  simp only[sxC,Option.some.injEq]at h;subst h;rw[fD]at ho;obtain rfl:=Option.some.inj ho;exact⟨⟨trivial,hl,hi,[],by simp⟩,fun a w G Q hR hQ=>wp_exit (hQ a w G hR)⟩
 | .region gf ops draw, ex, live, s, t, ρ, o, h, ho, hl, hi => by
  simp only[sxC,Option.some.injEq]at h;subst h;obtain⟨⟨h1,h2,h3,h4⟩,h5⟩:=Nav hti bl hm ho hl hi
  exact⟨⟨by rw[h1];trivial,h2,h3,h4⟩,fun a w G Q hR hQ=>h5 a w G Q hR fun a' w' G' eu=>by
   have:=hQ a' w' G' eu;rw[h1]at this;exact this⟩
 | .seq a b, ex, live, s, t, ρ, o, h, ho, hl, hi => by
  simp only[sxC,bind,Qb0]at h;obtain⟨ta,qb,h⟩:=h;have xg:=fun {o1:Out St} (h1:Ec cf ta ρ=some o1)=>pO hF hti bl hm a qb h1 hl hi
  have iz:∀ o1:Out St,Post E ρ o1->Wp P E F a s ρ o1->o1.kind≠.fall->Wp P E F (.seq a b) s ρ o1:=by
   intro o1 hp hw hk a' w G Q hR hQ;refine wp_seq (hw a' w G _ hR fun a1 w1 G1 n3=>?_);have:=hQ a1 w1 G1 n3
   revert this hk
   have:=hp.nice
   revert this
   cases o1.kind<;>intro h1 h2 h3<;>first|exact h1.elim|exact (h2 rfl).elim|exact h3
  cases r6:ta.no nZ with
  | true =>
   rw[r6,cond_true,Option.some.injEq]at h;subst h;obtain⟨hp,hw⟩:=xg ho;exact⟨hp,iz o hp hw fun e=>by have:=vN r6 ho;rw[e]at this;cases this⟩
  | false =>
   rw[r6,cond_false]at h
   have c5:∀ {o1:Out St} {s2:St} {tb:Tm St} {zn:List D},Ec cf ta ρ=some o1->o1.kind=.fall->sxC E false rb b ex live s2=some tb->Ec cf tb zn=some o->zn.length=s2.nv->Cad E s2->(∃ ds,zn=ρ++ds) ->
     (∀ a w G,R E.ntmps F o1.ext.get o1.env a w G->∃ G',R E.ntmps F s2.get zn a w G')->Post E ρ o/\Wp P E F (.seq a b) s ρ o:=by
    intro o1 s2 tb zn h1 hk h2 h3 h4 h5 ⟨ds,h6⟩ h7;obtain⟨hp,hw⟩:=pO hF hti bl hm b h2 h3 h4 h5;obtain⟨wh,hw1⟩:=xg h1;subst h6;refine⟨hp.trans,fun a' w G Q hR hQ=>wp_seq (hw1 a' w G _ hR fun a1 w1 G1 n3=>?_)⟩;rw[hk];obtain⟨G2,vu⟩:=h7 a1 w1 G1 n3;exact hw a1 w1 G2 Q vu hQ
   split at h
   ·obtain⟨o1,h1,h2⟩:=oZ h ho
    rcases h2 with ⟨h3,tb,h4,h5⟩|⟨h3,h4⟩
    ·obtain⟨hp,-⟩:=xg h1
     exact c5 h1 h3 h4 h5 hp.len hp.inv hp.pre fun a w G hR=>⟨G,hR⟩
    ·subst h4
     obtain⟨hp,hw⟩:=xg h1;exact⟨hp,iz _ hp hw h3⟩
   ·simp only[Qb0]at h
    obtain⟨⟨t',τ⟩,hj,k,hk,h⟩:=h;simp only[Option.some.injEq]at h;subst h;obtain⟨o1,h1,h2⟩:=Xax hF hj rfl (fun _=>rfl) ho hl fun o1 h1=>(xg h1).1
    rcases h2 with ⟨h3,vals,h4,h5,h6,h7⟩|⟨h3,h4⟩
    ·exact c5 h1 (Kaf.1 h3) hk h4 h5 h6 ⟨vals,rfl⟩ fun a w G hR=>h7 a w G hR
    ·subst h4
     obtain⟨hp,hw⟩:=xg h1;exact⟨hp,iz _ hp hw fun e=>by rw[e]at h3;cases h3⟩
 | .cond c a b, ex, live, s, t, ρ, o, h, ho, hl, hi => by
  simp only[sxC]at h
  have nB:∀ v,Zaa c=some v->c=.const (.bool v):=by
   intro v hv;unfold Zaa at hv;split at hv
   ·cases hv;rfl
   ·cases hv
  split at h
  ·rename_i hc
   obtain rfl:=nB _ hc;obtain⟨hp,hw⟩:=pO hF hti bl hm a h ho hl hi;exact⟨hp,fun a' w G Q hR hQ=>wp_cond_true rfl (hw a' w G Q hR hQ)⟩
  ·rename_i hc
   obtain rfl:=nB _ hc;obtain⟨hp,hw⟩:=pO hF hti bl hm b h ho hl hi;exact⟨hp,fun a' w G Q hR hQ=>wp_cond_false rfl (hw a' w G Q hR hQ)⟩
  rename_i hcn;clear hcn nB;split at h
  ·rename_i x tt hk
   cases hb:(aX s.nv x&&Sbg tt E.ntmps) with
   | false =>
    rw[hb]at h;simp only[Bool.not_false,cond_true,Option.some.injEq]at h;subst h;rw[iL]at ho;cases ho
   | true =>
    rw[hb]at h;simp only[Sb2,cond_false,bind,Qb0,Option.some.injEq]at h;obtain⟨ta,qb,tb,htb,rfl⟩:=h;simp only[Qb1,Rb4]at hb
    have hev:∀ a' w G,R E.ntmps F s.get ρ a' w G->Sc (a'.eval (.tmp tt)) (x.val ρ):=by
     intro a' w G hR;have:=hR.slot hk rfl;simp only[bU,aB,Aad]at this;rw[if_pos hb.2]at this
     have e:a'.eval (.tmp tt)=a'.tmps.getD tt undef:=by
      simp[Act.eval,Rb6]
     rw[e];exact this
    rw[Eap]at ho;split at ho
    ·rename_i hx
     obtain⟨hp,hw⟩:=pO hF hti bl hm a qb ho hl hi;refine⟨hp,fun a' w G Q hR hQ=>wp_cond_true ?_ (hw a' w G Q hR hQ)⟩;have:=hev a' w G hR;rw[hx]at this;exact this.bool_inv
    ·rename_i hx
     obtain⟨hp,hw⟩:=pO hF hti bl hm b htb ho hl hi;refine⟨hp,fun a' w G Q hR hQ=>wp_cond_false ?_ (hw a' w G Q hR hQ)⟩;have:=hev a' w G hR;rw[hx]at this;exact this.bool_inv
    ·cases ho
  ·simp only[Option.some.injEq]at h
   subst h;rw[iL]at ho;cases ho
 | .block id b, ex, live, s, t, ρ, o, h, ho, hl, hi => by
  simp only[sxC,bind,Qb0]at h;obtain⟨tb,htb,h⟩:=h;have xw:=fun {o1:Out St} (h1:Ec cf tb ρ=some o1)=>pO hF hti bl hm b htb h1 hl hi
  have iz:∀ o1:Out St,Post E ρ o1->Wp P E F b s ρ o1->nL id o1.kind=false->Wp P E F (.block id b) s ρ o1:=by
   intro o1 hp hw hk a' w G Q hR hQ;refine wp_block (hw a' w G _ hR fun a1 w1 G1 n3=>?_);have:=hQ a1 w1 G1 n3
   revert this hk
   have:=hp.nice
   revert this
   cases o1.kind with
   | exit j =>
    intro h1 h2 h3;simp only[Yao,Exit.inBlock];rw[if_neg]
    ·exact h3
    ·intro e
     simp[nL,e]at h2
   |fall=>exact fun h1 h2 h3=>h3
   |ret=>exact fun h1 h2 h3=>h3
   |cont=>exact fun h1 h2 h3=>h1.elim
   |yield i=>exact fun h1 h2 h3=>h1.elim
  cases r6:tb.no (nL id) with
  | true =>
   rw[r6,cond_true,Option.some.injEq]at h;subst h;obtain⟨hp,hw⟩:=xw ho;exact⟨hp,iz o hp hw (vN r6 ho)⟩
  | false =>
   rw[r6,cond_false]at h
   have r8:∀ {o1:Out St} {o:Out St},Ec cf tb ρ=some o1->Pay id o1.kind=true->o.kind=.fall->(∀ a w G,R E.ntmps F o1.ext.get o1.env a w G->∃ G',R E.ntmps F o.ext.get o.env a w G')->Wp P E F (.block id b) s ρ o:=by
    intro o1 o h1 hk ho hg a' w G Q hR hQ;obtain⟨hp,hw⟩:=xw h1;refine wp_block (hw a' w G _ hR fun a1 w1 G1 n3=>?_);obtain⟨G2,vu⟩:=hg a1 w1 G1 n3;have:=hQ a1 w1 G2 vu;rw[ho]at this
    revert hk
    cases o1.kind with
    | exit j =>
     intro hk;simp only[Pay,Rbv]at hk;simp only[Yao,Exit.inBlock];rw[if_pos hk.symm];exact this
    |fall=>exact fun _=>this
    |ret=>intro hk;cases hk
    |cont=>intro hk;cases hk
    |yield i=>intro hk;cases hk
   split at h
   ·obtain⟨o1,h1,h2⟩:=iR h ho
    obtain⟨hp,hw⟩:=xw h1
    rcases h2 with ⟨h3,h4⟩|⟨h3,h4⟩
    ·subst h4
     refine⟨⟨trivial,hp.len,hp.inv,hp.pre⟩,r8 h1 ?_ rfl fun a w G hR=>⟨G,hR⟩⟩
     revert h3
     cases o1.kind<;>simp[nL,Pay]
    ·subst h4
     exact⟨hp,iz _ hp hw h3⟩
   ·simp only[Qb0]at h
    obtain⟨⟨t',τ⟩,hj,h⟩:=h;simp only[Option.some.injEq]at h;subst h;obtain⟨o1,h1,h2⟩:=Xax hF hj rfl (fun _=>rfl) ho hl fun o1 h1=>(xw h1).1
    rcases h2 with ⟨h3,vals,h4,h5,h6,h7⟩|⟨h3,h4⟩
    ·rw[fD]at h4
     obtain rfl:=Option.some.inj h4;exact⟨⟨trivial,h5,h6,vals,rfl⟩,r8 h1 h3 rfl fun a w G hR=>h7 a w G hR⟩
    ·subst h4
     obtain⟨hp,hw⟩:=xw h1;refine⟨hp,iz _ hp hw ?_⟩
     revert h3
     cases o.kind<;>simp[nL,Pay]
 | .loop b, ex, live, s, t, ρ, o, h, ho, hl, hi => by
  simp only[sxC]at h;split at h
  ·exact Jag hF (fun h1 h2 h3 h4=>pO hF hti bl hm b h1 h2 h3 h4) (Oak h) ho hl hi
  ·exact Jag hF (fun h1 h2 h3 h4=>pO hF hti bl hm b h1 h2 h3 h4) (Gat h) ho hl hi
 | .scope _, ex, live, s, t, ρ, o, h, ho, hl, hi => by
  simp only[sxC,Option.some.injEq]at h;subst h;rw[iL]at ho;cases ho
 | .goto _, ex, live, s, t, ρ, o, h, ho, hl, hi => by
  simp only[sxC,Option.some.injEq]at h;subst h;rw[iL]at ho;cases ho
 | .rangeFunc _ _ _ _, ex, live, s, t, ρ, o, h, ho, hl, hi => by
  simp only[sxC,Option.some.injEq]at h;subst h;rw[iL]at ho;cases ho
 | .refuse _, ex, live, s, t, ρ, o, h, ho, hl, hi => by
  simp only[sxC,Option.some.injEq]at h;subst h;rw[iL]at ho;cases ho
end
end Go.Proofs.YtpgnlmfmlffjcaaGreat.Rf
