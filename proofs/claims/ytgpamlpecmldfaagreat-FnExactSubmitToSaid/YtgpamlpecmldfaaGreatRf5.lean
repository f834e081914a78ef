import Derived.Test.YtgpamlpecmldfaaGreatRf4
import Derived.Orders
set_option linter.all false
open Array renaming getElem?_eq_getElem → Sbv, getD_eq_getD_getElem? → Sb6, getElem?_toList → Tbo
open Bool renaming and_eq_true → Rbu, not_eq_true' → Sbl, not_true → Sb3, or_eq_true → Tbk, false_or → Tby, or_true → Vbe
open List renaming getElem?_eq_some_iff → Rbw, mem_append_left → Rbx, mem_singleton → Rby, getElem?_eq_getElem → Rbz, mem_append_right → Rb0, getElem?_cons_zero → Rb2, append_assoc → Rb3, mem_cons → Rb4, getD_eq_getElem?_getD → Rb5, mem_cons_of_mem → Rb7, length_append → Rb8, getElem?_append_left → Rb9, mem_cons_self → Sbe, length_cons → Sbm, all_eq_true → Sbp, append_nil → Sbu, mem_map → Sb7, nil_append → Tba, mem_map_of_mem → Tbi, not_mem_nil → Tbr, getElem?_set → Tb0, mem_filter → Tb8, mem_range → Ub1, isEmpty_iff → Ub5
open Nat renaming le_refl → Sbg, lt_or_ge → Sbh, zero_add → Sbo, beq_eq → Sbq, add_zero → Sbz, blt_eq → Sb5, ble_eq → Tbc, blt → Tbh, zero_le → Tb5, testBit → Ubc, lt_trichotomy → Ubv, le_succ → Ubw, le_add_right → Vba
open Option renaming bind_eq_some_iff → Rbt, bind_some → Rb1, map_eq_some_iff → Sbc, map_some → Sb9, getD_some → Tbw
open Option.some renaming injEq → Rbv, inj → Sbs
open Prod.mk renaming injEq → Sbj
namespace Go.Proofs.YtgpamlpecmldfaaGreat.Rf
theorem mem_range {x:Nat}:∀ {n a:Nat},x∈range a n↔a<=x/\x<a+n
 |0,a=>by simp[range]
 | n + 1, a => by
  simp only[range,Rb4,mem_range];omega
theorem qU {cH eA r:Nat}(h:r<cH):Qa0 cH eA r=r:=by
 unfold Qa0
 have:Nat.ble cH r=false:=by
  cases e:Nat.ble cH r with
  |false=>rfl
  |true=>simp only[Tbc]at e;omega
 rw[this];rfl
theorem Lau {cH eA r:Nat}(h:cH<=r):Qa0 cH eA r=eA+(r-cH):=by
 unfold Qa0;have:Nat.ble cH r=true:=by simpa using h
 rw[this];rfl
def tH (fk eA cH:Nat):Ow->Ow
 |.slc r p=>if r<fk then .slc r p else if eA<=r then .slc (cH+(r-eA)) p else .oth
 |o=>o
theorem Tax {fk eA cH:Nat}{o:Ow}{r:Nat}{p:List Nat}(h0:fk<=cH)(h:tH fk eA cH o=.slc r p):o=.slc (Qa0 cH eA r) p:=by
 cases o with
 | slc s q =>
  simp only[tH]at h;split at h
  ·injection h with h1 h2
   subst h1 h2;rw[qU (by omega)]
  ·split at h
   ·injection h with h1 h2
    subst h1 h2;rw[Lau (by omega)];congr 1;omega
   ·cases h
 |_=>simp only[tH]at h;cases h
theorem Fa3 {fk eA cH r:Nat}{p:List Nat}(h0:fk<=cH)(hB:fk<=eA)(hr:r<fk\/cH<=r):tH fk eA cH (.slc (Qa0 cH eA r) p)=.slc r p:=by
 simp only[tH]
 rcases hr with h|h
 ·rw[qU (by omega),if_pos h]
 ·rw[Lau h,if_neg (by omega),if_pos (by omega)]
  congr 1;omega
structure Yan (τ:St) (σ:Nat->Option aP) (gx ρ:List D) (G' G:Gh) (N n:Nat) (xs:List aJ) (cH eA fk:Nat):Prop where
 at_:∀ x,aZ N x=true->x.val gx=(Lav n xs x).val ρ
 le:fk<=cH
 leB:fk<=eA
 hdr:∀ r,G'.hdr r=G.hdr (Qa0 cH eA r)
 own:∀ b,G'.own b=tH fk eA cH (G.own b)
 bx:G'.bx=G.bx
 valid:∀ r k,r<fk->kQ τ.get r k->kQ σ r k
 live:∀ r k m,r<fk->wT τ.get r k m->wT σ r k m
theorem Caa {τ:St}{fk:Nat}:∀ {deps:List (Nat×Nat)},Na1 τ fk deps=true->∀ z∈deps,z.1<fk/\iL τ.get z.1 z.2
 |[],_,z,hz=>by simp at hz
 | (r, k) :: d, h, z, hz => by
  simp only[Na1,Rbu]at h
  rcases Rb4.1 hz with rfl|hz
  ·refine⟨by simpa using h.1.1,?_⟩
   have h2:=h.1.2;split at h2
   ·rename_i x m v e;exact⟨_,_,_,_,e,fun hs=>by rcases hs with hs|hs<;>cases hs⟩
   ·rename_i x m v r' e;exact⟨_,_,_,_,e,fun hs=>by rcases hs with hs|hs<;>cases hs⟩
   ·rename_i x m v st q8 hn2 e;exact⟨_,_,_,_,e,fun _=>by simpa using h2⟩
   ·cases h2
  ·exact Caa h.2 z hz
section
variable {τ:St} {σ:Nat->Option aP} {gx ρ:List D} {G' G:Gh} {w:World} {N n:Nat} {xs:List aJ} {cH eA fk:Nat}
theorem Yan.ownLow (h:Yan τ σ gx ρ G' G N n xs cH eA fk){b r:Nat}{p:List Nat}(hr:r<fk)(hb:G.own b=.slc r p):G'.own b=.slc r p:=by
 rw[h.own,hb];have h1:Qa0 cH eA r=r:=qU (by have:=h.le;omega);have h2:=Fa3 (p:=p) h.le h.leB (.inl hr:r<fk\/cH<=r);rw[h1]at h2;exact h2
theorem Yan.frz (h:Yan τ σ gx ρ G' G N n xs cH eA fk){b:Nat}(hb:G.own b=.frz):G'.own b=.frz:=by
 rw[h.own,hb];rfl
theorem Yan.allow (h:Yan τ σ gx ρ G' G N n xs cH eA fk){deps:List (Nat×Nat)}(hd:∀ z∈deps,z.1<fk){b:Nat}(hb:Go.Proofs.YtgpamlpecmldfaaGreat.Rf.allow G deps b):Go.Proofs.YtgpamlpecmldfaaGreat.Rf.allow G' deps b:=by
 rcases hb with hb|⟨r,k,p,hm,hb⟩
 ·exact .inl (h.frz hb)
 ·exact .inr ⟨r,k,p,hm,h.ownLow (hd _ hm) hb⟩
theorem Yan.path (h:Yan τ σ gx ρ G' G N n xs cH eA fk){p:List (aJ×Nat×Nat)}(hp:(p.all fun x=>aZ N x.1)=true):bA gx p=bA ρ (p.map fun x=>(Lav n xs x.1,x.2)):=by
 unfold bA;rw[List.map_map];apply List.map_congr_left;intro x hx;rw[Sbp]at hp;simp only[Function.comp,jY,h.at_ x.1 (hp x hx)]
mutual
theorem aB.fit (h:Yan τ σ gx ρ G' G N n xs cH eA fk):∀ (l:aO) (v:Value),l.inScope N=true->l.wf τ fk=true->aB σ ρ G w (l.sub n xs cH eA) v->aB τ.get gx G' w l v
 |.dead,_,_,_,hl=>by simpa[aO.sub,aB] using hl
 | .sc x, v, hs, _, hl => by
  simp only[aO.inScope]at hs;simp only[aO.sub,aB]at hl ⊢;rw[h.at_ x hs];exact hl
 | .su g x, v, hs, _, hl => by
  simp only[aO.inScope,Rbu]at hs;obtain⟨y,b⟩:=g;simp only[aO.sub,aB]at hl ⊢;have hg:gOn gx (some (y,b))=gOn ρ (some (Lav n xs y,b)):=by simp only[gOn,h.at_ y hs.2]
  rw[h.at_ x hs.1,hg];exact hl
 | .ex r, v, _, hw, hl => by
  simp only[aO.wf]at hw;simp only[aO.sub,aB]at hl ⊢;exact⟨by rw[h.hdr];exact hl.1,hw,hl.2.2⟩
 | .sn deps p nie x, v, hs, hw, hl => by
  simp only[aO.inScope,Rbu]at hs;simp only[aO.wf]at hw;have hd:=Caa hw;simp only[aO.sub,aB]at hl ⊢;rw[h.at_ x hs.1];refine⟨⟨hl.1.1,fun z hz=>(hd z hz).2⟩,fun hv=>?_⟩;obtain⟨h1,h2,h3⟩:=hl.2 fun z hz=>h.valid _ _ (hd z hz).1 (hv z hz)
  refine⟨h1.mono fun b hb=>⟨h.allow (fun z hz=>(hd z hz).1) hb,rfl⟩,h2,?_⟩
  cases p with
  |no=>trivial
  | view =>
   intro r k m e je;have hr:=(hd (r,k) (by simp[e])).1;have:=(h3 r k m e (h.live r k m hr je)).mono (own':=G'.own) (w':=w) (q:=[]) (q':=[]) (r':=r) (fun b hb=>⟨h.frz hb,rfl⟩) [] rfl (fun b t hb=>⟨h.ownLow hr hb,rfl⟩);simpa using this
  | suf sz lo =>
   intro r k m e je;have hr:=(hd (r,k) (by simp[e])).1;have h4:=h3 r k m e (h.live r k m hr je)
   have h5:jY gx lo=jY ρ (Lav n xs lo):=by
    unfold jY;rw[h.at_ lo hs.2]
   rw[h5];rw[h.hdr,qU (by have:=h.le;omega)];exact h4
  | path p =>
   intro r k m e je;have hr:=(hd (r,k) (by simp[e])).1;obtain⟨h4,h5,h6⟩:=h3 r k m e (h.live r k m hr je);rw[h.path hs.2];rw[List.length_map]at h4 h5;refine⟨h4,?_,?_⟩
   ·have:=h5.mono (own':=G'.own) (w':=w) (q:=[]) (q':=[]) (r':=r) (fun b hb=>⟨h.frz hb,rfl⟩) _ rfl (fun b t hb=>⟨h.ownLow hr hb,rfl⟩)
    rw[Tba]at this;exact this
   ·rw[h.hdr,qU (by have:=h.le;omega)]
    exact wW.mono _ _ _ _ _ (fun b t hb=>⟨h.ownLow hr hb,rfl⟩) h6
 | .px b off, v, _, hw, hl => by
  simp only[aO.wf]at hw;simp only[aO.sub,aB]at hl ⊢;exact⟨by rw[h.bx];exact hl.1,hw⟩
 | .pe l sz i off, v, hs, hw, hl => by
  simp only[aO.inScope,Rbu]at hs;simp only[aO.wf]at hw;simp only[aO.sub,aB]at hl ⊢;obtain⟨a,n,c,k,iv,h1,h2⟩:=hl;exact⟨a,n,c,k,iv,aB.fit h l _ hs.1 hw h1,by rw[h.at_ i hs.2];exact h2⟩
 | .rp deps sz x, v, hs, hw, hl => by
  simp only[aO.inScope]at hs;simp only[aO.wf]at hw;have hd:=Caa hw;simp only[aO.sub,aB]at hl ⊢;rw[h.at_ x hs];refine⟨⟨hl.1.1,fun z hz=>(hd z hz).2⟩,fun hv=>?_⟩
  rcases hl.2 fun z hz=>h.valid _ _ (hd z hz).1 (hv z hz) with h1|⟨a,row,h1,h2,h3⟩
  ·exact .inl h1
  ·exact .inr ⟨a,row,h1,h2,h3.mono fun b hb=>⟨h.allow (fun z hz=>(hd z hz).1) hb,rfl⟩⟩
 |.pn,v,_,_,hl=>by simpa[aO.sub,aB] using hl
 | .clo f fW, v, hs, hw, hl => by
  simp only[aO.inScope]at hs;simp only[aO.wf]at hw;simp only[aO.sub,aB]at hl ⊢;obtain⟨vs,h1,h2⟩:=hl;exact⟨vs,h1,aG.fit h fW vs hs hw h2⟩
theorem aG.fit (h:Yan τ σ gx ρ G' G N n xs cH eA fk):∀ (ls:List aO) (vs:List Value),bB N ls=true->mH τ fk ls=true->aG σ ρ G w (gK n xs cH eA ls) vs->aG τ.get gx G' w ls vs
 |[],vs,_,_,hl=>by simpa[gK,aG] using hl
 | l :: ls, vs, hs, hw, hl => by
  simp only[bB,Rbu]at hs;simp only[mH,Rbu]at hw;simp only[gK,aG]at hl ⊢;obtain⟨u,us,e,h1,h2⟩:=hl;exact⟨u,us,e,aB.fit h l u hs.1 hw.1 h1,aG.fit h ls us hs.2 hw.2 h2⟩
end
theorem wO:∀ {d d':List (Nat×Nat)},vD d d'=true->d=d'
 |[],[],_=>rfl
 |[],_::_,h=>by simp[vD]at h
 |_::_,[],h=>by simp[vD]at h
 | (a, b) :: r, (a', b') :: r', h => by
  simp only[vD,Rbu,Sbq]at h;rw[h.1.1,h.1.2,wO h.2]
theorem Man:∀ {d d':List (aJ×Nat×Nat)},Iam d d'=true->d=d'
 |[],[],_=>rfl
 |[],_::_,h=>by simp[Iam]at h
 |_::_,[],h=>by simp[Iam]at h
 | (a, b, c) :: r, (a', b', c') :: r', h => by
  simp only[Iam,Rbu,Sbq]at h;rw[aJ.beq0_eq h.1.1.1,h.1.1.2,h.1.2,Man h.2]
theorem Pth.beq0_eq {p q:Pth}(h:p.beq0 q=true):p=q:=by
 cases p<;>cases q<;>simp only[Pth.beq0]at h<;>first|rfl|cases h|skip
 ·rw[Man h]
 ·simp only[Rbu,Sbq]at h
  rw[h.1,aJ.beq0_eq h.2]
mutual
theorem aO.beq0_eq:∀ {a b:aO},a.beq0 b=true->a=b
 |.dead,b,h=>by cases b<;>first | rfl | (simp[aO.beq0]at h)
 | .sc x, b, h => by
  cases b<;>simp only[aO.beq0]at h<;>first|cases h|skip
  rw[aJ.beq0_eq h]
 | .su g x, b, h => by
  cases b<;>simp only[aO.beq0]at h<;>first|cases h|skip
  rename_i g' x';simp only[Rbu,beq_iff_eq]at h;obtain⟨y,u⟩:=g;obtain⟨y',u'⟩:=g';have h1:=aJ.beq0_eq h.1.1;have h2:u=u':=h.1.2;dsimp only at h1;rw[h1,h2,aJ.beq0_eq h.2]
 | .ex r, b, h => by
  cases b<;>simp only[aO.beq0]at h<;>first|cases h|skip
  simp only[Sbq]at h;rw[h]
 | .sn d p e x, b, h => by
  cases b<;>simp only[aO.beq0]at h<;>first|cases h|skip
  simp only[Rbu,beq_iff_eq]at h;rw[wO h.1.1.1,Pth.beq0_eq h.1.1.2,h.1.2,aJ.beq0_eq h.2]
 | .px c o, b, h => by
  cases b<;>simp only[aO.beq0]at h<;>first|cases h|skip
  simp only[Rbu,Sbq]at h;rw[h.1,h.2]
 | .pe l s i o, b, h => by
  cases b<;>simp only[aO.beq0]at h<;>first|cases h|skip
  simp only[Rbu,Sbq]at h;rw[aO.beq0_eq h.1.1.1,h.1.1.2,aJ.beq0_eq h.1.2,h.2]
 | .rp d s x, b, h => by
  cases b<;>simp only[aO.beq0]at h<;>first|cases h|skip
  simp only[Rbu,Sbq]at h;rw[wO h.1.1,h.1.2,aJ.beq0_eq h.2]
 |.pn,b,h=>by cases b<;>first | rfl | (simp[aO.beq0]at h)
 | .clo f l, b, h => by
  cases b<;>simp only[aO.beq0]at h<;>first|cases h|skip
  simp only[Rbu,Sbq]at h;rw[h.1,Aag h.2]
theorem Aag:∀ {a b:List aO},qA a b=true->a=b
 |[],b,h=>by cases b<;>first | rfl | (simp[qA]at h)
 | a :: r, b, h => by
  cases b<;>simp only[qA]at h<;>first|cases h|skip
  simp only[Rbu]at h;rw[aO.beq0_eq h.1,Aag h.2]
end
theorem uP {a b:aO}(h:wI a b=true){v:Value}(hb:aB σ ρ G w b v):aB σ ρ G w a v:=by
 unfold wI at h;split at h
 ·simp only[aB]
  exact hb.one h
 ·rename_i d x
  split at h
  ·rename_i d' p nie x'
   simp only[Rbu]at h;obtain rfl:=wO h.1;obtain rfl:=aJ.beq0_eq h.2;simp only[aB]at hb ⊢;exact⟨hb.1,fun hv=>⟨(hb.2 hv).1,(fun e=>absurd e (by decide)),trivial⟩⟩
  ·cases h
 ·rw[aO.beq0_eq h];exact hb
theorem Aad:∀ {a b:List aO},dR a b=true->∀ {vs:List Value},aG σ ρ G w b vs->aG σ ρ G w a vs
 |[],[],_,vs,hb=>hb
 |[],_::_,h,vs,hb=>by simp[dR]at h
 |_::_,[],h,vs,hb=>by simp[dR]at h
 | a :: r, b :: s, h, vs, hb => by
  simp only[dR,Rbu]at h;simp only[aG]at hb ⊢;obtain⟨u,us,e,h1,h2⟩:=hb;exact⟨u,us,e,uP h.1 h1,Aad h.2 h2⟩
theorem Aae:∀ {a b:List aO},dR a b=true->a.length=b.length
 |[],[],_=>rfl
 |[],_::_,h=>by simp[dR]at h
 |_::_,[],h=>by simp[dR]at h
 | a :: r, b :: s, h => by
  simp only[dR,Rbu]at h;simp[Aae h.2]
theorem Aaf:∀ {a b:List aO},dR a b=true->∀ {j:Nat} {l:aO},a[j]?=some l->∃ m,b[j]?=some m/\wI l m=true
 |[],[],_,j,l,hj=>by simp at hj
 |[],_::_,h,_,_,_=>by simp[dR]at h
 |_::_,[],h,_,_,_=>by simp[dR]at h
 | a :: r, b :: s, h, j, l, hj => by
  simp only[dR,Rbu]at h
  cases j with
  | zero =>
   simp only[Rb2,Rbv]at hj;subst hj;exact⟨b,rfl,h.1⟩
  |succ j=>exact Aaf h.2 (by simpa using hj)
theorem Aac:∀ {ls:List aO} {j:Nat} {l:aO},ls[j]?=some l->(gK n xs cH eA ls)[j]?=some (l.sub n xs cH eA)
 |[],j,l,h=>by simp at h
 | m :: ls, 0, l, h => by
  simp only[Rb2,Rbv]at h;subst h;rfl
 | m :: ls, j + 1, l, h => by
  simp only[gK,List.getElem?_cons_succ]at h ⊢;exact Aac h
theorem Aab:∀ {ls:List aO},(gK n xs cH eA ls).length=ls.length
 |[]=>rfl
 |m::ls=>by simp[gK,Aab (ls:=ls)]
theorem Ca2:∀ {ls:List aO} {j:Nat} {l:aO},mH τ fk ls=true->ls[j]?=some l->l.wf τ fk=true
 |[],j,l,_,h=>by simp at h
 | m :: ls, 0, l, hs, h => by
  simp only[mH,Rbu]at hs;simp only[Rb2,Rbv]at h;rw[<- h];exact hs.1
 | m :: ls, j + 1, l, hs, h => by
  simp only[mH,Rbu]at hs;exact Ca2 hs.2 (by simpa using h)
end
theorem yE {s:St}{k:Nat}{c:aP}(h:s.get k=some c):(∃ t,k=kT t/\t<s.nt)\/(∃ b,k=kB b/\b<s.nb)\/(∃ r,k=kR r/\r<s.nr):=by
 unfold St.get at h
 cases hk:tL s.nt s.nb s.nr k with
 |false=>rw[hk]at h;cases h
 | true =>
  unfold tL at hk
  cases b0:Nat.beq (k % 3) 0 with
  | true =>
   rw[b0,cond_true,Sb5]at hk;simp only[Sbq]at b0;exact .inl ⟨k / 3,by unfold kT;omega,hk⟩
  | false =>
   rw[b0,cond_false]at hk;have n0:k % 3≠0:=fun e=>by rw[e]at b0;cases b0
   cases b1:Nat.beq (k % 3) 1 with
   | true =>
    rw[b1,cond_true,Sb5]at hk;simp only[Sbq]at b1;exact .inr (.inl ⟨k / 3,by unfold kB;omega,hk⟩)
   | false =>
    rw[b1,cond_false,Sb5]at hk;have n1:k % 3≠1:=fun e=>by rw[e]at b1;cases b1
    exact .inr (.inr ⟨k / 3,by unfold kR;omega,hk⟩)
theorem rV {n:Nat}{xs:List aJ}{cH eA:Nat}{τ s:St}:∀ {ks:List Nat},Aas n xs cH eA τ s ks=true->∀ k∈ks,bU n xs cH eA (τ.get k) (s.get k)=true
 |[],_,k,hk=>by simp at hk
 | k' :: ks, h, k, hk => by
  simp only[Aas,Rbu]at h
  rcases Rb4.1 hk with rfl|hk
  ·exact h.1
  ·exact rV h.2 k hk
theorem Aat {n:Nat}{xs:List aJ}{cH eA:Nat}{τ s:St}:∀ {ks:List Nat},Aau n xs cH eA τ s ks=true->∀ r∈ks,bU n xs cH eA (τ.get (kR r)) (s.get (kR (Qa0 cH eA r)))=true
 |[],_,k,hk=>by simp at hk
 | k' :: ks, h, k, hk => by
  simp only[Aau,Rbu]at h
  rcases Rb4.1 hk with rfl|hk
  ·exact h.1
  ·exact Aat h.2 k hk
theorem Bal {τ:St}{fk:Nat}:∀ {ks:List Nat},Eap τ fk ks=true->∀ k∈ks,qG τ fk k (τ.get k)=true
 |[],_,k,hk=>by simp at hk
 | k' :: ks, h, k, hk => by
  simp only[Eap,Rbu]at h
  rcases Rb4.1 hk with rfl|hk
  ·exact h.1
  ·exact Bal h.2 k hk
theorem Iao {τ:St}:∀ {ks:List Nat},Raj τ ks=true->∀ k∈ks,τ.get k=none
 |[],_,k,hk=>by simp at hk
 | k' :: ks, h, k, hk => by
  simp only[Raj,Rbu,Option.isNone_iff_eq_none]at h
  rcases Rb4.1 hk with rfl|hk
  ·exact h.1
  ·exact Iao h.2 k hk
structure xP (E:Env) (s0:St) (cH len:Nat) (τ:St):Prop where
 nv:τ.nv=s0.nv+len
 nt1:E.ntmps<=τ.nt
 nt2:τ.nt<=E.ntmps+E.ngh
 nr:τ.nr=cH+len
 le:s0.nr<=cH
 none:∀ r,s0.nr<=r->r<cH->τ.get (kR r)=none
 wf:∀ k c,τ.get k=some c->qG τ s0.nr k (some c)=true
theorem xV {E:Env}{s0:St}{cH len:Nat}{τ:St}(h:Cao E s0 cH len τ=true):xP E s0 cH len τ:=by
 simp only[Cao,Rbu,Sbq,Tbc]at h;obtain⟨⟨⟨⟨⟨⟨h1,h2⟩,h3⟩,h4⟩,h5⟩,h6⟩,h7⟩:=h
 have jt:∀ r,s0.nr<=r->r<cH->τ.get (kR r)=Option.none:=fun r ha hb =>
  Iao h6 _ (Sb7.2 ⟨r,mem_range.2 ⟨ha,by omega⟩,rfl⟩)
 refine⟨h1,h2,h3,h4,h5,jt,fun k c hk=>?_⟩
 have:k∈(range 0 τ.nt).map kT++(range 0 τ.nb).map kB++((range 0 s0.nr++range cH len).map kR):=by
  rcases yE hk with ⟨t,rfl,ht⟩|⟨b,rfl,hb⟩|⟨r,rfl,hr⟩
  ·exact Rbx _ (Rbx _ (Sb7.2 ⟨t,mem_range.2 ⟨by omega,by omega⟩,rfl⟩))
  ·exact Rbx _ (Rb0 _ (Sb7.2 ⟨b,mem_range.2 ⟨by omega,by omega⟩,rfl⟩))
  ·refine Rb0 _ (Sb7.2 ⟨r,?_,rfl⟩)
   rcases Sbh r s0.nr with h8|h8
   ·exact Rbx _ (mem_range.2 ⟨by omega,by omega⟩)
   ·rcases Sbh r cH with h9|h9
    ·rw[jt r h8 h9]at hk;cases hk
    ·exact Rb0 _ (mem_range.2 ⟨h9,by omega⟩)
 have:=Bal h7 k this;rw[hk]at this;exact this
theorem sG {τ:St}{fk k:Nat}{c:aP}(h:qG τ fk k (some c)=true):bT τ.nv c=true:=by
 simp only[qG,Rbu]at h;exact h.1
theorem xP.inScope {E:Env}{s0:St}{cH len:Nat}{τ:St}(h:xP E s0 cH len τ):xQ τ.get τ.nv:=fun k c hk=>sG (h.wf k c hk)
theorem Ka2 {n:Nat}{xs:List aJ}{cH eA:Nat}{x:aJ}{m v:Nat}{st:RSt}{c:Option aP}(h:bU n xs cH eA (some (.root x m v st)) c=true) :
  st=.gone\/∃ x',c=some (.root x' m v st)/\Lav n xs x=x':=by
 cases st with
 |gone=>exact .inl rfl
 | _ =>
  right
  cases c with
  |none=>simp[bU]at h
  | some c =>
   cases c with
   | root x' m' v' tR =>
    simp only[bU,Rbu,Sbq,zO,decide_eq_true_eq]at h;exact⟨x',by rw[h.1.1.1,h.1.1.2,h.1.2],aJ.beq0_eq h.2⟩
   |_=>simp[bU]at h
theorem Na4 {n:Nat}{xs:List aJ}{cH eA:Nat}{l:aO}{c:Option aP}(h:bU n xs cH eA (some (.slot none (.one l))) c=true) :
  ∃ b,c=some (.slot none (.one b))/\wI (l.sub n xs cH eA) b=true:=by
 cases c with
 |none=>simp[bU]at h
 | some c =>
  cases c with
  | slot g v =>
   cases g with
   |some g=>simp[bU]at h
   |none=>cases v<;>first | exact⟨_,rfl,by simpa[bU] using h⟩ | simp[bU]at h
  |_=>simp[bU]at h
theorem Na5 {n:Nat}{xs:List aJ}{cH eA:Nat}{l:List aO}{c:Option aP}(h:bU n xs cH eA (some (.slot none (.agg l))) c=true) :
  ∃ b,c=some (.slot none (.agg b))/\dR (gK n xs cH eA l) b=true:=by
 cases c with
 |none=>simp[bU]at h
 | some c =>
  cases c with
  | slot g v =>
   cases g with
   |some g=>simp[bU]at h
   |none=>cases v<;>first | exact⟨_,rfl,by simpa[bU] using h⟩ | simp[bU]at h
  |_=>simp[bU]at h
theorem Dak {n:Nat}{xs:List aJ}{cH eA:Nat}{ro:Bool}{l:List aO}{c:Option aP}(h:bU n xs cH eA (some (.box ro l)) c=true) :
  ∃ b,c=some (.box ro b)/\dR (gK n xs cH eA l) b=true:=by
 cases c with
 |none=>simp[bU]at h
 | some c =>
  cases c with
  | box l8 b =>
   simp only[bU,Rbu,beq_iff_eq]at h;exact⟨b,by rw[h.1],h.2⟩
  |_=>simp[bU]at h
theorem Cbs (t:Nat):kT t % 3=0:=by unfold kT;omega
theorem Ma8 (t:Nat):kB t % 3=1:=by unfold kB;omega
theorem Ma7 (t:Nat):kR t % 3=2:=by unfold kR;omega
theorem Kag {s:St}{k:Nat}{c:aP}(h:s.get k=some c)(hm:Nat.beq (k % 3) 0=true):∃ t,k=kT t/\t<s.nt:=by
 rw[Sbq]at hm
 rcases yE h with h|⟨b,rfl,hb⟩|⟨r,rfl,hr⟩
 ·exact h
 ·rw[Ma8]at hm;omega
 ·rw[Ma7]at hm;omega
theorem Db9 {s:St}{k:Nat}{c:aP}(h:s.get k=some c)(hm:Nat.beq (k % 3) 1=true):∃ t,k=kB t/\t<s.nb:=by
 rw[Sbq]at hm
 rcases yE h with ⟨b,rfl,hb⟩|h|⟨r,rfl,hr⟩
 ·rw[Cbs]at hm;omega
 ·exact h
 ·rw[Ma7]at hm;omega
theorem Ab2 {s:St}{k:Nat}{c:aP}(h:s.get k=some c)(hm:Nat.beq (k % 3) 2=true):∃ t,k=kR t/\t<s.nr:=by
 rw[Sbq]at hm
 rcases yE h with ⟨b,rfl,hb⟩|⟨r,rfl,hr⟩|h
 ·rw[Cbs]at hm;omega
 ·rw[Ma8]at hm;omega
 ·exact h
theorem R.fit {E:Env}{F:bE}{τ s s0:St}{ρ0 e:List D}{a:Act}{w:World}{G:Gh}{xs:List aJ}{cH eA len:Nat}
  (hR:R E.ntmps F s.get (ρ0++e) a w G) (hn:ρ0.length=s0.nv) (tu:xs.length=len) (lB:xP E s0 cH len τ)
  (fp:lU E s0.nv xs s0.nr cH eA len τ s=true) (hle:s0.nr<=eA):∃ G',R E.ntmps F τ.get (ρ0++xs.map (·.val (ρ0++e))) a w G':=by
 simp only[lU,Rbu]at fp;obtain⟨hf1,hf2⟩:=fp
 have lv:∀ t,t<τ.nt->bU s0.nv xs cH eA (τ.get (kT t)) (s.get (kT t))=true:=fun t ht =>
  rV hf1 _ (Rbx _ (Sb7.2 ⟨t,mem_range.2 ⟨by omega,by have:=lB.nt2;omega⟩,rfl⟩))
 have pB:∀ b,b<τ.nb->bU s0.nv xs cH eA (τ.get (kB b)) (s.get (kB b))=true:=fun b hb =>
  rV hf1 _ (Rb0 _ (Sb7.2 ⟨b,mem_range.2 ⟨by omega,by omega⟩,rfl⟩))
 have fx:∀ r,r<s0.nr\/(cH<=r/\r<cH+len)->bU s0.nv xs cH eA (τ.get (kR r)) (s.get (kR (Qa0 cH eA r)))=true:=fun r hr =>
  Aat hf2 r (by
   rcases hr with hr|hr
   ·exact Rbx _ (mem_range.2 ⟨by omega,by omega⟩)
   ·exact Rb0 _ (mem_range.2 hr))
 have hrk:∀ r c,τ.get (kR r)=some c->r<s0.nr\/(cH<=r/\r<cH+len):=by
  intro r c hk
  rcases yE hk with ⟨t,e,_⟩|⟨t,e,_⟩|⟨r',e,hr⟩
  ·exact absurd e.symm gW
  ·exact absurd e.symm eO
  ·obtain rfl:=eF e
   rw[lB.nr]at hr
   rcases Sbh r s0.nr with h1|h1
   ·exact .inl h1
   ·rcases Sbh r cH with h2|h2
    ·rw[lB.none r h1 h2]at hk;cases hk
    ·exact .inr ⟨h2,hr⟩
 have oe:∀ r x m v st,τ.get (kR r)=some (.root x m v st)->st=.live\/st=.frozen->∃ x',s.get (kR (Qa0 cH eA r))=some (.root x' m v st)/\Lav s0.nv xs x=x':=by
  intro r x m v st hk cj;have h1:=fx r (hrk r _ hk);rw[hk]at h1
  rcases Ka2 h1 with h2|h2
  ·rw[h2]at cj
   rcases cj with h|h<;>cases h
  ·exact h2
 let ρs:=ρ0++e
 let G':Gh:={ own:=fun b=>tH s0.nr eA cH (G.own b),hdr:=fun r=>G.hdr (Qa0 cH eA r),bx:=G.bx }
 have jn:∀ x,aZ τ.nv x=true->x.val (ρ0++xs.map (·.val ρs))=(Lav s0.nv xs x).val ρs:=by
  intro x hx
  cases x with
  |c d=>rfl
  | v i =>
   simp only[aZ,Sb5]at hx;rw[lB.nv]at hx;simp only[Lav]
   cases hb:Tbh i s0.nv with
   | true =>
    simp only[Sb5]at hb;simp only[cond_true,aJ.val,Rb5,ρs];rw[Rb9 (by omega),Rb9 (by omega)]
   | false =>
    have nj:s0.nv<=i:=by
     rcases Sbh i s0.nv with h|h
     ·rw[<- Sb5,hb]at h;cases h
     ·exact h
    simp only[cond_false];have aw:i-s0.nv<xs.length:=by omega
    rw[Rb5,Rbz aw,Tbw];simp only[aJ.val,Rb5];rw[List.getElem?_append_right (by omega),List.getElem?_map,hn,Rbz aw];rfl
 have H:Yan τ s.get (ρ0++xs.map (·.val ρs)) ρs G' G τ.nv s0.nv xs cH eA s0.nr:=by
  refine⟨jn,lB.le,hle,fun _=>rfl,fun _=>rfl,rfl,fun r k hr hv=>?_,fun r k m hr hv=>?_⟩
  ·obtain⟨x,m,st,hk,cj⟩:=hv
   obtain⟨x',h1,-⟩:=oe r x m k st hk cj;rw[qU (by have:=lB.le;omega)]at h1;exact⟨x',m,st,h1,cj⟩
  ·obtain⟨x,hk⟩:=hv
   obtain⟨x',h1,-⟩:=oe r x m k .live hk (.inl rfl);rw[qU (by have:=lB.le;omega)]at h1;exact⟨x',h1⟩
 refine⟨G',hR.tmps,hR.defers,fun k c hk=>?_,?_,fun b ls hk hb ho=>?_⟩
 ·have mf:=lB.wf k c hk
  have kv:=sG mf
  cases c with
  | slot g v =>
   cases g with
   |some g=>simp[qG]at mf
   | none =>
    cases v with
    | dead =>
     simp only[qG,Rbu]at mf;obtain⟨t,rfl,ht⟩:=Kag hk mf.2;exact⟨t,rfl,fun _=>trivial⟩
    | one l =>
     simp only[qG,Rbu]at mf;obtain⟨t,rfl,ht⟩:=Kag hk mf.2.1;refine⟨t,rfl,fun _=>?_⟩;have h1:=lv t ht;rw[hk]at h1;obtain⟨b,h2,h3⟩:=Na4 h1;have h4:aB s.get ρs G w b _:=hR.slot h2 rfl;simp only[bT,vW,Rbu]at kv;exact aB.fit H l _ kv.2 mf.2.2 (uP h3 h4)
    | agg ls =>
     simp only[qG,Rbu]at mf;obtain⟨t,rfl,ht⟩:=Kag hk mf.2.1;refine⟨t,rfl,fun _=>?_⟩;have h1:=lv t ht;rw[hk]at h1;obtain⟨b,h2,h3⟩:=Na5 h1;obtain⟨vs,h4,h5⟩:bV s.get ρs G w (.agg b) _:=hR.slot h2 rfl;simp only[bT,vW,Rbu]at kv;exact⟨vs,h4,aG.fit H ls _ kv.2 mf.2.2 (Aad h3 h5)⟩
    |tup ts=>simp[qG]at mf
  | box ro ls =>
   simp only[qG,Rbu]at mf;obtain⟨b,rfl,hb⟩:=Db9 hk mf.2.1;have h1:=pB b hb;rw[hk]at h1;obtain⟨bs,h2,h3⟩:=Dak h1;obtain⟨h4,h5,h6⟩:=hR.box h2;refine⟨b,rfl,h4,?_,fun j l hj=>?_⟩
   ·show tH _ _ _ _=_
    rw[h5];cases ro<;>rfl
   ·obtain⟨m,h7,h8⟩:=Aaf h3 (Aac hj)
    obtain⟨v,h9,du,eC⟩:=h6 j m h7;simp only[bT]at kv;exact⟨v,h9,du,aB.fit H l v (lQ kv hj) (Ca2 mf.2.2 hj) (uP h8 eC)⟩
  | root x m b9 st =>
   have hm:Nat.beq (k % 3) 2=true:=by
    cases st<;>simp only[qG,Rbu]at mf<;>first|exact mf.2|(exact absurd mf.2 (by decide))
   obtain⟨r,rfl,hr⟩:=Ab2 hk hm;have qx:=hrk r _ hk;refine⟨r,rfl,by rw[hk];rfl,?_⟩;simp only[bT]at kv;have a6g:r<s0.nr\/cH<=r:=qx.imp id (·.1)
   cases st with
   | live =>
    obtain⟨x',h1,h2⟩:=oe r x m b9 .live hk (.inl rfl);have h3:=hR.root h1;simp only[bP]at h3 ⊢;rw[jn x kv,h2]
    have:=h3.mono (own':=G'.own) (w':=w) (q:=[]) (q':=[]) (r':=r) (fun b hb=>⟨H.frz hb,rfl⟩) [] rfl (fun b t hb=>⟨by
     show tH _ _ _ _=_
     rw[hb];exact Fa3 lB.le hle a6g,rfl⟩)
    simpa using this
   | frozen =>
    obtain⟨x',h1,h2⟩:=oe r x m b9 .frozen hk (.inr rfl);obtain⟨h3,h4⟩:=hR.root h1;simp only[bP];rw[jn x kv,h2];refine⟨h3.mono fun b hb=>⟨H.frz hb,rfl⟩,fun b p hb=>?_⟩;exact h4 b p (Tax lB.le hb)
   |gone=>trivial
   |fwd r'=>simp[qG]at mf
 ·refine⟨hR.frame.os,hR.frame.tape,hR.frame.output,hR.frame.size,fun b hb ho=>?_,fun b j hb ho=>?_,fun b hb=>?_⟩
  ·obtain⟨h1,h2⟩:=hR.frame.keep b hb ho
   refine⟨h1,?_⟩;show tH _ _ _ _=_
   rw[h2]
   rcases ho with ho|ho<;>rw[ho]<;>rfl
  ·obtain⟨h1,h2⟩:=hR.frame.boxes b j hb ho
   refine⟨?_,h2⟩;show tH _ _ _ _=_
   rw[h1];rfl
  ·show tH _ _ _ _=_
   rw[hR.frame.fresh b hb];rfl
 ·have h1:=pB b (by
   rcases yE hk with ⟨t,e,_⟩|⟨t,e,ht⟩|⟨r',e,hr⟩
   ·exact absurd e.symm kK
   ·obtain rfl:=Aak e;exact ht
   ·exact absurd e eO)
  rw[hk]at h1;obtain⟨bs,h2,h3⟩:=Dak h1;have h4:=hR.rng b bs h2 hb ho;rw[h4,<- Aae h3,Aab]
def Va1 (draw:Bool)(s:St)(r:bM):St:={ (s.puts r.upd) with nv:=s.nv+bF r.lets,nb:=s.nb+1,nr:=Qaa draw s.nr r.upd }
inductive Laf (E:Env) (draw:Bool) (k8:Nat) (ops:List Oper):Nat->List Oper->St->List OpI->St->Prop
 |nil (i:Nat) (s:St):Laf E draw k8 ops i [] s [] s
 | cons {i : Nat} {o : Oper} {os : List Oper} {s : St} {g : Option (aJ × Bool)} {r : bM} {log : List Nat} {is : List OpI} {s' : St} (mv e9 : Bool)
   (h1:(kF E ops mv e9 s.nv s.nb s.nr o).run s.get=some ((g,r),log)) (h2:Abt s g r=true)
   (h3:Laf E draw k8 ops (i+1) os (Va1 draw s r) is s'):Laf E draw k8 ops i (o::os) s (⟨g,r,log,s.nb,s.nr⟩::is) s'
theorem Eax {E:Env}{draw:Bool}{k8:Nat}{ops:List Oper}:∀ {os:List Oper} {i:Nat} {s:St} {acc is:List OpI} {s':St},Uaz E draw k8 ops i os s acc=.inl (is,s') ->
  ∃ js,is=acc.reverse++js/\Laf E draw k8 ops i os s js s'
 | [], i, s, acc, is, s', h => by
  simp only[Uaz,Sum.inl.injEq,Sbj]at h;obtain⟨rfl,rfl⟩:=h;exact⟨[],by simp,.nil i s⟩
 | o :: os, i, s, acc, is, s', h => by
  simp only[Uaz]at h;split at h
  ·rename_i g r log cr
   cases rh:Abt s g r with
   |false=>rw[rh]at h;simp at h
   | true =>
    rw[rh]at h;simp only[Sb3,cond_false]at h;obtain⟨js,h1,h2⟩:=Eax h;exact⟨⟨g,r,log,s.nb,s.nr⟩::js,by rw[h1];simp,.cons _ _ cr rh h2⟩
  ·cases h
structure Bag (E:Env) (s:St):Prop where
 nt:E.ntmps<=s.nt
 sc:xQ s.get s.nv
def Lae (cf:Nat->List D->Option (List D))(ρ:List D):Nat->List OpI->Prop
 |_,[]=>True
 |nv,a::r=>aK cf ρ a.g nv a.res.lets/\Lae cf ρ (nv+bF a.res.lets) r
def yO (P:Program)(E:Env)(F:bE)(cf:Nat->List D->Option (List D)):Prop :=
 ∀ (σ:Nat->Option aP) (ρ:List D) (a:Act) (w:World) (G:Gh) (g:Option (aJ×Bool)) (o:Oper) (Q:Exit->Act->World->Prop) (mv e9:Bool) (nv nb nr:Nat) (res:bM) (f:Operand) (args:Array Operand) (argTypes:Array TypeId),
  R E.ntmps F σ ρ a w G->eU E.ntmps o->Bah σ nb nr->o.op=.call { callee:=.value f,args,argTypes } ->
  (nZ E mv e9 nv nb nr g o).eval σ=some res->res.upd.all (fun x=>wU E.ntmps nb nr x.1)=true->aK cf ρ g nv res.lets->fZ P E F σ ρ a w g o Q res.upd
section
variable {P:Program} {E:Env} {F:bE} {cf:Nat->List D->Option (List D)} {draw:Bool}
theorem Ian {s:St}{g:Option (aJ×Bool)}{r:bM}(h:Abt s g r=true) :
  nN s.nv g=true/\dW s.nv r.lets=true/\r.upd.all (fun x=>bT (s.nv+bF r.lets) x.2)=true:=by
 simp only[Abt,Rbu]at h;exact⟨h.1.1.2,h.1.2,h.2⟩
theorem Ja7 {ops:List Oper}{mv e9:Bool}{s:St}{o:Oper}{g:Option (aJ×Bool)}{r:bM}{log:List Nat}(hi:E.ntmps<=s.nt)
  (h1:(kF E ops mv e9 s.nv s.nb s.nr o).run s.get=some ((g,r),log)) (h2:Abt s g r=true):(Va1 draw s r).get=upds s.get r.upd:=by
 funext k;exact Abs h2 hi (jC (RdM.run_eval h1)).2.2.2 draw _ k
theorem Bag.next {ops:List Oper}{mv e9:Bool}{s:St}{o:Oper}{g:Option (aJ×Bool)}{r:bM}{log:List Nat}(hi:Bag E s)
  (h1:(kF E ops mv e9 s.nv s.nb s.nr o).run s.get=some ((g,r),log)) (h2:Abt s g r=true):Bag E (Va1 draw s r):=by
 refine⟨?_,?_⟩
 ·show E.ntmps<=(s.puts r.upd).nt
  rw[(iC r.upd s).2.2.2];exact hi.nt
 ·rw[Ja7 hi.nt h1 h2]
  exact hi.sc.upds (Vba ..) (Ian h2).2.2
theorem Sar {k8:Nat}{ops:List Oper}{i:Nat}{os:List Oper}{s s':St}{is:List OpI}(hc:Laf E draw k8 ops i os s is s') :
  ∀ {s'':St} {ρ:List D} {o:Out St},s''.nv=s'.nv->ρ.length=s.nv->Ec cf (Eaz (.leaf .fall [] s'') is) ρ=some o ->
  o.kind=.fall/\o.ext=s''/\o.env.length=s'.nv/\(∃ ds,o.env=ρ++ds)/\∀ ext,Lae cf (o.env++ext) s.nv is:=by
 induction hc with
 | nil i s =>
  intro s'' ρ o hv hl h;simp only[Eaz,fG,Rbv]at h;subst h;exact⟨rfl,rfl,hl,⟨[],by simp⟩,fun _=>trivial⟩
 | cons mv e9 h1 h2 h3 ih =>
  rename_i i o' os s g r log is s';intro s'' ρ o hv hl h;simp only[Eaz]at h;obtain⟨hg,hs,-⟩:=Ian h2;obtain⟨ds,h4,h5,h6⟩:=tY (by rw[hl];exact hg) (by rw[hl];exact hs) h;obtain⟨h7,h8,h9,⟨es,du⟩,eC⟩:=ih hv (by rw[Rb8,h4,hl];rfl) h5;refine⟨h7,h8,h9,⟨ds++es,by rw[du,Rb3]⟩,fun ext=>⟨?_,eC ext⟩⟩;have:=h6 (es++ext);rw[hl]at this;rw[du];simpa[Rb3] using this
theorem Xa6 {k8:Nat}{ops:List Oper}{i:Nat}{os:List Oper}{s s':St}{is:List OpI}(hc:Laf E draw k8 ops i os s is s')(hi:Bag E s):Bag E s':=by
 induction hc with
 |nil i s=>exact hi
 |cons mv e9 h1 h2 h3 ih=>exact ih (hi.next h1 h2)
theorem Bag.trim {lo:Nat}{d:Bool}{s:St}(h:Bag E s):Bag E (trimS d lo s) :=
 ⟨by rw[vT.2.2];exact h.nt,by rw[Lak,vT.1];exact h.sc⟩
theorem Xa7 {k8:Nat}{ops:List Oper}{i:Nat}{os:List Oper}{s s':St}{is:List OpI}(hc:Laf E draw k8 ops i os s is s'):∀ o∈os,eU E.ntmps o:=by
 induction hc with
 |nil i s=>simp
 | cons mv e9 h1 h2 h3 ih =>
  intro o ho
  rcases Rb4.1 ho with rfl|ho
  ·exact (jC (RdM.run_eval h1)).2.1
  ·exact ih o ho
theorem Lbw (hti:tQ P E.ti)(dm:yO P E F cf){ops:Array Oper}(py:∀ o∈ops.toList,eU E.ntmps o){mv e9:Bool}{s:St}{o:Oper}{g:Option (aJ×Bool)}{r:bM}{ρ:List D}{a:Act}{w:World}{G:Gh}{Q:Exit->Act->World->Prop}
  {σ:Nat->Option aP} (hf:Bah σ s.nb s.nr)
  (hR:R E.ntmps F σ ρ a w G) (h1:(kF E ops.toList mv e9 s.nv s.nb s.nr o).eval σ=some (g,r)) (cj:aK cf ρ g s.nv r.lets):Fbq P E F σ ρ ops o Q r.upd a w:=by
 refine zB hR hti py hf h1 cj fun f args argTypes ho=>?_
 obtain⟨h2,h3,h4,h5⟩:=jC h1;rw[Ha0 ho]at h4;exact dm σ ρ a w G g o Q mv e9 s.nv s.nb s.nr r f args argTypes hR h3 hf ho h4 h5 cj
theorem Xa5 (hti:tQ P E.ti)(dm:yO P E F cf){k8:Nat}{ops:Array Oper}(py:∀ o∈ops.toList,eU E.ntmps o){Q:Exit->Act->World->Prop}{i:Nat}{os:List Oper}{s s':St}{is:List OpI}(hc:Laf E draw k8 ops.toList i os s is s') :
  ∀ {ρ:List D} {a:Act} {w:World} {G:Gh},ops.toList.drop i=os->R E.ntmps F s.get ρ a w G->Bag E s->Lae cf ρ s.nv is ->
  (∀ a' w' G',R E.ntmps F s'.get ρ a' w' G'->Q .normal a' w')->wpOps P ops Q (List.range' i os.length) a w:=by
 induction hc with
 | nil i s =>
  intro ρ a w G hdr hR hi cj hQ;exact hQ a w G hR
 | cons mv e9 h1 h2 h3 ih =>
  rename_i i o os s g r log is s';intro ρ a w G hdr hR hi cj hQ
  have nq:ops[i]?=some o:=by
   rw[<- Tbo];have:(ops.toList.drop i)[0]?=some o:=by rw[hdr];rfl
   rwa[List.getElem?_drop,Sbz]at this
  rw[Sbm,List.range'_succ,wpOps_cons];unfold wpOp;rw[nq];have fS:=Lbw (Q:=Q) hti dm py Nak hR (RdM.run_eval h1) cj.1
  have wv:∀ a w,Nx E.ntmps F s.get ρ r.upd a w->wpOps P ops Q (List.range' (i+1) os.length) a w:=by
   intro a' w' ⟨G',jg⟩;rw[<- Ja7 hi.nt h1 h2]at jg;exact ih (by rw[<- List.drop_drop,hdr];rfl) jg (hi.next h1 h2) cj.2 hQ
  unfold Fbq at fS;dsimp only;split
  ·rename_i hw
   rw[if_pos hw]at fS;exact .inl (Oper.wp_mono wv fS)
  ·rename_i hw
   rw[if_neg hw]at fS;exact wv _ _ fS
end
theorem nH {a b:List Nat}(h:meets a b=false){k:Nat}(ha:k∈a):k∉b:=by
 intro hb
 have:meets a b=true:=by
  unfold meets;rw[List.any_eq_true];exact⟨k,ha,kY.2 hb⟩
 rw[h]at this;cases this
theorem Ear {acc:List Nat}:∀ {es:List Edge} {m b:Nat},Ubc (xR acc es m) b=true->Ubc m b=true\/∃ e∈es,Region.binds .any e=true/\(b=e.on\/Ubc (acc.getD e.on 0) b=true)
 |[],m,b,h=>.inl h
 | e :: es, m, b, h => by
  have h':Ubc (xR acc es (bif Region.binds .any e then (m ||| 2 ^ e.on) ||| acc.getD e.on 0 else m)) b=true:=h
  rcases Ear (es:=es) h' with h1|⟨e',he',h1⟩
  ·cases hb:Region.binds .any e with
   |false=>rw[hb,cond_false]at h1;exact .inl h1
   | true =>
    rw[hb,cond_true]at h1;simp only[Nat.testBit_or,Tbk,Nat.testBit_two_pow,decide_eq_true_eq]at h1
    rcases h1 with (h1|h1)|h1
    ·exact .inl h1
    ·exact .inr ⟨e,Sbe,hb,.inl h1.symm⟩
    ·exact .inr ⟨e,Sbe,hb,.inr h1⟩
  ·exact .inr ⟨e',Rb7 _ he',h1⟩
theorem Eaq:∀ {os:List Oper} {acc:List Nat} {i w:Nat},acc[i]?=some w->(waits os acc)[i]?=some w
 |[],_,_,_,h=>h
 | o :: os, acc, i, w, h => by
  refine Eaq (os:=os) ?_;rw[Rb9 (Rbw.1 h).1];exact h
theorem Lai:∀ {os:List Oper} {acc:List Nat} {p w:Nat} {o:Oper},os[p]?=some o->(waits os acc)[acc.length+p]?=some w->∀ b,Ubc w b=true ->
  ∃ e∈o.after.toList,Region.binds .any e=true/\(b=e.on\/∃ w',(waits os acc)[e.on]?=some w'/\Ubc w' b=true)
 |[],acc,p,w,o,ho,_,_,_=>by simp at ho
 | o' :: os, acc, 0, w, o, ho, hw, b, hb => by
  simp only[Rb2,Rbv]at ho;subst ho;have h1:(acc++[xR acc o'.after.toList 0])[acc.length]?=some (xR acc o'.after.toList 0):=by simp
  have h2:=Eaq (os:=os) h1;simp only[waits,Sbz]at hw;rw[h2]at hw;obtain rfl:=Sbs hw
  rcases Ear hb with h3|⟨e,he,h4,h5⟩
  ·simp at h3
  ·refine⟨e,he,h4,h5.imp id fun h6=>?_⟩
   rw[Rb5]at h6
   cases ha:acc[e.on]? with
   |none=>rw[ha]at h6;simp at h6
   | some w' =>
    rw[ha,Tbw]at h6;have aw:=(Rbw.1 ha).1;exact⟨w',Eaq (os:=os) (by rw[Rb9 aw];exact ha),h6⟩
 | o' :: os, acc, p + 1, w, o, ho, hw, b, hb => by
  have:=Lai (os:=os) (acc:=acc++[xR acc o'.after.toList 0]) (p:=p) (w:=w) (o:=o) (by simpa using ho) (by
   simp only[Rb8,List.length_singleton];simp only[waits]at hw;rw[<- hw];congr 1
   omega) b hb
  exact this
theorem Daa {a:OpI}{i:Nat}:∀ {bs:List OpI} {ws:List Nat},Aap a i bs ws=true->∀ {q:Nat} {b:OpI},bs[q]?=some b->∃ w,ws[q]?=some w/\(Ubc w i=true\/oO a b=true)
 |[],_,_,q,b,h=>by simp at h
 |_::_,[],h,_,_,_=>by simp[Aap]at h
 | b :: bs, w :: ws, h, q, b', hq => by
  simp only[Aap,Rbu,Tbk]at h
  cases q with
  | zero =>
   simp only[Rb2,Rbv]at hq;subst hq;exact⟨w,rfl,h.1⟩
  |succ q=>exact Daa h.2 (by simpa using hq)
theorem zV:∀ {is:List OpI} {ws:List Nat} {i:Nat},uI is ws i=true->∀ {p q:Nat} {a b:OpI},p<q->is[p]?=some a->is[q]?=some b ->
  ∃ w,ws[q]?=some w/\(Ubc w (i+p)=true\/oO a b=true)
 |[],_,_,_,p,q,a,b,_,hp,_=>by simp at hp
 | x :: is, ws, i, h, p, q, a, b, hpq, hp, hq => by
  simp only[uI,Rbu]at h
  cases q with
  |zero=>omega
  | succ q =>
   cases p with
   | zero =>
    simp only[Rb2,Rbv]at hp;subst hp;obtain⟨w,h1,h2⟩:=Daa h.1 (q:=q) (by simpa using hq);exact⟨w,by rw[List.getElem?_tail]at h1;exact h1,h2⟩
   | succ p =>
    obtain⟨w,h1,h2⟩:=zV h.2 (p:=p) (q:=q) (by omega) (by simpa using hp) (by simpa using hq);exact⟨w,by rw[List.getElem?_tail]at h1;exact h1,by rw[show i+(p+1)=i+1+p by omega];exact h2⟩
theorem Dai:∀ {os:List Oper} {i:Nat},Aa0 os i=true->∀ {p:Nat} {o:Oper},os[p]?=some o->∀ e∈o.after.toList,Region.binds .any e=true->e.on<i+p
 |[],_,_,p,o,h,_,_,_=>by simp at h
 | x :: os, i, h, p, o, hp, e, he, hb => by
  simp only[Aa0,Rbu,Sbp,Tbk,Sbl,Sb5]at h
  cases p with
  | zero =>
   simp only[Rb2,Rbv]at hp;subst hp
   rcases h.1 e he with h1|h1
   ·rw[hb]at h1;cases h1
   ·omega
  | succ p =>
   have:=Dai h.2 (p:=p) (by simpa using hp) e he hb;omega
def sig (D:Nat->Bool):Nat->List OpI->(Nat->Option aP)->Nat->Option aP
 |_,[],σ=>σ
 |i,a::r,σ=>sig D (i+1) r (bif D i then upds σ a.res.upd else σ)
def Wr (a:OpI)(k:Nat):Prop:=∃ c,(k,c)∈a.res.upd
theorem Jah {a:OpI}{σ:Nat->Option aP}{k:Nat}(h:¬ Wr a k):upds σ a.res.upd k=σ k:=eB _ _ _ fun c hc=>h ⟨c,hc⟩
theorem zF {D D':Nat->Bool}{k:Nat}:∀ {is:List OpI} {i:Nat} {σ eE:Nat->Option aP},(∀ p a,is[p]?=some a->Wr a k->D (i+p)=D' (i+p))->σ k=eE k->sig D i is σ k=sig D' i is eE k
 |[],i,σ,eE,_,h=>h
 | a :: r, i, σ, eE, hd, h => by
  simp only[sig];refine zF (fun p b hb hw=>?_) ?_
  ·have:=hd (p+1) b (by simpa using hb) hw
   rw[show i+(p+1)=i+1+p by omega]at this;exact this
  ·by_cases hw:Wr a k
   ·have:=hd 0 a rfl hw
    rw[Sbz]at this;rw[this]
    cases D' i with
    |false=>exact h
    |true=>exact pJ _ _ _ _ h
   ·have e:∀ (x:Bool) (τ:Nat->Option aP),(bif x then upds τ a.res.upd else τ) k=τ k:=by
     intro x τ
     cases x with
     |false=>rfl
     |true=>exact Jah hw
    rw[e,e];exact h
theorem uA {D:Nat->Bool}{k:Nat}:∀ {is:List OpI} {i:Nat} {σ:Nat->Option aP},(∀ p a,is[p]?=some a->Wr a k->D (i+p)=false)->sig D i is σ k=σ k
 |[],i,σ,_=>rfl
 | a :: r, i, σ, hd => by
  simp only[sig]
  rw[uA fun p b hb hw=>by
   have:=hd (p+1) b (by simpa using hb) hw;rw[show i+(p+1)=i+1+p by omega]at this;exact this]
  by_cases hw:Wr a k
  ·have:=hd 0 a rfl hw
   rw[Sbz]at this;rw[this];rfl
  ·cases D i with
   |false=>rfl
   |true=>exact Jah hw
theorem Qa6 {D:Nat->Bool}{k:Nat}:∀ {is:List OpI} {i p:Nat} {a:OpI} {σ τ:Nat->Option aP},is[p]?=some a->D (i+p)=true->Wr a k->(∀ q b,p<q->is[q]?=some b->Wr b k->D (i+q)=false) ->
  sig D i is σ k=upds τ a.res.upd k
 |[],i,p,a,σ,τ,hp,_,_,_=>by simp at hp
 | x :: r, i, 0, a, σ, τ, hp, hD, hw, hq => by
  simp only[Rb2,Rbv]at hp;subst hp;rw[Sbz]at hD;simp only[sig]
  rw[uA fun q b hb xw=>by
   have:=hq (q+1) b (by omega) (by simpa using hb) xw;rw[show i+(q+1)=i+1+q by omega]at this;exact this,hD,cond_true]
  exact Da0 _ _ _ _ hw
 | x :: r, i, p + 1, a, σ, τ, hp, hD, hw, hq => by
  simp only[sig];refine Qa6 (p:=p) (by simpa using hp) (by rw[show i+1+p=i+(p+1) by omega];exact hD) hw fun q b hpq hb xw=>?_
  have:=hq (q+1) b (by omega) (by simpa using hb) xw;rw[show i+(q+1)=i+1+q by omega]at this;exact this
section
variable {P:Program} {E:Env} {F:bE} {cf:Nat->List D->Option (List D)}
theorem Qa5 {D:Nat->Bool}{is:List OpI}{i:Nat}{σ:Nat->Option aP}(h:∀ q,i<=q->D q=false):sig D i is σ=σ :=
 funext fun k=>uA fun p a _ _=>h _ (Vba ..)
structure At (E:Env) (ops:List Oper) (cf:Nat->List D->Option (List D)) (ρ:List D) (σ0:Nat->Option aP) (i0:Nat) (is:List OpI) (p:Nat) (o:Oper) (a:OpI) (s0:St):Prop where
 run:∃ mv e9 nv,(kF E ops mv e9 nv a.nb a.nr o).run (sig (fun q=>decide (q<i0+p)) i0 is σ0)=some ((a.g,a.res),a.log)/\aK cf ρ a.g nv a.res.lets
 nb:a.nb=s0.nb+p
 nr:a.nr=s0.nr+bR*p
theorem Bb2 {k8:Nat}{ops:List Oper}{i:Nat}{os:List Oper}{s s':St}{is:List OpI}(hc:Laf E true k8 ops i os s is s') :
  ∀ {ρ:List D},Bag E s->Lae cf ρ s.nv is->is.length=os.length/\s'.get=sig (fun _=>true) i is s.get/\∀ p o,os[p]?=some o->∃ a,is[p]?=some a/\At E ops cf ρ s.get i is p o a s:=by
 induction hc with
 |nil i s=>exact fun _ _=>⟨rfl,rfl,by simp⟩
 | cons mv e9 h1 h2 h3 ih =>
  rename_i i o os s g r log is s';intro ρ hi cj;obtain⟨h4,h5,h6⟩:=ih (hi.next h1 h2) cj.2;have hg:=Ja7 (draw:=true) hi.nt h1 h2;refine⟨by simp[h4],?_,fun p o' hp=>?_⟩
  ·rw[h5,hg];rfl
  ·cases p with
   | zero =>
    simp only[Rb2,Rbv]at hp;subst hp;refine⟨_,rfl,⟨mv,e9,s.nv,?_,cj.1⟩,rfl,rfl⟩;rw[Sbz,Qa5 fun q hq=>by simpa using hq];exact h1
   | succ p =>
    obtain⟨a,h7,h8⟩:=h6 p o' (by simpa using hp);refine⟨a,by simpa using h7,?_,?_,?_⟩
    ·obtain⟨mv',a14,nv',h9,du⟩:=h8.run
     refine⟨mv',a14,nv',?_,du⟩;simp only[sig];have:(decide (i<i+(p+1)):Bool)=true:=by simp
     rw[this,cond_true,<- hg,show i+(p+1)=i+1+p by omega];exact h9
    ·rw[h8.nb];show s.nb+1+p=_;omega
    ·rw[h8.nr]
     show s.nr+bR+bR*p=_
     rw[Nat.mul_succ];omega
theorem Rao {a:OpI}{n nb nr k:Nat}(h:a.res.upd.all (fun x=>wU n nb nr x.1)=true)(hw:Wr a k):wU n nb nr k=true:=by
 obtain⟨c,hc⟩:=hw;rw[Sbp]at h;exact h _ hc
theorem Waj {n nb nr b:Nat}(h:wU n nb nr (kB b)=true):b<=nb:=by
 unfold wU at h;rw[Ma8]at h;have:kB b / 3=b:=by unfold kB;omega
 rw[this]at h;simpa using h
theorem Ba1 {n nb nr r:Nat}(h:wU n nb nr (kR r)=true):r<nr+bR:=by
 unfold wU at h;rw[Ma7]at h;have:kR r / 3=r:=by unfold kR;omega
 rw[this]at h;simpa using h
structure Dbb (E:Env) (ops:Array Oper) (cf:Nat->List D->Option (List D)) (ρ:List D) (s:St) (is:List OpI):Prop where
 len:is.length=ops.size
 at_:∀ p o,ops.toList[p]?=some o->∃ a,is[p]?=some a/\At E ops.toList cf ρ s.get 0 is p o a s
 free:∀ p q a b,p<q->is[p]?=some a->is[q]?=some b->(∃ w,(waits ops.toList [])[q]?=some w/\Ubc w p=true)\/oO a b=true
 low:∀ p o,ops.toList[p]?=some o->∀ e∈o.after.toList,Region.binds .any e=true->e.on<p
 dst:∀ o∈ops.toList,eU E.ntmps o
def dn (l:Array Bool)(q:Nat):Bool:=l.getD q false
def Closed (ops:Array Oper)(l:Array Bool):Prop:=∀ q w p,dn l q=true->(waits ops.toList [])[q]?=some w->Ubc w p=true->dn l p=true
theorem apart_spec {a b:OpI}(h:oO a b=true):(∀ k,Wr a k->k∉b.log)/\(∀ k,Wr a k->¬ Wr b k)/\(∀ k,k∈a.log->¬ Wr b k)/\∀ k,Wr b k->Kan a k=false:=by
 simp only[oO,Rbu,Sbl]at h;obtain⟨⟨⟨h1,h2⟩,h3⟩,h4⟩:=h
 have key:∀ {x:OpI} {k:Nat},Wr x k↔k∈x.res.upd.map (·.1):=by
  intro x k;simp only[Sb7];constructor
  ·rintro⟨c,hc⟩;exact⟨_,hc,rfl⟩
  ·rintro⟨⟨k',c⟩,hc,rfl⟩;exact⟨c,hc⟩
 refine⟨fun k hk=>nH h1 (key.1 hk),fun k hk hb=>nH h2 (key.1 hk) (key.1 hb),fun k hk hb=>nH h3 hk (key.1 hb),fun k hk=>?_⟩;rw[List.any_eq_false]at h4;simpa using h4 k (key.1 hk)
theorem Pa7:∀ {l:List Bool} {i:Nat},l[i]?=some false->(l.set i true).count false+1=l.count false
 |[],i,h=>by simp at h
 | b :: l, 0, h => by
  simp only[Rb2,Rbv]at h;subst h;simp
 | b :: l, i + 1, h => by
  have:=Pa7 (l:=l) (i:=i) (by simpa using h);simp only[List.set_cons_succ,List.count_cons];omega
theorem Iag {ops:Array Oper}{l:Array Bool}{i:Nat}(hl:l.size=ops.size)(h:i∈Region.ready .any ops l) :
  ∃ o,ops[i]?=some o/\l[i]?=some false/\∀ e∈o.after.toList,Region.binds .any e=true->dn l e.on=true:=by
 unfold Region.ready at h;rw[Tb8,Ub1]at h;obtain⟨h1,h2⟩:=h;simp only[Rbu,Sbl]at h2;have ho:ops[i]?=some ops[i]:=Sbv h1;rw[ho,Sb9,Tbw]at h2;refine⟨_,ho,?_,fun e he hb=>?_⟩
 ·have h3:=h2.1
  rw[Sb6]at h3;have aw:i<l.size:=by omega
  rw[Sbv aw,Tbw]at h3;rw[Sbv aw,h3]
 ·have h3:=h2.2
  rw[<- Array.all_toList,Sbp]at h3;have:=h3 e he;rw[hb]at this;simpa[dn] using this
theorem ready_nil {ops:Array Oper}{l:Array Bool}(hl:l.size=ops.size)(sE:∀ p o,ops.toList[p]?=some o->∀ e∈o.after.toList,Region.binds .any e=true->e.on<p)
  (h:Region.ready .any ops l=[]):∀ q,q<ops.size->dn l q=true:=by
 intro q
 induction q using Nat.strongRecOn with
 | _ q ih =>
  intro hq
  cases hd:dn l q with
  |true=>rfl
  | false =>
   exfalso;have ho:ops[q]?=some ops[q]:=Sbv hq
   have:q∈Region.ready .any ops l:=by
    unfold Region.ready;rw[Tb8,Ub1];refine⟨hq,?_⟩;simp only[Rbu,Sbl];refine⟨?_,?_⟩
    ·have aw:q<l.size:=by omega
     unfold dn at hd;rw[Sb6,Sbv aw,Tbw]at hd ⊢;exact hd
    ·rw[ho,Sb9,Tbw,<- Array.all_toList,Sbp]
     intro e he
     cases hb:Region.binds .any e with
     |false=>rfl
     | true =>
      have aw:=sE q _ (by rw[Tbo];exact ho) e he hb;have:=ih e.on aw (by omega);simpa[dn] using this
   rw[h]at this;simp at this
theorem Ra3 {l:Array Bool}{i:Nat}(hi:i<l.size)(q:Nat):dn (l.setIfInBounds i true) q=(decide (q=i)||dn l q):=by
 unfold dn;rw[Sb6,Sb6,Array.getElem?_setIfInBounds];by_cases h:i=q
 ·subst h
  simp[hi]
 ·rw[if_neg h]
  have:(decide (q=i):Bool)=false:=by simp;exact fun e=>h e.symm
  rw[this,Tby]
theorem Bbr (hti:tQ P E.ti)(dm:yO P E F cf){ops:Array Oper}{s:St}{is:List OpI}{ρ:List D}(hd:Dbb E ops cf ρ s is){Q:Exit->Act->World->Prop}
  (hQ:∀ a' w' G',R E.ntmps F (sig (fun _=>true) 0 is s.get) ρ a' w' G'->Q .normal a' w') :
  ∀ (fuel:Nat) (l:Array Bool) (a:Act) (w:World) (G:Gh),l.size=ops.size->l.toList.count false<=fuel->Closed ops l->R E.ntmps F (sig (dn l) 0 is s.get) ρ a w G ->
  wpAny P .any ops Q fuel l a w:=by
 have we:∀ (l:Array Bool) (a:Act) (w:World) (G:Gh),l.size=ops.size->R E.ntmps F (sig (dn l) 0 is s.get) ρ a w G->Region.ready .any ops l=[]->Q .normal a w:=by
  intro l a w G hl hR hr;have cQ:=ready_nil hl hd.low hr;refine hQ a w G ?_
  have:sig (fun _=>true) 0 is s.get=sig (dn l) 0 is s.get:=by
   funext k;refine zF (fun p a hp _=>?_) rfl;have aw:=(Rbw.1 hp).1;rw[hd.len]at aw;rw[cQ _ (by omega)]
  rw[this];exact hR
 intro fuel
 induction fuel with
 | zero =>
  intro l a w G hl uz gf hR
  have fR:Region.ready .any ops l=[]:=by
   cases hr:Region.ready .any ops l with
   |nil=>rfl
   | cons i r =>
    exfalso;obtain⟨o,h1,h2,h3⟩:=Iag hl (by rw[hr];exact Sbe:i∈Region.ready .any ops l);rw[<- Tbo]at h2;have:=Pa7 h2;omega
  exact⟨fR,we l a w G hl hR fR⟩
 | succ fuel ih =>
  intro l a w G hl uz gf hR;refine⟨we l a w G hl hR,fun i hi=>?_⟩;obtain⟨o,ho,xm,si⟩:=Iag hl hi;have hoL:ops.toList[i]?=some o:=by rw[Tbo];exact ho
  have oy:i<l.size:=by
   rw[<- Tbo]at xm;have:=(Rbw.1 xm).1;simpa using this
  obtain⟨ai,hai,jn⟩:=hd.at_ i o hoL;obtain⟨mv,e9,nv,cr,cj⟩:=jn.run
  have tG:dn l i=false:=by
   unfold dn;rw[Sb6,xm];rfl
  have xi:∀ w p,(waits ops.toList [])[i]?=some w->Ubc w p=true->dn l p=true:=by
   intro w' p hw hb;obtain⟨e,he,hbe,h1⟩:=Lai (acc:=[]) (p:=i) hoL (by simpa using hw) p hb
   rcases h1 with h1|⟨w'',h1,h2⟩
   ·rw[h1];exact si e he hbe
   ·exact gf e.on w'' p (si e he hbe) h1 h2
  have uw:∀ p b,p<i->is[p]?=some b->dn l p=false->oO b ai=true:=by
   intro p b hpi hb hnd
   rcases hd.free p i b ai hpi hb hai with ⟨w',h1,h2⟩|h
   ·rw[xi w' p h1 h2]at hnd;cases hnd
   ·exact h
  have mh:∀ q b,i<q->is[q]?=some b->dn l q=true->oO ai b=true:=by
   intro q b hiq hb y5
   rcases hd.free i q ai b hiq hai hb with ⟨w',h1,h2⟩|h
   ·rw[gf q w' i y5 h1 h2]at tG;cases tG
   ·exact h
  have a0k:∀ k∈ai.log,sig (dn l) 0 is s.get k=sig (fun q=>decide (q<0+i)) 0 is s.get k:=by
   intro k hk;refine zF (fun p b hb hw=>?_) rfl;rw[Sbo,Sbo]
   rcases Ubv p i with h|h|h
   ·have e:(decide (p<i):Bool)=true:=by simpa using h
    rw[e]
    cases hdp:dn l p with
    |true=>rfl
    |false=>exact absurd hk ((apart_spec (uw p b h hb hdp)).1 k hw)
   ·subst h
    rw[tG];simp
   ·have e:(decide (p<i):Bool)=false:=by simp;omega
    rw[e]
    cases hdp:dn l p with
    |false=>rfl
    |true=>exact absurd hw ((apart_spec (mh p b h hb hdp)).2.2.1 k hk)
  have wz:=RdM.run_eval (RdM.run_same cr a0k)
  have lp:∀ (p:Nat) (b:OpI),is[p]?=some b->∃ nv' ,b.res.upd.all (fun x=>wU E.ntmps (s.nb+p) (s.nr+bR*p) x.1)=true/\nv'=nv:=by
   intro p b hb;have aw:=(Rbw.1 hb).1
   have kr:ops.toList[p]?=some ops.toList[p]!:=by
    rw[List.getElem!_eq_getElem?_getD,Rbz (by simpa[<- hd.len] using aw)];rfl
   obtain⟨b',eJ,yg⟩:=hd.at_ p _ kr;rw[hb]at eJ;obtain rfl:=Sbs eJ;obtain⟨mv',a14,nv',hr',-⟩:=yg.run;have:=(jC (RdM.run_eval hr')).2.2.2;rw[yg.nb,yg.nr]at this;exact⟨nv,this,rfl⟩
  have qk:Bah (sig (dn l) 0 is s.get) ai.nb ai.nr:=by
   have hf:=Nak (s:=s);refine⟨?_,fun j hj1 lR=>?_⟩
   ·rw[uA fun p b hb hw=>?_]
    ·rw[jn.nb]
     unfold St.get tL kB;have e:(3*(s.nb+i)+1) % 3=1:=by omega
     have e2:(3*(s.nb+i)+1) / 3=s.nb+i:=by omega
     rw[e,e2]
     have:Tbh (s.nb+i) s.nb=false:=by
      cases hb:Tbh (s.nb+i) s.nb with
      |false=>rfl
      |true=>simp only[Sb5]at hb;omega
     rw[this];rfl
    ·rw[Sbo]
     obtain⟨_,hk,-⟩:=lp p b hb;have h1:=Waj (Rao hk hw);rw[jn.nb]at h1
     rcases Ubv p i with h|h|h
     ·omega
     ·rw[h];exact tG
     ·cases hdp:dn l p with
      |false=>rfl
      | true =>
       have:=(apart_spec (mh p b h hb hdp)).2.2.2 _ hw;unfold Kan at this;rw[Ma8]at this;have e2:kB ai.nb / 3=ai.nb:=by unfold kB;omega
       rw[e2]at this;simp at this
   ·rw[uA fun p b hb hw=>?_]
    ·unfold St.get tL kR
     have e:(3*j+2) % 3=2:=by omega
     have e2:(3*j+2) / 3=j:=by omega
     rw[e,e2]
     have:Tbh j s.nr=false:=by
      cases hb:Tbh j s.nr with
      |false=>rfl
      |true=>simp only[Sb5]at hb;rw[jn.nr]at hj1;omega
     rw[this];rfl
    ·rw[Sbo]
     obtain⟨_,hk,-⟩:=lp p b hb;have h1:=Ba1 (Rao hk hw)
     rcases Ubv p i with h|h|h
     ·rw[jn.nr]at hj1
      have:bR*(p+1)<=bR*i:=Nat.mul_le_mul_left _ h;rw[Nat.mul_succ]at this;omega
     ·rw[h];exact tG
     ·cases hdp:dn l p with
      |false=>rfl
      | true =>
       have:=(apart_spec (mh p b h hb hdp)).2.2.2 _ hw;unfold Kan at this;rw[Ma7]at this;have e2:kR j / 3=j:=by unfold kR;omega
       rw[e2]at this;have e3:Nat.ble ai.nr j=true:=by simpa using hj1
       have e4:Tbh j (ai.nr+bR)=true:=by simpa using lR
       rw[e3,e4]at this;simp at this
  have fS:Fbq P E F (sig (dn l) 0 is s.get) ρ ops o Q ai.res.upd a w:=by
   refine zB hR hti hd.dst qk wz cj fun f args argTypes uy=>?_
   obtain⟨h2,h3,h4,h5⟩:=jC wz;rw[Ha0 uy]at h4;exact dm _ ρ a w G ai.g o Q mv e9 nv _ _ ai.res f args argTypes hR h3 qk uy h4 h5 cj
  have a0v:sig (dn (l.setIfInBounds i true)) 0 is s.get=upds (sig (dn l) 0 is s.get) ai.res.upd:=by
   funext k;by_cases hw:Wr ai k
   ·refine Qa6 hai (by rw[Sbo,Ra3 oy];simp) hw fun q b hiq hb xw=>?_
    rw[Sbo,Ra3 oy];have e:(decide (q=i):Bool)=false:=by simp;omega
    rw[e,Tby]
    cases y5:dn l q with
    |false=>rfl
    |true=>exact absurd xw ((apart_spec (mh q b hiq hb y5)).2.1 k hw)
   ·rw[Jah hw]
    refine zF (fun p b hb xw=>?_) rfl;rw[Sbo,Ra3 oy]
    have e:(decide (p=i):Bool)=false:=by
     simp;intro e;subst e;rw[hai]at hb;obtain rfl:=Sbs hb;exact hw xw
    rw[e,Tby]
  have a42:Closed ops (l.setIfInBounds i true):=by
   intro q w' p y5 hw hb;rw[Ra3 oy]at y5 ⊢;by_cases e:q=i
   ·subst e
    rw[xi w' p hw hb,Vbe]
   ·have e':(decide (q=i):Bool)=false:=by simp[e]
    rw[e',Tby]at y5;rw[gf q w' p y5 hw hb,Vbe]
  have wv:∀ a w,Nx E.ntmps F (sig (dn l) 0 is s.get) ρ ai.res.upd a w->wpAny P .any ops Q fuel (l.setIfInBounds i true) a w:=by
   intro a' w' ⟨G',jg⟩;rw[<- a0v]at jg;refine ih _ a' w' G' (by simp[hl]) ?_ a42 jg;rw[Array.toList_setIfInBounds];rw[<- Tbo]at xm;have:=Pa7 xm;omega
  unfold wpOp;rw[ho];unfold Fbq at fS;dsimp only;split
  ·rename_i hw
   rw[if_pos hw]at fS;exact .inl (Oper.wp_mono wv fS)
  ·rename_i hw
   rw[if_neg hw]at fS;exact wv _ _ fS
end
section
variable {P:Program} {E:Env} {F:bE} {cf:Nat->List D->Option (List D)} {n:Nat} {σ:Nat->Option aP} {ρ:List D} {a:Act} {w:World} {G:Gh}
theorem R.world {w':World}(h:R n F σ ρ a w G)(hh:w'.heap=w.heap)(ho:w'.os=w.os)(ht:w'.tape=w.tape)(hp:w'.output=w.output):R n F σ ρ a w' G:=by
 have fj:Fr σ G w (upds σ []) G w':=by
  refine⟨fun b hb _=>⟨hb,by rw[hh]⟩,fun r k _ h=>h,fun r k h=>h,fun r k b p _ _ h=>⟨.inl h,by rw[hh]⟩,fun r k m _ h=>⟨h,fun b p h=>h⟩,fun _ _=>rfl,fun _ _=>rfl,fun k h=>h,fun _ _ _ _ _ _ _ h=>h⟩
 exact h.upd [] fj h.tmps h.defers ⟨ho.trans h.frame.os,ht.trans h.frame.tape,hp.trans h.frame.output,by rw[hh];exact h.frame.size,
  fun b hb hf=>by rw[hh];exact h.frame.keep b hb hf,fun b j hb hj=>by rw[hh];exact h.frame.boxes b j hb hj,fun b hb=>h.frame.fresh b (by rw[<- hh];exact hb)⟩
  (fun t _=>rfl) (fun b ro ls _ _=>⟨rfl,by rw[hh]⟩) (fun b ls hb=>by simp at hb) (fun k c hk=>by simp at hk)
theorem La1 (hti:tQ P E.ti)(dm:yO P E F cf)(hm:P.follows .mixedOrders=true){k8:Nat}{ops:Array Oper}{draw:Bool}{s:St}{o:Out St}
  (h:Ec cf (Jal E false k8 ops.toList draw s) ρ=some o) (hl:ρ.length=s.nv) (hi:Bag E s) :
  (o.kind=.fall/\o.env.length=o.ext.nv/\Bag E o.ext/\∃ ds,o.env=ρ++ds) /\
  ∀ a w G Q,R E.ntmps F s.get ρ a w G->(∀ a' w' G',R E.ntmps F o.ext.get o.env a' w' G'->Q .normal a' w')->(Code.region k8 ops draw).wp P Q a w:=by
 unfold Jal at h;split at h
 case h_2=>simp only[cond_false,iN]at h;cases h
 rename_i is s' a4y;obtain⟨js,hjs,hc⟩:=Eax a4y;simp only[List.reverse_nil,Tba]at hjs;subst hjs;have py:=Xa7 hc
 cases hb:(!draw||(Aa0 ops.toList 0&&uI is (waits ops.toList []) 0)) with
 |false=>rw[hb]at h;simp only[cond_false,iN]at h;cases h
 | true =>
  rw[hb,cond_true]at h;obtain⟨h1,h2,h3,⟨ds,h4⟩,h5⟩:=Sar hc vT.1 hl h;have tE:=h5 [];rw[Sbu]at tE;refine⟨⟨h1,by rw[h2,vT.1];exact h3,by rw[h2];exact (Xa6 hc hi).trim,ds,h4⟩,fun a w G Q hR hQ=>?_⟩;rw[h2,Lak]at hQ;have jg:R E.ntmps F s.get o.env a w G:=by rw[h4];exact hR.ext hi.sc (by omega) ds
  cases draw with
  | false =>
   refine wp_region ?_;rw[List.range_eq_range'];have:=Xa5 hti dm (ops:=ops) py hc (by simp) jg hi tE hQ;simpa using this
  | true =>
   simp only[Sb3,Tby,Rbu]at hb;obtain⟨hlen,ux,jn⟩:=Bb2 (ρ:=o.env) (cf:=cf) hc hi tE;have a0n:is.length=ops.size:=by rw[hlen];simp
   have hd:Dbb E ops cf o.env s is:=by
    refine⟨a0n,jn,fun p q x y hpq hp hq=>?_,fun p o' hp e he hbe=>?_,py⟩
    ·obtain⟨w',h6,h7⟩:=zV hb.2 hpq hp hq
     rw[Sbo]at h7;exact h7.imp (fun h7=>⟨w',h6,h7⟩) id
    ·have:=Dai hb.1 hp e he hbe
     omega
   refine wp_region_any hm ?_;refine Bbr hti dm hd (fun a' w' G' so=>hQ a' w' G' (by rw[ux];exact so)) ops.size _ a _ G (by simp) ?_ ?_ ?_
   ·simp only[Array.toList_replicate,List.count_replicate_self,Sbg]
   ·intro q w' p hq
    unfold dn at hq;rw[Sb6,Array.getElem?_replicate]at hq;split at hq<;>simp at hq
   ·rw[Qa5 fun q _=>by
     unfold dn;rw[Sb6,Array.getElem?_replicate];split<;>rfl]
    exact jg.world rfl rfl rfl rfl
end
theorem Aaj {s:St}{k:Nat}{c:aP}(h:s.get k=some c):tL s.nt s.nb s.nr k=true:=by
 unfold St.get at h
 cases e:tL s.nt s.nb s.nr k with
 |true=>rfl
 |false=>rw[e]at h;cases h
theorem Ma6 {nt nb nr r:Nat}(h:r<nr):tL nt nb nr (kR r)=true:=by
 unfold tL;rw[Ma7];have:kR r / 3=r:=by unfold kR;omega
 rw[this];simpa using h
theorem wD {s:St}{u:List (Nat×aP)}(h:∀ k c,(k,c)∈u->tL s.nt s.nb s.nr k=true):(s.puts u).get=upds s.get u:=by
 funext k;obtain⟨e1,e2,e3,e4⟩:=iC u s;unfold St.get;rw[e2,e3,e4,Ja3];by_cases hm:∃ c,(k,c)∈u
 ·obtain⟨c,hc⟩:=hm
  rw[h k c hc,cond_true];exact Da0 _ _ _ _ ⟨c,hc⟩
 ·have hn:∀ c,(k,c)∉u:=fun c hc=>hm ⟨c,hc⟩
  rw[eB _ _ _ hn,eB _ _ _ hn]
def Iat (σ:Nat->Option aP)(k j:Nat):Option aO :=
 match σ k with
 |some (.slot none (.one a))=>if j=0 then some a else none
 |some (.slot none (.agg ls))=>ls[j]?
 |some (.box _ ls)=>ls[j]?
 |_=>none
theorem Waf {k j:Nat}{s:St}:uQ k j s=(Iat s.get k j).getD .dead:=by
 unfold uQ Iat;split
 ·rename_i v hk
  rw[hk]
  cases v with
  |dead=>simp[qQ]
  | one a =>
   simp only[qQ]
   cases j with
   |zero=>rfl
   |succ j=>simp
  |agg ls=>simp[qQ,Rb5]
  |tup ts=>simp[qQ]
 ·rename_i ro ls hk
  rw[hk];simp[Rb5]
 ·rename_i h1 h2
  cases hs:s.get k with
  |none=>rfl
  | some c =>
   cases c with
   | slot g v =>
    cases g with
    |none=>exact absurd hs (h1 v)
    |some g=>rfl
   |box ro ls=>exact absurd hs (h2 ro ls)
   |root=>rfl
theorem iR {k j:Nat}{s:St}{l:aO}(h:uQ k j s=l)(hl:l≠.dead):Iat s.get k j=some l:=by
 rw[Waf]at h
 cases e:Iat s.get k j with
 |none=>rw[e]at h;exact absurd h.symm hl
 |some l'=>rw[e,Tbw]at h;rw[h]
section
variable {E:Env} {F:bE} {n:Nat} {σ:Nat->Option aP} {ρ:List D} {a:Act} {w:World} {G G':Gh}
inductive ValAt (n:Nat) (gh:Nat->Value) (a:Act) (w:World) (bx:Nat->Addr):aP->Nat->Nat->Value->Prop
 |one (t:Nat) (l:aO):ValAt n gh a w bx (.slot none (.one l)) (kT t) 0 (yP n a gh t)
 |agg (t:Nat) (ls:List aO) (vs:List Value) (j:Nat) (v:Value) (h:yP n a gh t=.agg vs.toArray) (hv:vs[j]?=some v):ValAt n gh a w bx (.slot none (.agg ls)) (kT t) j v
 |box (b j:Nat) (ro:Bool) (ls:List aO) (v:Value) (h:w.cell? ((bx b).add j)=some v):ValAt n gh a w bx (.box ro ls) (kB b) j v
theorem R.valAt (h:R n F σ ρ a w G){k j:Nat}{l:aO}(hl:Iat σ k j=some l):∃ v c,σ k=some c/\ValAt n F.gh a w G.bx c k j v/\aB σ ρ G w l v:=by
 unfold Iat at hl;split at hl
 ·rename_i l' hk
  obtain⟨t,rfl,h1⟩:=h.cont _ _ hk;split at hl
  ·rename_i hj
   subst hj;obtain rfl:=Sbs hl;exact⟨_,_,hk,.one t l',h1 rfl⟩
  ·cases hl
 ·rename_i ls hk
  obtain⟨t,rfl,h1⟩:=h.cont _ _ hk;obtain⟨vs,h2,h3⟩:bV σ ρ G w (.agg ls) _:=h1 rfl;obtain⟨v,h4,h5⟩:=h3.get hl;exact⟨v,_,hk,.agg t ls vs j v h2 h4,h5⟩
 ·rename_i ro ls hk
  obtain⟨b,rfl,h1,h2,h3⟩:=h.cont _ _ hk;obtain⟨v,h4,h5,h6⟩:=h3 j l hl;exact⟨v,_,hk,.box b j ro ls v h4,h6⟩
 ·cases hl
theorem Fr.nonroot (σ:Nat->Option aP)(G:Gh)(w:World)(u:List (Nat×aP))(hu:∀ k c,(k,c)∈u->∀ r,k≠kR r):Fr σ G w (upds σ u) G w:=by
 have hr:∀ r,upds σ u (kR r)=σ (kR r):=fun r=>eB _ _ _ fun c hc=>hu _ _ hc r rfl
 refine⟨fun b h _=>⟨h,rfl⟩,fun r k _ h=>?_,fun r k h=>?_,fun r k b p _ _ h=>⟨.inl h,rfl⟩,fun r k m _ h=>⟨?_,fun b p h=>h⟩,fun _ _=>rfl,fun _ _=>rfl,fun k h=>dP _ _ _ (.inl h),fun _ _ _ _ _ _ _ h=>h⟩
 ·obtain⟨x,m,st,e,h⟩:=h
  exact⟨x,m,st,by rw[<- hr];exact e,h⟩
 ·obtain⟨x,m,b9,st,e,h⟩:=h
  exact⟨x,m,b9,st,by rw[hr];exact e,h⟩
 ·obtain⟨x,e⟩:=h
  exact⟨x,by rw[<- hr];exact e⟩
theorem Das {α:Type}{x y:List α}(h:x.toArray=y.toArray):x=y:=by
 have:=congrArg Array.toList h;simpa using this
structure Cbb (s s':St):Prop where
 nr:s'.nr=s.nr
 nt:s'.nt=s.nt
 root:∀ r,s'.get (kR r)=s.get (kR r)
theorem R.putAt {s:St}(h:R n F s.get ρ a w G){k j:Nat}{l:aO}{c0:aP}(hk:s.get k=some c0){v:Value}(hv:ValAt n F.gh a w G.bx c0 k j v)(hl:aB s.get ρ G w l v) :
  R n F (Go.Proofs.YtgpamlpecmldfaaGreat.Rf.putAt k j l s).get ρ a w G/\Cbb s (Go.Proofs.YtgpamlpecmldfaaGreat.Rf.putAt k j l s)/\(Go.Proofs.YtgpamlpecmldfaaGreat.Rf.putAt k j l s).nv=s.nv:=by
 have mo:∀ c,Pba j l c0=some c->(∀ r,k≠kR r)->(∃ t,(k=kT t/\∃ sv,c=.slot none sv/\bV (upds s.get [(k,c)]) ρ G w sv (yP n a F.gh t))\/(k=kB t/\∃ ro ls,c=.box ro ls/\Jad (upds s.get [(k,c)]) ρ G w t ro ls))->(∀ b ls,k=kB b->c=.box false ls->∃ j9,c0=.box false j9/\ls.length=j9.length) ->
   R n F (Go.Proofs.YtgpamlpecmldfaaGreat.Rf.putAt k j l s).get ρ a w G/\Cbb s (Go.Proofs.YtgpamlpecmldfaaGreat.Rf.putAt k j l s)/\(Go.Proofs.YtgpamlpecmldfaaGreat.Rf.putAt k j l s).nv=s.nv:=by
  intro c hc mb hcr hbl
  have e:Go.Proofs.YtgpamlpecmldfaaGreat.Rf.putAt k j l s=s.puts [(k,c)]:=by
   unfold Go.Proofs.YtgpamlpecmldfaaGreat.Rf.putAt;rw[hk,Rb1,hc];rfl
  have hg:(s.puts [(k,c)]).get=upds s.get [(k,c)]:=wD fun k' c' hm=>by
   simp only[Rby,Sbj]at hm;rw[hm.1];exact Aaj hk
  obtain⟨e1,e2,e3,e4⟩:=iC [(k,c)] s
  have eW:∀ k' c',(k',c')∈[(k,c)]->k'=k/\c'=c:=by
   intro k' c' hm;simpa using hm
  rw[e];refine⟨?_,⟨e3,e4,fun r=>?_⟩,e1⟩
  ·rw[hg]
   have fj:=Fr.nonroot s.get G w [(k,c)] fun k' c' hm r=>by rw[(eW _ _ hm).1];exact mb r
   refine h.upd _ fj h.tmps h.defers h.frame (fun _ _=>rfl) (fun _ _ _ _ _=>⟨rfl,rfl⟩) (fun b ls hm hb ho=>?_) (fun k' c' hm _=>?_)
   ·obtain⟨e5,e6⟩:=eW _ _ hm
    obtain⟨j9,h1,h2⟩:=hbl b ls e5.symm e6.symm;rw[h1]at hk;rw[h2];exact h.rng b j9 (by rw[e5];exact hk) hb ho
   ·obtain⟨rfl,rfl⟩:=eW _ _ hm
    obtain⟨t,⟨e7,sv,e8,h8⟩|⟨e7,ro,ls,e8,h8⟩⟩:=hcr
    ·subst e8
     exact⟨t,e7,fun _=>h8⟩
    ·subst e8
     exact⟨t,e7,h8⟩
  ·rw[hg]
   exact eB _ _ _ fun c' hm=>mb r (eW _ _ hm).1.symm
 have fj:∀ c,(∀ r,k≠kR r)->Fr s.get G w (upds s.get [(k,c)]) G w:=fun c mb=>Fr.nonroot s.get G w [(k,c)] fun k' c' hm r=>by
  simp only[Rby,Sbj]at hm;rw[hm.1];exact mb r
 cases hv with
 | one t l0 =>
  exact mo (.slot none (.one l)) rfl (fun r=>gW) ⟨t,.inl ⟨rfl,_,rfl,aB.mono (fj _ fun r=>gW) l _ hl⟩⟩ (fun b ls e=>absurd e kK)
 | agg t ls vs _ _ h2 hvj =>
  have h1:=h.slot hk rfl;obtain⟨tP,vg,h3⟩:bV s.get ρ G w (.agg ls) _:=h1;rw[h2]at vg
  injection vg with e
  have e:=Das e;subst e;have hf:=fj (.slot none (.agg (ls.set j l))) fun r=>gW
  refine mo (.slot none (.agg (ls.set j l))) rfl (fun r=>gW) ⟨t,.inl ⟨rfl,_,rfl,vs,h2,?_⟩⟩ (fun b ls e=>absurd e kK);refine aG.of_get (by simp[h3.len]) fun i l' v' hi yx=>?_
  rw[Tb0]at hi;split at hi
  ·rename_i tq
   subst tq;split at hi
   ·obtain rfl:=Sbs hi
    rw[yx]at hvj;obtain rfl:=Sbs hvj;exact aB.mono hf _ _ hl
   ·cases hi
  ·obtain⟨u,hu,hu2⟩:=h3.get hi
   rw[yx]at hu;obtain rfl:=Sbs hu;exact aB.mono hf _ _ hu2
 | box b _ ro ls _ hb =>
  obtain⟨h1,h2,h3⟩:=h.box hk;have hf:=fj (.box ro (ls.set j l)) fun r=>eO
  refine mo (.box ro (ls.set j l)) rfl (fun r=>eO) ⟨b,.inr ⟨rfl,_,_,rfl,h1,h2,fun i l' hi=>?_⟩⟩ (fun b' kt e e'=>?_)
  ·rw[Tb0]at hi
   split at hi
   ·rename_i tq
    subst tq;split at hi
    ·rename_i aw
     obtain rfl:=Sbs hi;obtain⟨v0,h4,h5,h6⟩:=h3 _ _ (Rbz aw);rw[h4]at hb;obtain rfl:=Sbs hb;exact⟨v0,h4,h5,aB.mono hf _ _ hl⟩
    ·cases hi
   ·obtain⟨u,h4,h5,h6⟩:=h3 i l' hi
    exact⟨u,h4,h5,aB.mono hf _ _ h6⟩
  ·injection e' with e1 e2
   subst e1 e2;exact⟨ls,rfl,by simp⟩
end
section
variable {E:Env} {F:bE} {σ:Nat->Option aP} {ρ:List D} {a:Act} {w:World} {G G':Gh}
def Pbc:Oper:={ (default:Oper) with dst:=none }
theorem R.roots (h:R E.ntmps F σ ρ a w G){ur:List (Nat×aP)}{f:Nat->List Nat->Ow}
  (hu:∀ k c,(k,c)∈ur->∃ r,k=kR r) (bz:∀ b,G'.own b=lJ f (G.own b))
  (yo:∀ b r p,G.own b=.slc r p->(∀ c,(kR r,c)∉ur)->f r p=.slc r p)
  (xq:∀ r c,(kR r,c)∈ur->upds σ ur (kR r)=some c->Chg σ G w G' w r c)
  (oT:∀ r x m k,σ (kR r)=some (.root x m k .frozen)->∀ s p q,f s p=.slc r q->s=r/\p=q)
  (td:∀ r,(σ (kR r)).isSome->G'.hdr r=G.hdr r) (gw:G'.bx=G.bx)
  (fx:∀ r c,(kR r,c)∈ur->upds σ ur (kR r)=some c->∃ x m b9 st,c=.root x m b9 st/\bP (upds σ ur) ρ G' w r x m st):R E.ntmps F (upds σ ur) ρ a w G':=by
 have h0:dM Pbc none .dead=[]:=rfl
 have:=h.own (o:=Pbc) (g:=none) (sv:=.dead) (v:=undef) (ur:=ur) (f:=f) (wr:=fun _=>False) (G':=G') (w':=w) (fun d hd=>by cases hd) hu (fun b _=>bz b)
  (fun b hb=>by rw[bz,h.frame.fresh b hb];rfl) ⟨rfl,rfl,rfl,Sbg _⟩ (fun b hb=>.inl (by rw[bz,h.frame.fresh b hb];rfl)) (fun _ _ _=>rfl) (fun b hb=>hb.elim) yo
  (by rw[h0,Tba];exact xq) oT td gw (fun _ _=>trivial) (by rw[h0,Tba];exact fun _=>fx)
 rw[h0,Tba]at this;exact this
def mvF (r rN m:Nat)(s:Nat)(p:List Nat):Ow:=if s=r then (if p.length<m then .slc rN p else .frz) else .slc s p
theorem R.moveRoot (h:R E.ntmps F σ ρ a w G){r rN m m' v:Nat}{x x0:aJ}(hr:σ (kR r)=some (.root x0 m' v .live))(hN:σ (kR rN)=none)(hm:m<=m'){u:Value}
  (fX:Rp G.own w r [] m' u (x.val ρ)) {st:RSt} (cj:st=.gone\/(st=.fwd rN/\u=G.hdr r)) :
  ∃ G',R E.ntmps F (upds σ [(kR r,.root (.c .hole) 0 0 st),(kR rN,.root x m 0 .live)]) ρ a w G'/\G'.hdr rN=u/\G'.bx=G.bx:=by
 have dk:r≠rN:=fun e=>by rw[e,hN]at hr;cases hr
 let G':Gh:={ own:=fun b=>lJ (mvF r rN m) (G.own b),hdr:=fun s=>if s=rN then u else G.hdr s,bx:=G.bx }
 have e1:upds σ [(kR r,aP.root (.c .hole) 0 0 st),(kR rN,.root x m 0 .live)] (kR r)=some (.root (.c .hole) 0 0 st):=by
  simp only[upds,Qa7];rw[if_neg fun e=>dk (eF e)];simp
 have e2:upds σ [(kR r,aP.root (.c .hole) 0 0 st),(kR rN,.root x m 0 .live)] (kR rN)=some (.root x m 0 .live):=by
  simp[upds,Qa7]
 have eW:∀ s c,(kR s,c)∈[(kR r,aP.root (.c .hole) 0 0 st),(kR rN,.root x m 0 .live)]->s=r\/s=rN:=by
  intro s c hc;simp only[Rb4,Sbj,Tbr,or_false]at hc;exact hc.imp (fun e=>eF e.1) (fun e=>eF e.1)
 refine⟨G',h.roots (f:=mvF r rN m) ?_ (fun b=>rfl) ?_ ?_ ?_ ?_ rfl ?_,by simp[G'],rfl⟩
 ·intro k c hc
  simp only[Rb4,Sbj,Tbr,or_false]at hc
  rcases hc with ⟨e,-⟩|⟨e,-⟩<;>exact⟨_,e⟩
 ·intro b s p hb hn
  unfold mvF;rw[if_neg fun e=>hn _ (by rw[e];exact Sbe)]
 ·intro s c hc ig
  rcases eW s c hc with rfl|rfl
  ·rw[e1]at ig
   obtain rfl:=Sbs ig;refine .inr (.inr (.inl ⟨_,_,_,_,rfl,?_,?_⟩))<;>rcases cj with e|⟨e,-⟩<;>rw[e]<;>simp
  ·rw[e2]at ig
   obtain rfl:=Sbs ig;exact .inl ⟨hN,_,_,_,_,rfl⟩
 ·intro r0 x1 m1 k1 hk s p q hf
  unfold mvF at hf;split at hf
  ·split at hf
   ·injection hf with f1 f2
    rw[<- f1,hN]at hk;cases hk
   ·cases hf
  ·injection hf with f1 f2
   exact⟨f1,f2⟩
 ·intro s hs
  show (if s=rN then u else G.hdr s)=_
  rw[if_neg];intro e;rw[e,hN]at hs;cases hs
 ·intro s c hc ig
  rcases eW s c hc with rfl|rfl
  ·rw[e1]at ig
   obtain rfl:=Sbs ig;refine⟨_,_,_,_,rfl,?_⟩
   rcases cj with e|⟨e,hu⟩
   ·subst e;trivial
   ·subst e
    refine⟨?_,by rw[e2];rfl⟩;show (if s=rN then u else G.hdr s)=(if rN=rN then u else G.hdr rN)
    rw[if_neg dk,if_pos rfl,hu]
  ·rw[e2]at ig
   obtain rfl:=Sbs ig;refine⟨_,_,_,_,rfl,?_⟩;show Rp G'.own w s [] m (if s=s then u else G.hdr s) (x.val ρ)
   rw[if_pos rfl]
   have hw:=fX.weaken (own':=fun b=>lJ (fun s' p=>if s'=r then (if p.length<m then .slc r p else .frz) else .slc s' p) (G.own b)) (fun b hb=>by rw[hb];rfl) m hm (fun b t hb=>by
    rw[hb];simp only[lJ,if_pos rfl,Tba]
    rfl)
   have:=hw.mono (own':=G'.own) (w':=w) (q:=[]) (q':=[]) (r':=s) (fun b hb=>⟨?_,rfl⟩) [] rfl (fun b t hb=>⟨?_,rfl⟩)
   ·simpa using this
   ·show lJ _ (G.own b)=_
    cases e:G.own b with
    | slc s' p =>
     rw[e]at hb;simp only[lJ]at hb ⊢;unfold mvF;split at hb
     ·rename_i km
      rw[if_pos km];split at hb
      ·cases hb
      ·rename_i hl;rw[if_neg hl]
     ·cases hb
    |_=>rw[e]at hb;simpa[lJ] using hb
   ·show lJ _ (G.own b)=_
    cases e:G.own b with
    | slc s' p =>
     rw[e]at hb;simp only[lJ]at hb ⊢;unfold mvF;split at hb
     ·rename_i km
      rw[if_pos km];split at hb
      ·rename_i hl
       rw[if_pos hl]
       injection hb with f1 f2
       rw[f2]
      ·cases hb
     ·rename_i km
      injection hb with f1 f2
      exact absurd f1 km
    |_=>rw[e]at hb;simp[lJ]at hb
theorem R.nilRoot (h:R E.ntmps F σ ρ a w G){rN m z:Nat}(hN:σ (kR rN)=none) :
  ∃ G',R E.ntmps F (upds σ [(kR rN,.root (.c (.rows z [])) m 0 .live)]) ρ a w G'/\G'.hdr rN=.slice none 0 0/\G'.bx=G.bx:=by
 let G':Gh:={ own:=G.own,hdr:=fun s=>if s=rN then .slice none 0 0 else G.hdr s,bx:=G.bx }
 have e2:upds σ [(kR rN,aP.root (.c (.rows z [])) m 0 .live)] (kR rN)=some (.root (.c (.rows z [])) m 0 .live):=by
  simp[upds,Qa7]
 have eW:∀ s c,(kR s,c)∈[(kR rN,aP.root (.c (.rows z [])) m 0 .live)]->s=rN:=by
  intro s c hc;simp only[Rb4,Sbj,Tbr,or_false]at hc;exact eF hc.1
 refine⟨G',h.roots (f:=fun s p=>.slc s p) ?_ (fun b=>?_) (fun _ _ _ _ _=>rfl) ?_ (fun _ _ _ _ _ s p q hf=>?_) ?_ rfl ?_,by simp[G'],rfl⟩
 ·intro k c hc
  simp only[Rb4,Sbj,Tbr,or_false]at hc;exact⟨_,hc.1⟩
 ·show G.own b=_
  cases G.own b<;>rfl
 ·intro s c hc ig
  obtain rfl:=eW s c hc;rw[e2]at ig;obtain rfl:=Sbs ig;exact .inl ⟨hN,_,_,_,_,rfl⟩
 ·injection hf with f1 f2
  exact⟨f1,f2⟩
 ·intro s hs
  show (if s=rN then _ else G.hdr s)=_
  rw[if_neg];intro e;rw[e,hN]at hs;cases hs
 ·intro s c hc ig
  obtain rfl:=eW s c hc;rw[e2]at ig;obtain rfl:=Sbs ig;refine⟨_,_,_,_,rfl,?_⟩;show Rp G.own w s [] m (if s=s then _ else G.hdr s) (.rows z [])
  rw[if_pos rfl]
  cases m with
  |zero=>exact .fz (.rows none ⟨0,0,none⟩ 0 0 z [] (fun _ _=>undef) rfl (Sbg _) (.inl rfl) (by simp) (by simp) (by simp))
  |succ m=>exact .sl none ⟨0,0,none⟩ 0 0 z [] (fun _ _=>undef) rfl (Sbg _) (.inr ⟨rfl,rfl⟩) (by simp) (fun e=>by cases e) (by simp) (by simp)
def fzF (rs:List Nat)(s:Nat)(p:List Nat):Ow:=if s∈rs then .frz else .slc s p
theorem R.freeze (h:R E.ntmps F σ ρ a w G){rs:List Nat}{fr:List (Nat×aP)}(fj:(dK rs).eval σ=some fr) :
  ∃ G',R E.ntmps F (upds σ fr) ρ a w G'/\(∀ b,G'.own b=lJ (fzF rs) (G.own b))/\G'.hdr=G.hdr/\G'.bx=G.bx:=by
 obtain⟨h1,h2⟩:=fQ fj
 let G':Gh:={ own:=fun b=>lJ (fzF rs) (G.own b),hdr:=G.hdr,bx:=G.bx }
 have a3m:∀ b r p,G.own b=.slc r p->r∈rs->∃ c,(kR r,c)∈fr:=by
  intro b r p hb hr
  rcases h1 r hr with ⟨x,m,b9,-,h4⟩|⟨x,m,b9,h4⟩
  ·exact⟨_,h4⟩
  ·exact absurd hb ((h.root h4).2 b p)
 have eM:∀ r c,(kR r,c)∈fr->∃ x m b9,c=.root x m b9 .frozen/\σ (kR r)=some (.root x m b9 .live)/\r∈rs:=by
  intro r c hc;obtain⟨s,hs,x,m,b9,e,e',h3⟩:=h2 _ _ hc;obtain rfl:=eF e;exact⟨x,m,b9,e',h3,hs⟩
 have yk:∀ r x m b9,σ (kR r)=some (.root x m b9 .live)->r∈rs->Rd (fun b=>G'.own b=.frz) w (G.hdr r) (x.val ρ):=by
  intro r x m b9 hk hr;have h3:=h.root hk;simp only[bP]at h3;refine h3.rd.mono fun b hb=>⟨?_,rfl⟩
  show lJ _ _=_
  rcases hb with hb|⟨q,hb⟩
  ·rw[hb];rfl
  ·rw[hb];simp only[lJ,fzF];rw[if_pos hr]
 refine⟨G',h.roots (f:=fzF rs) ?_ (fun b=>rfl) ?_ ?_ ?_ (fun _ _=>rfl) rfl ?_,fun b=>rfl,rfl,rfl⟩
 ·intro k c hc
  obtain⟨s,-,x,m,b9,e,-⟩:=h2 _ _ hc;exact⟨s,e⟩
 ·intro b r p hb hn
  unfold fzF;rw[if_neg];intro hr;obtain⟨c,hc⟩:=a3m b r p hb hr;exact hn c hc
 ·intro r c hc _
  obtain⟨x,m,b9,rfl,h3,h4⟩:=eM r c hc;refine .inr (.inr (.inr ⟨x,m,b9,h3,rfl,fun b p hb=>⟨?_,rfl⟩⟩));show lJ _ _=_
  rw[hb];simp only[lJ,fzF];rw[if_pos h4]
 ·intro r x m k hk s p q hf
  unfold fzF at hf;split at hf
  ·cases hf
  ·injection hf with f1 f2
   exact⟨f1,f2⟩
 ·intro r c hc _
  obtain⟨x,m,b9,rfl,h3,h4⟩:=eM r c hc;refine⟨_,_,_,_,rfl,yk r x m b9 h3 h4,fun b p hb=>?_⟩;have hb:lJ (fzF rs) (G.own b)=.slc r p:=hb
  cases e:G.own b with
  | slc s q =>
   rw[e]at hb;simp only[lJ,fzF]at hb;split at hb
   ·cases hb
   ·rename_i hs
    injection hb with f1 f2
    rw[f1]at hs;exact hs h4
  |_=>rw[e]at hb;simp[lJ]at hb
theorem vM {rs:List Nat}{deps:List (Nat×Nat)}(bz:∀ b,G'.own b=lJ (fzF rs) (G.own b))(hd:∀ z∈deps,z.1∈rs){b:Nat}(hb:allow G deps b):allow G' [] b:=by
 refine .inl ?_;rw[bz]
 rcases hb with hb|⟨r,k,p,hm,hb⟩
 ·rw[hb];rfl
 ·rw[hb]
  simp only[lJ,fzF];rw[if_pos (hd _ hm)]
theorem Fa1 {s:St}{rs:List Nat}{fr:List (Nat×aP)}(fj:(dK rs).eval s.get=some fr):∀ k c,(k,c)∈fr->tL s.nt s.nb s.nr k=true:=by
 intro k c hc;obtain⟨r,-,x,m,b9,rfl,-,h3⟩:=(fQ fj).2 k c hc;exact Aaj h3
end
structure RI (nr len i:Nat) (s:St):Prop where
 nr_:s.nr=nr+len
 free:∀ j,i<=j->j<len->s.get (kR (nr+j))=none
section
variable {E:Env} {F:bE} {ρ:List D} {a:Act} {w:World} {G:Gh} {cf:Nat->List D->Option (List D)} {nr len i:Nat} {s s':St}
theorem RI.succ (h:RI nr len i s):RI nr len (i+1) s:=⟨h.nr_,fun j h1 h2=>h.free j (by omega) h2⟩
theorem RI.keeps (h:RI nr len i s)(hk:Cbb s s'):RI nr len i s':=⟨hk.nr.trans h.nr_,fun j h1 h2=>by rw[hk.root];exact h.free j h1 h2⟩
theorem RI.puts (h:RI nr len i s){u:List (Nat×aP)}{i':Nat}(hi:i<=i')(hg:(s.puts u).get=upds s.get u)(hu:∀ j,i'<=j->j<len->∀ c,(kR (nr+j),c)∉u):RI nr len i' (s.puts u) :=
 ⟨(iC u s).2.2.1.trans h.nr_,fun j h1 h2=>by rw[hg,eB _ _ _ (hu j h1 h2)];exact h.free j (by omega) h2⟩
theorem zR {u:List (Nat×aP)}{G':Gh}(hg:(s.puts u).get=upds s.get u)(jg:R E.ntmps F (upds s.get u) ρ a w G')(gw:G'.bx=G.bx){k j:Nat}{c0:aP}(hk:s.get k=some c0)
  {v:Value} (hv:ValAt E.ntmps F.gh a w G.bx c0 k j v) (hu:∀ c,(k,c)∉u) {l:aO} (hl:aB (upds s.get u) ρ G' w l v) :
  R E.ntmps F (putAt k j l (s.puts u)).get ρ a w G'/\Cbb (s.puts u) (putAt k j l (s.puts u))/\(putAt k j l (s.puts u)).nv=s.nv:=by
 rw[<- hg]at jg hl;have kk:(s.puts u).get k=some c0:=by rw[hg,eB _ _ _ hu];exact hk
 obtain⟨h1,h2,h3⟩:=jg.putAt kk (by rw[gw];exact hv) hl;exact⟨h1,h2,h3.trans (iC u s).1⟩
theorem vS {n:Nat}{gh:Nat->Value}{bx:Nat->Addr}{c0:aP}{k j:Nat}{v:Value}(h:ValAt n gh a w bx c0 k j v):∀ r,k≠kR r:=by
 intro r
 cases h with
 |one=>exact gW
 |agg=>exact gW
 |box=>exact eO
theorem uD (hR:R E.ntmps F s.get ρ a w G)(hI:RI nr len i s){rs:List Nat}{fr:List (Nat×aP)}(fj:(dK rs).eval s.get=some fr){k j:Nat}{c0:aP}(hk:s.get k=some c0)
  {v:Value} (hv:ValAt E.ntmps F.gh a w G.bx c0 k j v) {l:aO} (hl:∀ G' eE,(∀ b,G'.own b=lJ (fzF rs) (G.own b))->aB eE ρ G' w l v) :
  (∃ G',R E.ntmps F (putAt k j l (s.puts fr)).get ρ a w G')/\RI nr len (i+1) (putAt k j l (s.puts fr))/\(putAt k j l (s.puts fr)).nt=s.nt/\(putAt k j l (s.puts fr)).nv=s.nv:=by
 obtain⟨G',jg,h1,h2,h3⟩:=hR.freeze fj;have hg:(s.puts fr).get=upds s.get fr:=wD (Fa1 fj);have hfk:=(fQ fj).2
 obtain⟨h4,h5,h6⟩:=zR hg jg h3 hk hv (fun c hc=>by
  obtain⟨r,-,x,m,b9,e,-⟩:=hfk _ _ hc;exact vS hv r e) (hl G' _ h1)
 refine⟨⟨G',h4⟩,RI.keeps (hI.succ.puts (Sbg _) hg fun q qS qb c hc=>?_) h5,h5.nt.trans (iC fr s).2.2.2,h6⟩;obtain⟨r,-,x,m,b9,e,-,h7⟩:=hfk _ _ hc;rw[<- e,hI.free q (by omega) qb]at h7;cases h7
theorem Mae {p:Pos}{ls:List Step}{x:aJ}(h:Jaz E p nr i s=some (ls,s',x))(hI:RI nr len i s)(hi:i<len)(hR:R E.ntmps F s.get ρ a w G)(cj:aK cf ρ none s.nv ls) :
  (∃ G',R E.ntmps F s'.get ρ a w G')/\RI nr len (i+1) s'/\s'.nt=s.nt/\s'.nv=s.nv+bF ls:=by
 have s8:=hI.free i (Sbg _) hi;have hkN:tL s.nt s.nb s.nr (kR (nr+i))=true:=Ma6 (by rw[hI.nr_];omega);unfold Jaz at h;dsimp only at h;split at h
 ·
  simp only[Rbv,Sbj]at h;obtain⟨rfl,rfl,rfl⟩:=h;exact⟨⟨G,hR⟩,hI.succ,rfl,rfl⟩
 ·
  rename_i al r hf hl;split at h
  ·rename_i x0 m0 v0 r' hk
   cases hb:Nat.beq r' (nr+al) with
   |false=>rw[hb]at h;simp[jH]at h
   | true =>
    rw[hb,cond_true]at h;simp only[Rbv,Sbj]at h;obtain⟨rfl,rfl,rfl⟩:=h;simp only[Sbq]at hb;obtain⟨v,c,pS,oi,je⟩:=hR.valAt (iR hl (by simp));simp only[aB]at je;have qx:=hR.root hk;simp only[bP]at qx
    obtain⟨h1,h2,h3⟩:=hR.putAt pS oi (l:=.ex (nr+al)) (by
     simp only[aB];rw[<- hb];exact⟨je.1.trans qx.1,qx.2,je.2.2⟩)
    exact⟨⟨G,h1⟩,(hI.keeps h2).succ,h2.nt,h3⟩
  ·simp[jH]at h
 ·
  simp only[Rbv,Sbj]at h;obtain⟨rfl,rfl,rfl⟩:=h;exact⟨⟨G,hR⟩,hI.succ,rfl,rfl⟩
 ·
  rename_i m r hf hl;split at h
  ·rename_i x0 m' v0 hk
   cases hb:Nat.ble m m' with
   |false=>rw[hb]at h;simp[jH]at h
   | true =>
    rw[hb,cond_true]at h;simp only[Rbv,Sbj]at h;obtain⟨rfl,rfl,rfl⟩:=h;simp only[Tbc]at hb;obtain⟨v,c,pS,oi,je⟩:=hR.valAt (iR hl (by simp));simp only[aB]at je;have qx:=hR.root hk;simp only[bP]at qx;obtain⟨G',jg,h1,h2⟩:=hR.moveRoot hk s8 hb qx (.inr ⟨rfl,rfl⟩)
    have hg:=wD (s:=s) (u:=[(kR r,.root (.c .hole) 0 0 (.fwd (nr+i))),(kR (nr+i),.root x0 m 0 .live)]) (fun k c hc=>by
     simp only[Rb4,Sbj,Tbr,or_false]at hc
     rcases hc with ⟨e,-⟩|⟨e,-⟩<;>rw[e]
     ·exact Aaj hk
     ·exact hkN)
    obtain⟨h3,h4,h5⟩:=zR (j:=p.j) hg jg h2 pS oi (fun c hc=>by
     simp only[Rb4,Sbj,Tbr,or_false]at hc
     rcases hc with ⟨e,-⟩|⟨e,-⟩<;>exact vS oi _ e) (l:=.ex (nr+i)) (by
     simp only[aB];exact⟨by rw[h1];exact je.1,dP _ _ _ (.inr ⟨.root x0 m 0 .live,by simp⟩),je.2.2⟩)
    refine⟨⟨G',h3⟩,RI.keeps (hI.puts (Ubw i) hg fun q qS qb c hc=>?_) h4,h4.nt.trans (iC _ s).2.2.2,h5⟩;simp only[Rb4,Sbj,Tbr,or_false]at hc
    rcases hc with ⟨e,-⟩|⟨e,-⟩
    ·rw[<- e,hI.free q (by omega) qb]at hk;cases hk
    ·have:=eF e;omega
  ·simp[jH]at h
 ·
  rename_i m nie z hf hl;simp only[Rbv,Sbj]at h;obtain⟨rfl,rfl,rfl⟩:=h;obtain⟨v,c,pS,oi,je⟩:=hR.valAt (iR hl (by simp));simp only[aB]at je;have zk:v=.slice none 0 0:=(je.2 (by simp)).2.1 trivial z rfl;obtain⟨G',jg,h1,h2⟩:=hR.nilRoot (m:=m) (z:=z) s8
  have hg:=wD (s:=s) (u:=[(kR (nr+i),.root (.c (.rows z [])) m 0 .live)]) (fun k c hc=>by
   simp only[Rb4,Sbj,Tbr,or_false]at hc;rw[hc.1];exact hkN)
  obtain⟨h3,h4,h5⟩:=zR (j:=p.j) hg jg h2 pS oi (fun c hc=>by
   simp only[Rb4,Sbj,Tbr,or_false]at hc
   exact vS oi _ hc.1) (l:=.ex (nr+i)) (by
   simp only[aB];exact⟨by rw[h1];exact zk,dP _ _ _ (.inr ⟨.root (.c (.rows z [])) m 0 .live,by simp⟩),je.1.1⟩)
  refine⟨⟨G',h3⟩,RI.keeps (hI.puts (Ubw i) hg fun q qS qb c hc=>?_) h4,h4.nt.trans (iC _ s).2.2.2,h5⟩;simp only[Rb4,Sbj,Tbr,or_false]at hc;have:=eF hc.1;omega
 ·
  rename_i m r k nie x0 hf hl;split at h
  ·rename_i x1 m' v0 hk
   cases hb:(Nat.ble m m'&&Nat.beq v0 k) with
   |false=>rw[hb]at h;simp[jH]at h
   | true =>
    rw[hb,cond_true]at h;simp only[Rbv,Sbj]at h;obtain⟨rfl,rfl,rfl⟩:=h;simp only[Rbu,Tbc,Sbq]at hb;obtain⟨hb,rfl⟩:=hb;obtain⟨v,c,pS,oi,je⟩:=hR.valAt (iR hl (by simp));simp only[aB]at je
    obtain⟨-,-,h0⟩:=je.2 fun z hz=>by
     simp only[Rby]at hz;subst hz;exact⟨x1,m',.live,hk,.inl rfl⟩
    have fX:=h0 r v0 m' rfl ⟨x1,hk⟩;obtain⟨G',jg,h1,h2⟩:=hR.moveRoot hk s8 hb fX (.inl rfl)
    have hg:=wD (s:=s) (u:=[(kR r,.root (.c .hole) 0 0 .gone),(kR (nr+i),.root x0 m 0 .live)]) (fun k c hc=>by
     simp only[Rb4,Sbj,Tbr,or_false]at hc
     rcases hc with ⟨e,-⟩|⟨e,-⟩<;>rw[e]
     ·exact Aaj hk
     ·exact hkN)
    obtain⟨h3,h4,h5⟩:=zR (j:=p.j) hg jg h2 pS oi (fun c hc=>by
     simp only[Rb4,Sbj,Tbr,or_false]at hc
     rcases hc with ⟨e,-⟩|⟨e,-⟩<;>exact vS oi _ e) (l:=.ex (nr+i)) (by
     simp only[aB];exact⟨h1.symm,dP _ _ _ (.inr ⟨.root x0 m 0 .live,by simp⟩),je.1.1⟩)
    refine⟨⟨G',h3⟩,RI.keeps (hI.puts (Ubw i) hg fun q qS qb c hc=>?_) h4,h4.nt.trans (iC _ s).2.2.2,h5⟩;simp only[Rb4,Sbj,Tbr,or_false]at hc
    rcases hc with ⟨e,-⟩|⟨e,-⟩
    ·rw[<- e,hI.free q (by omega) qb]at hk;cases hk
    ·have:=eF e;omega
  ·simp[jH]at h
 ·
  rename_i hf;split at h
  ·rename_i x0 fr jk
   simp only[Rbv,Sbj]at h;obtain⟨rfl,rfl,rfl⟩:=h;simp only[aA,Rbt,aC,Rbv,Sbj]at jk;obtain⟨sl,h1,fr',h2,rfl,rfl⟩:=jk;obtain⟨v,c,pS,oi,je⟩:=hR.valAt (iR (k:=p.k) (j:=p.j) rfl (by intro e;rw[e]at h1;cases h1));have hs:=dN hR h1 je;have ke:v.oneCell'=true:=je.one (by cases ic:uQ p.k p.j s<;>first|rfl|(rw[ic]at h1;cases h1));refine uD hR hI h2 pS oi fun G' eE bz=>?_
   simp only[aB];exact⟨⟨ke,by simp⟩,fun _=>⟨hs.rd.mono fun b hb=>⟨vM bz (fun z hz=>Tbi hz) hb,rfl⟩,fun e=>absurd e (by decide),trivial⟩⟩
  ·simp[jH]at h
 ·
  rename_i z hf hl;simp only[Rbv,Sbj]at h;obtain⟨rfl,rfl,rfl⟩:=h;obtain⟨v,c,pS,oi,je⟩:=hR.valAt (iR hl (by simp));simp only[aB]at je
  obtain⟨h1,h2,h3⟩:=hR.putAt pS oi (l:=.rp [] z (.c (.rows z []))) (by
   simp only[aB];exact⟨⟨by rw[je];rfl,by simp⟩,fun _=>.inl ⟨je,z,rfl⟩⟩)
  exact⟨⟨G,h1⟩,(hI.keeps h2).succ,h2.nt,h3⟩
 ·
  rename_i z deps z' x0 hf hl;split at h
  ·rename_i fr jk
   simp only[Rbv,Sbj]at h;obtain⟨rfl,rfl,rfl⟩:=h;simp only[aA,Rbt]at jk;obtain⟨ds,h1,h2⟩:=jk;obtain⟨v,c,pS,oi,je⟩:=hR.valAt (iR hl (by simp));simp only[aB]at je;obtain⟨h3,h4,h5⟩:=iH h1;refine uD hR hI h2 pS oi fun G' eE bz=>?_
   simp only[aB];refine⟨⟨je.1.1,by simp⟩,fun _=>?_⟩
   rcases je.2 h3 with h6|⟨ad,row,h6,h7,h8⟩
   ·exact .inl h6
   ·exact .inr ⟨ad,row,h6,h7,(h8.drop hR h5).mono fun b hb=>⟨vM bz (fun z hz=>Tbi hz) hb,rfl⟩⟩
  ·simp[jH]at h
 ·
  rename_i z l z' ix hf hl;split at h
  ·rename_i x0 fr jk
   simp only[Rbv,Sbj]at h;obtain⟨rfl,rfl,rfl⟩:=h;simp only[aA,Rbt,aC,Rbv,Sbj]at jk;obtain⟨sl,h1,fr',h2,rfl,rfl⟩:=jk;obtain⟨v,c,pS,oi,je⟩:=hR.valAt (iR hl (by simp));simp only[aB]at je;obtain⟨ad,n,cp,ik,iv,h3,h4,h5,h6,h7⟩:=je;have hs:=dN hR h1 h3;obtain⟨d,cr,hd⟩:=fI cj rfl;simp only[List.map_cons,List.map_nil,h4]at cr
   have gq:∃ sz rs r,sl.x.val ρ=.rows sz rs/\sz=z'/\rs[iv.toNat]?=some r/\d=.rows z' [r]:=by
    cases hx:sl.x.val ρ with
    | rows sz rs =>
     rw[hx]at cr;simp only[aN.run]at cr;split at cr
     ·rename_i hc
      split at cr
      ·rename_i r hr
       simp only[Rbv,List.cons.injEq,and_true]at cr;exact⟨sz,rs,r,rfl,hc.1,hr,cr.symm⟩
      ·cases cr
     ·cases cr
    |_=>rw[hx]at cr;simp[aN.run]at cr
   obtain⟨sz,rs,r,hx,rfl,hr,rfl⟩:=gq;have jk:=hs.rd;rw[hx]at jk;obtain⟨A',b,n',c',vs,e1,e2,e3,e4,e5,e6,e7⟩:=jk.inv
   injection e1 with e1 e1' e1''
   have aw:iv.toNat<rs.length:=(Rbw.1 hr).1;have hA:some ad=some b:=by rw[e1];exact e4.resolve_left (by omega)
   obtain rfl:=Sbs hA;have pz:r.length=sz:=e5 r (List.mem_of_getElem? hr)
   obtain⟨q1,q2,q3,q4⟩:=uD hR hI h2 pS oi (l:=.rp [] z (.v s.nv)) fun G' eE bz=>by
    simp only[aB];refine⟨⟨by rw[h7];rfl,by simp⟩,fun _=>.inr ⟨_,r,h7,by rw[hd,pz],?_⟩⟩;have re:∀ {b:Nat},allow G sl.deps b->allow G' [] b:=fun hb=>vM bz (fun z hz=>Tbi hz) hb
    refine .rows _ (ad.add (iv.toNat*sz+0)) 1 1 r.length [r] (fun _ j=>vs iv.toNat j) rfl (Sbg _) (.inr rfl) (by simp) (fun i0 r0 kq j d0 hj=>?_) (fun i0 r0 kq j d0 hj=>?_)
    ·cases i0 with
     | zero =>
      simp only[Rb2,Rbv]at kq;subst kq;obtain⟨k1,k2⟩:=e6 _ _ hr j d0 hj;refine⟨by rw[add_block];exact re k1,?_⟩;rw[add_add];rw[show iv.toNat*sz+0+(0*r.length+j)=iv.toNat*sz+j by omega];exact k2
     |succ i0=>simp at kq
    ·cases i0 with
     | zero =>
      simp only[Rb2,Rbv]at kq;subst kq;exact (e7 _ _ hr j d0 hj).mono fun b hb=>⟨re hb,rfl⟩
     |succ i0=>simp at kq
   exact⟨q1,⟨q2.nr_,q2.free⟩,q3,rfl⟩
  ·simp[jH]at h
 ·simp only[Rbv,Sbj]at h
  obtain⟨rfl,rfl,rfl⟩:=h;exact⟨⟨G,hR⟩,hI.succ,rfl,rfl⟩
 ·simp only[Rbv,Sbj]at h
  obtain⟨rfl,rfl,rfl⟩:=h;exact⟨⟨G,hR⟩,hI.succ,rfl,rfl⟩
 ·simp[jH]at h
theorem uE:∀ {ps:List Pos} {i:Nat} {s s':St} {ls:List Step} {xs:List aJ} {G:Gh},jE E nr ps i s=some (ls,s',xs)->RI nr len i s->i+ps.length=len->R E.ntmps F s.get ρ a w G->aK cf ρ none s.nv ls ->
  (∃ G',R E.ntmps F s'.get ρ a w G')/\s'.nt=s.nt/\s'.nr=s.nr/\s'.nv=s.nv+bF ls
 | [], i, s, s', ls, xs, G, h, hI, hl, hR, cj => by
  simp only[jE,Rbv,Sbj]at h;obtain⟨rfl,rfl,rfl⟩:=h;exact⟨⟨G,hR⟩,rfl,rfl,rfl⟩
 | p :: ps, i, s, s', ls, xs, G, h, hI, hl, hR, cj => by
  simp only[jE,bind,Rbt]at h;obtain⟨⟨l1,s1,x1⟩,h1,⟨l2,s2,xs2⟩,h2,h3⟩:=h;simp only[Rbv,Sbj]at h3;obtain⟨rfl,rfl,rfl⟩:=h3;simp only[Sbm]at hl;obtain⟨mn,jo⟩:=aK.append cj;obtain⟨⟨G1,qz⟩,hI1,h4,h5⟩:=Mae h1 hI (by omega) hR mn;rw[<- h5]at jo;obtain⟨h6,h7,h8,h9⟩:=uE h2 hI1 (by omega) qz jo;refine⟨h6,h7.trans h4,h8.trans (hI1.nr_.trans hI.nr_.symm),?_⟩;rw[h9,h5,eH,Nat.add_assoc]
theorem oD:∀ {ps:List Pos} {i:Nat} {s s':St} {ls:List Step} {xs:List aJ},jE E nr ps i s=some (ls,s',xs)->xs.length=ps.length
 | [], i, s, s', ls, xs, h => by
  simp only[jE,Rbv,Sbj]at h;obtain⟨rfl,rfl,rfl⟩:=h;rfl
 | p :: ps, i, s, s', ls, xs, h => by
  simp only[jE,bind,Rbt]at h;obtain⟨⟨l1,s1,x1⟩,h1,⟨l2,s2,xs2⟩,h2,h3⟩:=h;simp only[Rbv,Sbj]at h3;obtain⟨rfl,rfl,rfl⟩:=h3;simp[oD h2]
theorem lF {τ:St}:∀ {rs:List Nat} {s s':St} {G:Gh},gJ τ rs s=some s'->R E.ntmps F s.get ρ a w G->∃ G',R E.ntmps F s'.get ρ a w G'
 | [], s, s', G, h, hR => by
  simp only[gJ,Rbv]at h;subst h;exact⟨G,hR⟩
 | r :: rs, s, s', G, h, hR => by
  simp only[gJ]at h;split at h
  ·rename_i x m v _ hk
   have fj:(dK [r]).eval s.get=some [(kR r,.root x m v .frozen)]:=by
    simp only[dK,aA,aS,Rb1];rw[hk];rfl
   obtain⟨G',jg,-,-,-⟩:=hR.freeze fj;have hg:(s.puts [(kR r,.root x m v .frozen)]).get=upds s.get [(kR r,.root x m v .frozen)]:=wD (Fa1 fj);rw[<- hg]at jg;exact lF h jg
  ·exact lF h hR
theorem Fa0 {s:St}(h:lZ s.tr s.nr len=true):RI s.nr len 0 { s with nr:=s.nr+len }:=by
 refine⟨rfl,fun j _ hj=>?_⟩;unfold St.get;dsimp only;rw[wL h (s.nr+j) (by omega) (by omega)];cases tL s.nt s.nb (s.nr+len) (kR (s.nr+j))<;>rfl
theorem Ra6 {s:St}(h:lZ s.tr s.nr len=true):({ s with nr:=s.nr+len }:St).get=s.get:=by
 funext k;unfold St.get;dsimp only;unfold tL
 cases b0:Nat.beq (k % 3) 0 with
 |true=>rfl
 | false =>
  rw[cond_false,cond_false]
  cases b1:Nat.beq (k % 3) 1 with
  |true=>rfl
  | false =>
   rw[cond_false,cond_false];have n0:k % 3≠0:=fun e=>by rw[e]at b0;cases b0
   have n1:k % 3≠1:=fun e=>by rw[e]at b1;cases b1
   cases hb:Tbh (k / 3) s.nr with
   | true =>
    have:Tbh (k / 3) (s.nr+len)=true:=by simp only[Sb5]at hb ⊢;omega
    rw[this]
   | false =>
    cases eJ:Tbh (k / 3) (s.nr+len) with
    |false=>rfl
    | true =>
     simp only[Sb5]at eJ
     have nj:s.nr<=k / 3:=by
      rcases Sbh (k / 3) s.nr with h1|h1
      ·rw[<- Sb5,hb]at h1;cases h1
      ·exact h1
     have:k=kR (k / 3):=by unfold kR;omega
     rw[cond_true,cond_false,this];exact wL h _ nj eJ
theorem Pa6 {s0:St}{cH:Nat}{br:List Pos}{τ:St}{kind:Kind}{r:Tm St}(h:Gam E s0.nv s0.nr cH br τ kind s=some r)(lB:xP E s0 cH br.length τ){ρ0 e:List D}(hρ:ρ=ρ0++e)(h0:ρ0.length=s0.nv)
  {o:Out St} (ho:Ec cf r ρ=some o) (hl:ρ.length=s.nv) (hi:Bag E s) :
  o.kind=kind/\o.vals.length=br.length/\∀ a w G,R E.ntmps F s.get ρ a w G->∃ G',R E.ntmps F τ.get (ρ0++o.vals) a w G':=by
 unfold Gam at h;simp only[bind,Rbt]at h;obtain⟨⟨ls,s1,xs⟩,h1,s2,h2,h3⟩:=h;dsimp only at h1 h2 h3;generalize hb:(lU E s0.nv xs s0.nr cH s.nr br.length τ s2&&lZ s.tr s.nr br.length&&Nat.ble s0.nr s.nr&&dW s.nv ls&&xs.all (aZ (s.nv+bF ls)))=b at h3
 cases b with
 |false=>simp[jH]at h3
 | true =>
  rw[cond_true]at h3;obtain rfl:=Sbs h3;simp only[Rbu,Tbc]at hb;obtain⟨⟨⟨⟨np,jw⟩,q5⟩,hb4⟩,hb5⟩:=hb;obtain⟨ds,h4,h5,h6⟩:=tY (g:=none) rfl (by rw[hl];exact hb4) ho;rw[fG]at h5;obtain rfl:=Sbs h5;refine⟨rfl,by simp[Out.vals,oD h1],fun a w G hR=>?_⟩;have h6':=h6 [];rw[Sbu,hl]at h6'
  have qz:R E.ntmps F ({ s with nr:=s.nr+br.length }:St).get (ρ++ds) a w G:=by
   rw[Ra6 jw];exact hR.ext hi.sc (by omega) ds
  obtain⟨⟨G1,xo⟩,h7,h8,h9⟩:=uE (cf:=cf) h1 (Fa0 jw) (by simp) qz h6';obtain⟨G2,hR3⟩:=lF h2 xo;subst hρ;rw[Rb3]at hR3;have:=hR3.fit h0 (oD h1) lB np q5;rw[Rb3];exact this
end
theorem pM (b c k:Nat):kD b c (kD b c k)=k:=by
 unfold kD
 cases h1:Nat.beq k b with
 | true =>
  simp only[Sbq]at h1;subst h1;rw[cond_true]
  cases h2:Nat.beq c k with
  |true=>simp only[Sbq]at h2;rw[cond_true];exact h2
  |false=>rw[cond_false,show Nat.beq c c=true by simp,cond_true]
 | false =>
  rw[cond_false]
  cases h2:Nat.beq k c with
  | true =>
   simp only[Sbq]at h2;subst h2;rw[cond_true,show Nat.beq b b=true by simp,cond_true]
  |false=>rw[cond_false,h1,h2,cond_false,cond_false]
theorem Las {b c k K:Nat}(hk:k<K)(hb:K<=b)(hc:K<=c):kD b c k=k:=by
 unfold kD
 have h1:Nat.beq k b=false:=by cases h:Nat.beq k b with
  |false=>rfl
  |true=>simp only[Sbq]at h;omega
 have h2:Nat.beq k c=false:=by cases h:Nat.beq k c with
  |false=>rfl
  |true=>simp only[Sbq]at h;omega
 rw[h1,h2];rfl
theorem Za4 {b c k n:Nat}(hb:b<n)(hc:c<n):kD b c k<n↔k<n:=by
 unfold kD
 cases h1:Nat.beq k b with
 |true=>simp only[Sbq]at h1;rw[cond_true];omega
 | false =>
  rw[cond_false]
  cases h2:Nat.beq k c with
  |true=>simp only[Sbq]at h2;rw[cond_true];omega
  |false=>rw[cond_false]
def swS (b c:Nat)(σ:Nat->Option aP):Nat->Option aP:=fun k=>(σ (kX b c k)).map (mO b c)
def swO (b c:Nat):Ow->Ow
 |.box j=>.box (kD b c j)
 |o=>o
def swG (b c:Nat)(G:Gh):Gh:=⟨fun x=>swO b c (G.own x),G.hdr,fun j=>G.bx (kD b c j)⟩
theorem Aai (b c r:Nat):kX b c (kR r)=kR r:=by
 unfold kX;rw[show Nat.beq (kR r % 3) 1=false by unfold kR;rw[show (3*r+2) % 3=2 by omega];rfl];rfl
theorem Ma5 (b c j:Nat):kX b c (kB j)=kB (kD b c j):=by
 unfold kX;have e1:kB j % 3=1:=by unfold kB;omega
 have e2:kB j / 3=j:=by unfold kB;omega
 rw[e1,e2];rfl
theorem Jaq {b c:Nat}{o:Ow}:swO b c o=.frz↔o=.frz:=by cases o<;>simp[swO]
theorem Jap {b c:Nat}{o:Ow}{r:Nat}{p:List Nat}:swO b c o=.slc r p↔o=.slc r p:=by cases o<;>simp[swO]
theorem Ka1 {b c:Nat}{y:aP}{x:aJ}{m v:Nat}{st:RSt}:mO b c y=.root x m v st↔y=.root x m v st:=by cases y<;>simp[mO]
theorem Jao {b c:Nat}{σ:Nat->Option aP}{r:Nat}{x:aJ}{m v:Nat}{st:RSt}:swS b c σ (kR r)=some (.root x m v st)↔σ (kR r)=some (.root x m v st):=by
 unfold swS;rw[Aai]
 cases σ (kR r) with
 |none=>simp
 |some y=>simp only[Sb9,Rbv];exact Ka1
theorem Da6 {b c:Nat}{σ:Nat->Option aP}{k:Nat}:(swS b c σ k).isSome=(σ (kX b c k)).isSome:=by
 unfold swS;cases σ (kX b c k)<;>rfl
section
variable {b c:Nat} {σ:Nat->Option aP} {ρ:List D} {G:Gh} {w:World}
theorem Qaw {r k:Nat}:kQ (swS b c σ) r k↔kQ σ r k:=by
 unfold kQ;simp only[Jao]
theorem Qax {r k:Nat}:iL (swS b c σ) r k↔iL σ r k:=by
 unfold iL;simp only[Jao]
theorem Oaz {r k m:Nat}:wT (swS b c σ) r k m↔wT σ r k m:=by
 unfold wT;simp only[Jao]
theorem Qay {deps:List (Nat×Nat)}{x:Nat}(h:allow G deps x):allow (swG b c G) deps x:=by
 rcases h with h|⟨r,k,p,hm,h⟩
 ·exact .inl (Jaq.2 h)
 ·exact .inr ⟨r,k,p,hm,Jap.2 h⟩
theorem Dbh {r:Nat}{p:List Nat}{m:Nat}{v:Value}{d:D}(h:Rp G.own w r p m v d):Rp (swG b c G).own w r p m v d:=by
 have:=h.mono (own':=(swG b c G).own) (w':=w) (r':=r) (q:=[]) (q':=[]) (fun x hx=>⟨Jaq.2 hx,rfl⟩) p rfl (fun x t hx=>⟨Jap.2 hx,rfl⟩);simpa using this
theorem Dbi {r:Nat}{q p:List Nat}{v u:Value}(h:wW G.own w r q v p u):wW (swG b c G).own w r q v p u :=
 wW.mono p q q v u (fun x t hx=>⟨Jap.2 hx,rfl⟩) h
theorem Fbz {deps:List (Nat×Nat)}{v:Value}{d:D}{p:Pth}(h:Baf σ ρ G w deps v d p):Baf (swS b c σ) ρ (swG b c G) w deps v d p:=by
 cases p with
 |no=>trivial
 |view=>exact fun r k m e hl=>Dbh (h r k m e (Oaz.1 hl))
 |suf sz lo=>exact fun r k m e hl=>h r k m e (Oaz.1 hl)
 | path p =>
  intro r k m e hl;obtain⟨h1,h2,h3⟩:=h r k m e (Oaz.1 hl);exact⟨h1,Dbh h2,Dbi h3⟩
mutual
theorem Jan:∀ (l:aO) (v:Value),aB σ ρ G w l v->aB (swS b c σ) ρ (swG b c G) w (l.swap b c) v
 |.dead,_,hl=>by simpa[aB,aO.swap] using hl
 |.sc x,v,hl=>by simpa[aB,aO.swap] using hl
 |.su g x,v,hl=>by simpa[aB,aO.swap] using hl
 | .ex r, v, hl => by
  simp only[aB,aO.swap]at hl ⊢;exact⟨hl.1,by rw[Da6,Aai];exact hl.2.1,hl.2.2⟩
 | .sn deps p nie x, v, hl => by
  simp only[aB,aO.swap]at hl ⊢;refine⟨⟨hl.1.1,fun z hz=>Qax.2 (hl.1.2 z hz)⟩,fun hv=>?_⟩;obtain⟨h1,h2,h3⟩:=hl.2 (fun z hz=>Qaw.1 (hv z hz));exact⟨h1.mono fun x hx=>⟨Qay hx,rfl⟩,h2,Fbz h3⟩
 | .px k off, v, hl => by
  simp only[aB,aO.swap]at hl ⊢;refine⟨?_,?_⟩
  ·show v=.pointer (some ((G.bx (kD b c (kD b c k))).add off))
   rw[pM];exact hl.1
  ·rw[Da6,Ma5,pM];exact hl.2
 | .pe l sz i off, v, hl => by
  simp only[aB,aO.swap]at hl ⊢;obtain⟨a,n,c',k,iv,h1,h2⟩:=hl;exact⟨a,n,c',k,iv,Jan l _ h1,h2⟩
 | .rp deps sz x, v, hl => by
  simp only[aB,aO.swap]at hl ⊢;refine⟨⟨hl.1.1,fun z hz=>Qax.2 (hl.1.2 z hz)⟩,fun hv=>?_⟩
  rcases hl.2 (fun z hz=>Qaw.1 (hv z hz)) with h1|⟨a,row,h1,h2,h3⟩
  ·exact .inl h1
  ·exact .inr ⟨a,row,h1,h2,h3.mono fun x hx=>⟨Qay hx,rfl⟩⟩
 |.pn,v,hl=>by simpa[aB,aO.swap] using hl
 | .clo f fW, v, hl => by
  simp only[aB,aO.swap]at hl ⊢;obtain⟨vs,h1,h2⟩:=hl;exact⟨vs,h1,yY fW vs h2⟩
theorem yY:∀ (ls:List aO) (vs:List Value),aG σ ρ G w ls vs->aG (swS b c σ) ρ (swG b c G) w (bS b c ls) vs
 |[],vs,hl=>by simpa[aG,bS] using hl
 | l :: ls, vs, hl => by
  simp only[aG,bS]at hl ⊢;obtain⟨u,us,e,h1,h2⟩:=hl;exact⟨u,us,e,Jan l u h1,yY ls us h2⟩
end
theorem Cbl:∀ (ts:List (Bool×List aO)) (us:List Value),gU σ ρ G w ts us->gU (swS b c σ) ρ (swG b c G) w (ts.map fun t=>(t.1,bS b c t.2)) us
 |[],_,ht=>ht
 | (a, ls) :: r, us, ht => by
  obtain⟨u,ee,vs,e,h1,h2,h3⟩:=ht;exact⟨u,ee,vs,e,yY ls vs h1,h2,Cbl r ee h3⟩
theorem Lbr {v:SV}{u:Value}(hv:bV σ ρ G w v u):bV (swS b c σ) ρ (swG b c G) w (Ua0 b c v) u:=by
 cases v with
 |dead=>trivial
 |one l=>exact Jan l u hv
 |agg ls=>obtain⟨vs,e,h1⟩:=hv;exact⟨vs,e,yY ls vs h1⟩
 |tup ts=>obtain⟨us,e,h1⟩:=hv;exact⟨us,e,Cbl ts us h1⟩
theorem Aaa:∀ (ls:List aO) (j:Nat),(bS b c ls)[j]?=(ls[j]?).map (aO.swap b c)
 |[],j=>by simp[bS]
 |l::ls,0=>by simp[bS]
 |l::ls,j+1=>by simp[bS,Aaa ls j]
theorem xJ:∀ (ls:List aO),(bS b c ls).length=ls.length
 |[]=>rfl
 |l::ls=>by simp[bS,xJ ls]
end
def Cai (F:bE)(K:Nat):Prop:=∀ x j,x<F.w0.heap.size->F.own0 x=.box j->j<K
theorem R.swap {n:Nat}{F:bE}{σ:Nat->Option aP}{ρ:List D}{a:Act}{w:World}{G:Gh}(h:R n F σ ρ a w G){K:Nat}(hF:Cai F K){b c:Nat}(hb:K<=b)(hc:K<=c):R n F (swS b c σ) ρ a w (swG b c G):=by
 refine⟨h.tmps,h.defers,fun k y hk=>?_,⟨h.frame.os,h.frame.tape,h.frame.output,h.frame.size,fun x hx ho=>?_,fun x j hx ho=>?_,fun x hx=>Jaq.2 (h.frame.fresh x hx)⟩,fun j ls hk hx ho=>?_⟩
 ·unfold swS at hk
  rw[Sbc]at hk;obtain⟨z,hz,rfl⟩:=hk;have hr:=h.cont _ _ hz
  cases z with
  | slot g v =>
   obtain⟨t,e,h1⟩:=hr
   have ek:k=kT t:=by
    unfold kX at e
    cases hm:Nat.beq (k % 3) 1 with
    |true=>rw[hm,cond_true]at e;exact absurd e.symm kK
    |false=>rw[hm,cond_false]at e;exact e
   exact⟨t,ek,fun hg=>Lbr (h1 hg)⟩
  | box ro ls =>
   obtain⟨j,e,h1,h2,h3⟩:=hr
   have ek:k=kB (kD b c j):=by
    unfold kX at e
    cases hm:Nat.beq (k % 3) 1 with
    | true =>
     rw[hm,cond_true]at e;simp only[Sbq]at hm;have:=Aak e;rw[<- this,pM];unfold kB;omega
    | false =>
     rw[hm,cond_false]at e;rw[e]at hm;have:kB j % 3=1:=by unfold kB;omega
     rw[this]at hm;cases hm
   refine⟨kD b c j,ek,?_,?_,fun i l hl=>?_⟩
   ·show (G.bx (kD b c (kD b c j))).spot=none
    rw[pM];exact h1
   ·show swO b c (G.own (G.bx (kD b c (kD b c j))).block)=_
    rw[pM,h2];cases ro<;>rfl
   ·rw[Aaa,Sbc]at hl
    obtain⟨l0,lA,rfl⟩:=hl;obtain⟨v,h4,h5,h6⟩:=h3 i l0 lA;show ∃ v,w.cell? ((G.bx (kD b c (kD b c j))).add i)=some v/\w.frozen? ((G.bx (kD b c (kD b c j))).add i)=false/\_
    rw[pM];exact⟨v,h4,h5,Jan l0 v h6⟩
  | root x m b9 st =>
   obtain⟨r,e,h1,h2⟩:=hr
   have ek:k=kR r:=by
    unfold kX at e
    cases hm:Nat.beq (k % 3) 1 with
    |true=>rw[hm,cond_true]at e;exact absurd e eO
    |false=>rw[hm,cond_false]at e;exact e
   refine⟨r,ek,by rw[Da6,Aai];exact h1,?_⟩
   cases st with
   |live=>exact Dbh h2
   |frozen=>exact⟨h2.1.mono fun x hx=>⟨Jaq.2 hx,rfl⟩,fun x p hx=>h2.2 x p (Jap.1 hx)⟩
   |gone=>trivial
   |fwd r'=>exact⟨h2.1,by rw[Da6,Aai];exact h2.2⟩
 ·obtain⟨h1,h2⟩:=h.frame.keep x hx ho
  refine⟨h1,?_⟩;show swO b c (G.own x)=_
  rw[h2]
  rcases ho with ho|ho<;>rw[ho]<;>rfl
 ·obtain⟨h1,h2⟩:=h.frame.boxes x j hx ho
  refine⟨?_,h2⟩;show swO b c (G.own x)=_
  rw[h1];show Ow.box (kD b c j)=_
  rw[Las (hF x j hx ho) hb hc]
 ·have hj:=hF _ j hx ho
  have e:=Las hj hb hc
  have kk:σ (kB j)=some (.box false ls)\/∃ l0,σ (kB j)=some (.box false l0)/\l0.length=ls.length:=by
   unfold swS at hk;rw[Ma5,e,Sbc]at hk;obtain⟨z,hz,hs⟩:=hk
   cases z with
   |slot=>simp[mO]at hs
   |root=>simp[mO]at hs
   | box ro l0 =>
    simp only[mO,aP.box.injEq]at hs;obtain⟨rfl,rfl⟩:=hs;exact .inr ⟨l0,hz,(xJ l0).symm⟩
  have e2:(swG b c G).bx j=G.bx j:=by show G.bx (kD b c j)=_;rw[e]
  rw[e2]at hx ho ⊢
  rcases kk with kk|⟨l0,kk,hl⟩
  ·exact h.rng j ls kk hx ho
  ·rw[<- hl];exact h.rng j l0 kk hx ho
theorem Iah {f:Nat->Option aP}:∀ (L:List Nat) (t:Tr aP) (k:Nat),(Mag f L t).get k=if k∈L then f k else t.get k
 |[],t,k=>by simp[Mag]
 | x :: L, t, k => by
  rw[Mag,Iah L _ k];by_cases h:k∈L
  ·rw[if_pos h,if_pos (Rb7 _ h)]
  ·rw[if_neg h,Tr.get_set]
   by_cases e:k=x
   ·subst e;rw[if_pos rfl,if_pos Sbe]
   ·rw[if_neg e,if_neg (by simp only[Rb4,not_or];exact⟨e,h⟩)]
theorem Hbr {nt nb nr k:Nat}:k∈(range 0 nt).map kT++(range 0 nb).map kB++(range 0 nr).map kR↔tL nt nb nr k=true:=by
 unfold tL;simp only[List.mem_append,Sb7,mem_range];constructor
 ·rintro ((⟨x,hx,rfl⟩|⟨x,hx,rfl⟩)|⟨x,hx,rfl⟩)
  ·rw[show kT x % 3=0 by unfold kT;omega,show kT x / 3=x by unfold kT;omega];simpa using hx.2
  ·rw[show kB x % 3=1 by unfold kB;omega,show kB x / 3=x by unfold kB;omega];simpa using hx.2
  ·rw[show kR x % 3=2 by unfold kR;omega,show kR x / 3=x by unfold kR;omega];simpa using hx.2
 ·have a3u:k % 3=0\/k % 3=1\/k % 3=2:=by omega
  rcases a3u with h|h|h<;>rw[h]<;>intro hk
  ·have kk:k / 3<nt:=by simpa using hk
   exact .inl (.inl ⟨k / 3,⟨Tb5 _,by omega⟩,by unfold kT;omega⟩)
  ·have kk:k / 3<nb:=by simpa using hk
   exact .inl (.inr ⟨k / 3,⟨Tb5 _,by omega⟩,by unfold kB;omega⟩)
  ·have kk:k / 3<nr:=by simpa using hk
   exact .inr ⟨k / 3,⟨Tb5 _,by omega⟩,by unfold kR;omega⟩
theorem Tan {nt nb nr b c k:Nat}(hb:b<nb)(hc:c<nb):tL nt nb nr (kX b c k)=tL nt nb nr k:=by
 unfold kX
 cases h:Nat.beq (k % 3) 1 with
 |false=>rfl
 | true =>
  rw[cond_true];simp only[Sbq]at h;unfold tL;rw[show kB (kD b c (k / 3)) % 3=1 by unfold kB;omega,show kB (kD b c (k / 3)) / 3=kD b c (k / 3) by unfold kB;omega,h];show Tbh _ _=Tbh _ _
  have:=Za4 (k:=k / 3) hb hc;cases h1:Tbh (kD b c (k / 3)) nb<;>cases h2:Tbh (k / 3) nb<;>first|rfl|skip
  ·simp only[Sb5]at h2
   have:=this.2 h2;rw[<- Sb5,h1]at this;cases this
  ·simp only[Sb5]at h1
   have:=this.1 h1;rw[<- Sb5,h2]at this;cases this
theorem Qav {s:St}{b c:Nat}(hb:b<s.nb)(hc:c<s.nb):(s.swap b c).get=swS b c s.get:=by
 funext k;have e0:(s.swap b c).get k=bif tL s.nt s.nb s.nr k then (s.swap b c).tr.get k else none:=rfl;have e1:(s.swap b c).tr.get k=if k∈(range 0 s.nt).map kT++(range 0 s.nb).map kB++(range 0 s.nr).map kR then swS b c s.get k else s.tr.get k:=Iah _ _ k
 rw[e0,e1]
 cases h:tL s.nt s.nb s.nr k with
 |true=>rw[cond_true,if_pos (Hbr.2 h)]
 | false =>
  rw[cond_false];unfold swS St.get;rw[Tan hb hc,h];rfl
theorem Ias {b c N:Nat}:∀ l:aO,(l.swap b c).inScope N=l.inScope N:=by
 intro l
 induction l using aO.rec (motive_2:=fun ls=>bB N (bS b c ls)=bB N ls) with
 |dead=>rfl
 |sc=>rfl
 |su=>rfl
 |ex=>rfl
 |sn=>rfl
 |px=>rfl
 |pe l sz i off ih=>simp only[aO.swap,aO.inScope,ih]
 |rp=>rfl
 |pn=>rfl
 |clo f fW ih=>simp only[aO.swap,aO.inScope,ih]
 |nil=>rfl
 |cons l ls h1 h2=>simp only[bS,bB,h1,h2]
theorem oG {b c N:Nat}:∀ ls:List aO,bB N (bS b c ls)=bB N ls
 |[]=>rfl
 |l::ls=>by simp only[bS,bB,Ias,oG ls]
theorem Ta7 {b c N:Nat}(y:aP):bT N (mO b c y)=bT N y:=by
 cases y with
 | slot g v =>
  simp only[mO,bT];congr 1
  cases v with
  |dead=>rfl
  |one l=>exact Ias l
  |agg ls=>exact oG ls
  | tup ts =>
   simp only[Ua0,vW,List.all_map];congr 1;funext t;exact oG t.2
 |box ro ls=>exact oG ls
 |root=>rfl
theorem Bag.swap {E:Env}{s:St}(h:Bag E s){b c:Nat}(hb:b<s.nb)(hc:c<s.nb):Bag E (s.swap b c):=by
 refine⟨h.nt,?_⟩;rw[Qav hb hc];intro k y hk;unfold swS at hk;rw[Sbc]at hk;obtain⟨z,hz,rfl⟩:=hk;rw[Ta7];exact h.sc _ _ hz
theorem wE {E:Env}{F:bE}(hF:Cai F E.nbx){τ:St}:∀ (ts:List Nat) (s:St),Bag E s->Bag E (Pan E τ ts s)/\(Pan E τ ts s).nv=s.nv/\∀ {ρ:List D} {a:Act} {w:World} {G:Gh},R E.ntmps F s.get ρ a w G->∃ G',R E.ntmps F (Pan E τ ts s).get ρ a w G'
 |[],s,hi=>⟨hi,rfl,fun hR=>⟨_,hR⟩⟩
 | t :: ts, s, hi => by
  unfold Pan;split
  ·rename_i b c _ _
   cases hg:(!(Nat.beq b c)&&Nat.ble E.nbx b&&Nat.ble E.nbx c&&Tbh b s.nb&&Tbh c s.nb) with
   |false=>rw[cond_false];exact wE hF ts s hi
   | true =>
    rw[cond_true];simp only[Rbu,Tbc,Sb5]at hg;obtain⟨⟨⟨⟨-,h1⟩,h2⟩,h3⟩,h4⟩:=hg;obtain⟨k1,k2,k3⟩:=wE hF ts (s.swap b c) (hi.swap h3 h4);refine⟨k1,k2,fun hR=>?_⟩;have:=hR.swap hF h1 h2;rw[<- Qav h3 h4]at this;exact k3 this
  ·exact wE hF ts s hi
section
variable {E:Env} {F:bE} {cf:Nat->List D->Option (List D)} {ρ:List D} {s:St}
theorem Ia1 (hF:Cai F E.nbx){s0:St}{cH:Nat}{br:List Pos}{τ:St}{kind:Kind}{r:Tm St}(h:coerce E s0.nv s0.nr cH br τ kind s=some r)(lB:xP E s0 cH br.length τ){ρ0 e:List D}(hρ:ρ=ρ0++e)(h0:ρ0.length=s0.nv)
  {o:Out St} (ho:Ec cf r ρ=some o) (hl:ρ.length=s.nv) (hi:Bag E s) :
  o.kind=kind/\o.vals.length=br.length/\∀ a w G,R E.ntmps F s.get ρ a w G->∃ G',R E.ntmps F τ.get (ρ0++o.vals) a w G':=by
 obtain⟨h1,h2,h3⟩:=wE hF (τ:=τ) E.pxs s hi;obtain⟨h4,h5,h6⟩:=Pa6 (F:=F) h lB hρ h0 ho (hl.trans h2.symm) h1;refine⟨h4,h5,fun a w G hR=>?_⟩;obtain⟨G',jg⟩:=h3 hR;exact h6 a w G' jg
end
def Xad:Kind->Exit
 |.fall=>.normal
 |.exit id=>.exit id
 |.ret=>.ret
 |_=>.outgrown
def Lbz:Kind->Prop
 |.cont=>False
 |.yield _=>False
 |_=>True
structure Post (E:Env) (ρ:List D) (o:Out St):Prop where
 nice:Lbz o.kind
 len:o.env.length=o.ext.nv
 inv:Bag E o.ext
 pre:∃ ds,o.env=ρ++ds
def Wp (P:Program)(E:Env)(F:bE)(c:Code)(s:St)(ρ:List D)(o:Out St):Prop :=
 ∀ a w G Q,R E.ntmps F s.get ρ a w G->(∀ a' w' G',R E.ntmps F o.ext.get o.env a' w' G'->Q (Xad o.kind) a' w')->c.wp P Q a w
theorem Post.trans {E:Env}{ρ ds:List D}{o:Out St}(h:Post E (ρ++ds) o):Post E ρ o:=by
 obtain⟨es,h1⟩:=h.pre;exact⟨h.nice,h.len,h.inv,ds++es,by rw[h1,Rb3]⟩
theorem Ia7 {k:Kind}:nT k=true↔k=.fall:=by cases k<;>simp[nT]
section
variable {P:Program} {E:Env} {F:bE} {cf:Nat->List D->Option (List D)} {ρ:List D}
theorem kU {g:Option (aJ×Bool)}{kind:Kind}{xs:List aJ}{s:St}:∀ {ls:List Step} {ρ:List D} {o:Out St},Ec cf (mY g (.leaf kind xs s) ls) ρ=some o->o.kind=kind
 | [], ρ, o, h => by
  rw[mY,fG]at h;obtain rfl:=Sbs h;rfl
 | .prim p ys n :: r, ρ, o, h => by
  rw[mY,Lac]at h;split at h
  ·simp only[Rbt]at h
   obtain⟨ds,-,h⟩:=h;split at h
   ·exact kU h
   ·cases h
  ·exact kU h
 | .call f ys n olds :: r, ρ, o, h => by
  rw[mY,sN]at h;split at h
  ·simp only[Rbt]at h
   obtain⟨ds,-,h⟩:=h;split at h
   ·exact kU h
   ·cases h
  ·exact kU h
theorem Na6 {n fk cH:Nat}{br:List Pos}{τ s:St}{kind:Kind}{r:Tm St}(h:Gam E n fk cH br τ kind s=some r){ρ:List D}{o:Out St}(ho:Ec cf r ρ=some o):o.kind=kind:=by
 unfold Gam at h;simp only[bind,Rbt]at h;obtain⟨⟨ls,s1,xs⟩,h1,s2,h2,h3⟩:=h;dsimp only at h3
 revert h3
 generalize (lU E n xs fk cH s.nr br.length τ s2&&lZ s.tr s.nr br.length&&Nat.ble fk s.nr&&dW s.nv ls&&xs.all (aZ (s.nv+bF ls)))=b;intro h3
 cases b with
 |false=>simp[jH]at h3
 | true =>
  rw[cond_true]at h3;obtain rfl:=Sbs h3;exact kU ho
theorem Gal {n fk cH:Nat}{br:List Pos}{τ s:St}{kind:Kind}{r:Tm St}(h:coerce E n fk cH br τ kind s=some r){ρ:List D}{o:Out St}(ho:Ec cf r ρ=some o):o.kind=kind:=Na6 h ho
theorem Ab5 {live:Nat}{s0:St}{i:Nat}{jy:Kind->Bool}{ends:List St}{t t':Tm St}{τ:St}(h:join E live s0 i jy ends t=some (t',τ)) :
  ∃ br gj,xP E s0 gj br.length τ/\t.turn (.yield i) jy (coerce E s0.nv s0.nr gj br τ (.yield i))=some t':=by
 unfold join at h;dsimp only at h
 revert h
 generalize hb:Cao E s0 _ _ _=b;intro h
 cases b with
 |false=>simp[jH]at h
 | true =>
  rw[cond_true,Sbc]at h;obtain⟨t1,h1,h2⟩:=h;obtain⟨rfl,rfl⟩:=Prod.mk.inj h2;exact⟨_,_,xV hb,h1⟩
theorem Wak (hF:Cai F E.nbx){live:Nat}{s0:St}{i:Nat}{jy:Kind->Bool}{ends:List St}{t t' k:Tm St}{τ:St}(h:join E live s0 i jy ends t=some (t',τ))(hc:jy .cont=false)(hy:∀ i,jy (.yield i)=false)
  {o:Out St} (ho:Ec cf (.bind i t' k) ρ=some o) (hl:ρ.length=s0.nv) (hP:∀ o1,Ec cf t ρ=some o1->Post E ρ o1) :
  ∃ o1,Ec cf t ρ=some o1/\((jy o1.kind=true/\∃ vals,Ec cf k (ρ++vals)=some o/\(ρ++vals).length=τ.nv/\Bag E τ/\∀ a w G,R E.ntmps F o1.ext.get o1.env a w G->∃ G',R E.ntmps F τ.get (ρ++vals) a w G')\/(jy o1.kind=false/\o=o1)):=by
 obtain⟨br,gj,lB,ht⟩:=Ab5 h;simp only[pI,Rbt]at ho;obtain⟨o',h1,h2⟩:=ho;obtain⟨o1,h3,h4⟩:=kE (fun s r hr ρ o ho=>Gal hr ho) hc hy ht h1;refine⟨o1,h3,?_⟩;have hp:=hP o1 h3
 rcases h4 with ⟨h5,h6,r,h7,h8⟩|⟨h5,h6⟩
 ·refine .inl ⟨h5,?_⟩
  rw[if_pos h6]at h2;obtain⟨ds,h9⟩:=hp.pre;obtain⟨du,eC,gi⟩:=Ia1 hF h7 lB h9 hl h8 hp.len hp.inv;exact⟨o'.vals,h2,by rw[Rb8,hl,eC,lB.nv],⟨lB.nt1,lB.inScope⟩,gi⟩
 ·refine .inr ⟨h5,?_⟩
  subst h6
  have:o'.kind≠.yield i:=fun e=>by
   have:=hp.nice;rw[e]at this;exact this
  rw[if_neg this]at h2;exact (Sbs h2).symm
theorem Fal {live:Nat}{s:St}{body:St->Option (Tm St)}:∀ {fuel:Nat} {br:List Pos} {keys:List Nat} {gj:Nat} {seen:List St} {t:Tm St},Fam E live s body fuel br keys gj seen=some t ->
  ∃ br gj τ tb pr xs s1 s2,body τ=some tb/\xP E s gj br.length τ/\jE E s.nr br 0 { s with nr:=s.nr+br.length }=some ([],s1,xs)/\gJ τ (range 0 s.nr) s1=some s2 /\
   lU E s.nv xs s.nr gj s.nr br.length τ s2=true/\lZ s.tr s.nr br.length=true/\tb.turn .cont nT (coerce E s.nv s.nr gj br τ .cont)=some pr/\t=.loop xs pr
 |0,_,_,_,_,t,h=>by simp[Fam,jH]at h
 | fuel + 1, br, keys, gj, seen, t, h => by
  simp only[Fam]at h;split at h
  ·cases h
  ·rename_i tb hb
   revert h
   generalize hc:(Pal br _&&_&&_)=b;intro h
   cases b with
   | false =>
    rw[cond_false]at h;exact Fal h
   | true =>
    rw[cond_true]at h;simp only[bind,Rbt]at h;obtain⟨⟨pre,s1,xs⟩,h1,s2,h2,h3⟩:=h;dsimp only at h1 h2 h3
    revert h3
    generalize hd:(lU E s.nv xs s.nr gj s.nr br.length _ s2&&lZ s.tr s.nr br.length&&pre.isEmpty&&Cao E s gj br.length _)=b;intro h3
    cases b with
    |false=>simp[jH]at h3
    | true =>
     rw[cond_true]at h3;simp only[Rbt,Rbv]at h3;obtain⟨pr,h4,h5⟩:=h3;simp only[Rbu,Ub5]at hd;obtain⟨⟨⟨iS,qy⟩,rfl⟩,hd4⟩:=hd;exact⟨br,gj,_,tb,pr,xs,s1,s2,hb,xV hd4,h1,h2,iS,qy,h4,h5.symm⟩
theorem Maz {s:St}{body:St->Option (Tm St)}{H:List (Nat×Nat×Nat×Nat)×List Nat×Nat×List Nat}{t:Tm St}(h:Kab E s body H=some t) :
  ∃ br gj τ tb pr xs s1 s2,body τ=some tb/\xP E s gj br.length τ/\jE E s.nr br 0 { s with nr:=s.nr+br.length }=some ([],s1,xs)/\gJ τ (range 0 s.nr) s1=some s2 /\
   lU E s.nv xs s.nr gj s.nr br.length τ s2=true/\lZ s.tr s.nr br.length=true/\tb.turn .cont nT (coerce E s.nv s.nr gj br τ .cont)=some pr/\t=.loop xs pr:=by
 unfold Kab at h
 revert h
 generalize (H.1.map fun p=>(⟨p.1,p.2.1,Hby p.2.2.1 p.2.2.2⟩:Pos))=br;generalize s.nr+H.2.2.1=gj;intro h;dsimp only at h;split at h
 ·cases h
 ·rename_i tb hb
  simp only[bind,Rbt]at h;obtain⟨⟨pre,s1,xs⟩,h1,s2,h2,h3⟩:=h;dsimp only at h1 h2 h3
  revert h3
  generalize hd:(lU E s.nv xs s.nr gj s.nr br.length _ s2&&lZ s.tr s.nr br.length&&pre.isEmpty&&Cao E s gj br.length _)=b;intro h3
  cases b with
  |false=>simp[jH]at h3
  | true =>
   rw[cond_true]at h3;simp only[Rbt,Rbv]at h3;obtain⟨pr,h4,h5⟩:=h3;simp only[Rbu,Ub5]at hd;obtain⟨⟨⟨iS,qy⟩,rfl⟩,hd4⟩:=hd;exact⟨br,gj,_,tb,pr,xs,s1,s2,hb,xV hd4,h1,h2,iS,qy,h4,h5.symm⟩
theorem least {p:Nat->Prop}(h:∃ n,p n):∃ n,p n/\∀ m,p m->n<=m:=by
 obtain⟨n,hn⟩:=h
 induction n using Nat.strongRecOn with
 | _ n ih =>
  by_cases h:∃ m,m<n/\p m
  ·obtain⟨m,h1,h2⟩:=h
   exact ih m h1 h2
  ·refine⟨n,hn,fun m hm=>?_⟩
   rcases Sbh m n with h1|h1
   ·exact absurd ⟨m,h1,hm⟩ h
   ·exact h1
open Classical in
theorem Lah {c:Code}{Q:Exit->Act->World->Prop}(K:Nat->Act->World->Prop)
  (round:∀ n a w,K n a w->c.wp P (Exit.then (fun a' w'=>∃ m,m<n/\K m a' w') Q) a w) {n:Nat} {a:Act} {w:World} (h0:K n a w):(Code.loop c).wp P Q a w:=by
 refine wp_loop (fun a w=>∃ n,K n a w) (fun a w=>if h:∃ n,K n a w then (least h).choose else 0) ⟨n,h0⟩ fun a w h=>?_
 have h1:=round _ a w (least h).choose_spec.1;refine wp_mono h1 fun e a' w' hq=>?_
 cases e with
 | normal =>
  obtain⟨m,hm,hK⟩:=hq;have h':∃ n,K n a' w':=⟨m,hK⟩;refine⟨h',?_⟩;rw[dif_pos h',dif_pos h];exact Nat.lt_of_le_of_lt ((least h').choose_spec.2 m hK) hm
 |_=>exact hq
theorem Ha9 (hF:Cai F E.nbx){s:St}{body:St->Option (Tm St)}{c:Code}
  (hbody:∀ {τ:St} {t:Tm St} {ρ:List D} {o:Out St},body τ=some t->Ec cf t ρ=some o->ρ.length=τ.nv->Bag E τ->Post E ρ o/\Wp P E F c τ ρ o)
  {t:Tm St} (h:∃ br gj τ tb pr xs s1 s2,body τ=some tb/\xP E s gj br.length τ/\jE E s.nr br 0 { s with nr:=s.nr+br.length }=some ([],s1,xs)/\gJ τ (range 0 s.nr) s1=some s2 /\
   lU E s.nv xs s.nr gj s.nr br.length τ s2=true/\lZ s.tr s.nr br.length=true/\tb.turn .cont nT (coerce E s.nv s.nr gj br τ .cont)=some pr/\t=.loop xs pr) {o:Out St} (ho:Ec cf t ρ=some o) (hl:ρ.length=s.nv) (hi:Bag E s):Post E ρ o/\Wp P E F (.loop c) s ρ o:=by
 obtain⟨br,gj,τ,tb,pr,xs,s1,s2,h1,lB,h2,h3,h4,h5,h6,rfl⟩:=h;have a4e:Bag E τ:=⟨lB.nt1,lB.inScope⟩;have tu:=oD h2;rw[Lad]at ho
 have sw:∀ vs o',vs.length=br.length->Ec cf pr (ρ++vs)=some o'->∃ o1,Ec cf tb (ρ++vs)=some o1/\Post E (ρ++vs) o1/\Wp P E F c τ (ρ++vs) o1 /\
   ((o1.kind=.fall/\o'.kind=.cont/\o'.vals.length=br.length/\∀ a w G,R E.ntmps F o1.ext.get o1.env a w G->∃ G',R E.ntmps F τ.get (ρ++o'.vals) a w G')\/(o1.kind≠.fall/\o'=o1)):=by
  intro vs o' iw he;obtain⟨o1,h7,h8⟩:=kE (fun s r hr ρ o ho=>Gal hr ho) rfl (fun _=>rfl) h6 he;obtain⟨hp,hw⟩:=hbody h1 h7 (by rw[Rb8,hl,iw,lB.nv]) a4e;refine⟨o1,h7,hp,hw,?_⟩
  rcases h8 with ⟨h9,du,r,eC,gi⟩|⟨h9,du⟩
  ·obtain⟨ds,jm⟩:=hp.pre
   obtain⟨lg,nc,nf⟩:=Ia1 hF eC lB (jm.trans (Rb3 ..)) hl gi hp.len hp.inv;exact .inl ⟨Ia7.1 h9,lg,nc,nf⟩
  ·exact .inr ⟨(fun e=>by rw[e]at h9;cases h9),du⟩
 refine⟨?_,fun a w G Q hR hQ=>?_⟩
 ·refine Yal (C:=fun vs o=>vs.length=br.length->Post E ρ o) (fun vs o' he hk iw=>?_) (fun vs o' o2 he hk hC _ iw=>?_) ho (by simp[tu])
  ·obtain⟨o1,-,hp,-,h8⟩:=sw vs o' iw he
   rcases h8 with ⟨-,h9,-⟩|⟨-,h9⟩
   ·exact absurd h9 hk
   ·rw[h9];exact hp.trans
  ·obtain⟨o1,-,hp,-,h8⟩:=sw vs o' iw he
   rcases h8 with ⟨-,-,h9,-⟩|⟨-,h9⟩
   ·exact hC h9
   ·subst h9
    have:=hp.nice;rw[hk]at this;exact this.elim
 ·
  have qz:R E.ntmps F ({ s with nr:=s.nr+br.length }:St).get ρ a w G:=by rw[Ra6 h5];exact hR
  obtain⟨⟨G1,xo⟩,-⟩:=uE (cf:=cf) h2 (Fa0 h5) (by simp) qz trivial;obtain⟨G2,hR3⟩:=lF h3 xo;obtain⟨G3,hR4⟩:=R.fit (ρ0:=ρ) (e:=[]) (by rw[Sbu];exact hR3) hl tu lB h4 (Sbg _);rw[Sbu]at hR4;have rj:=ho;unfold Lc at rj;obtain⟨N,hN⟩:=(fK (Mbg (cf:=cf) pr ρ (xs.map (·.val ρ)))).1 rj;refine Lah (fun n a w=>∃ vs G,iter n (fun vs=>runT cf N pr (ρ++vs)) vs=some o/\vs.length=br.length/\R E.ntmps F τ.get (ρ++vs) a w G) (fun n a w hK=>?_) (n:=N) ⟨_,G3,hN,by simp[tu],hR4⟩;obtain⟨vs,G,hn,iw,hRv⟩:=hK
  cases n with
  |zero=>cases hn
  | succ m =>
   simp only[iter,Rbt]at hn;obtain⟨o',h7,h8⟩:=hn;obtain⟨o1,h9,hp,hw,du⟩:=sw vs o' iw (Ga5.2 ⟨N,h7⟩);refine hw a w G _ hRv fun a' w' G' jg=>?_
   rcases du with ⟨eC,gi,jm,lg⟩|⟨eC,gi⟩
   ·rw[if_pos gi]at h8
    rw[eC];obtain⟨G'',so⟩:=lg a' w' G' jg;exact⟨m,Nat.lt_succ_self m,o'.vals,G'',h8,jm,so⟩
   ·subst gi
    have hk:o'.kind≠.cont:=fun e=>by
     have:=hp.nice;rw[e]at this;exact this
    rw[if_neg hk]at h8;obtain rfl:=Sbs h8;have:=hQ a' w' G' jg
    revert this eC
    have:=hp.nice
    revert this
    cases o'.kind<;>intro h1 h2 h3<;>first|exact h1.elim|exact (h2 rfl).elim|exact h3
theorem oU (hF:Cai F E.nbx)(hti:tQ P E.ti)(dm:yO P E F cf)(hm:P.follows .mixedOrders=true){rb:Nat}:∀ (c:Code) {ex:List (Nat×Nat)} {live:Nat} {s:St} {t:Tm St} {ρ:List D} {o:Out St},sxC E false rb c ex live s=some t ->
  Ec cf t ρ=some o->ρ.length=s.nv->Bag E s->Post E ρ o/\Wp P E F c s ρ o
 | .skip, ex, live, s, t, ρ, o, h, ho, hl, hi => by
  simp only[sxC,Rbv]at h;subst h;rw[fG]at ho;obtain rfl:=Sbs ho;exact⟨⟨trivial,hl,hi,[],by simp⟩,fun a w G Q hR hQ=>wp_skip (hQ a w G hR)⟩
 | .label _, ex, live, s, t, ρ, o, h, ho, hl, hi => by
  simp only[sxC,Rbv]at h;subst h;rw[fG]at ho;obtain rfl:=Sbs ho;exact⟨⟨trivial,hl,hi,[],by simp⟩,fun a w G Q hR hQ=>wp_label (hQ a w G hR)⟩
 | .ret, ex, live, s, t, ρ, o, h, ho, hl, hi => by
  simp only[sxC,Rbv]at h;subst h;rw[fG]at ho;obtain rfl:=Sbs ho;exact⟨⟨trivial,hl,hi,[],by simp⟩,fun a w G Q hR hQ=>wp_ret (hQ a w G hR)⟩
 | .exit id, ex, live, s, t, ρ, o, h, ho, hl, hi => by
  simp only[sxC,Rbv]at h;subst h;rw[fG]at ho;obtain rfl:=Sbs ho;exact⟨⟨trivial,hl,hi,[],by simp⟩,fun a w G Q hR hQ=>wp_exit (hQ a w G hR)⟩
 | .region k8 ops draw, ex, live, s, t, ρ, o, h, ho, hl, hi => by
  simp only[sxC,Rbv]at h;subst h;obtain⟨⟨h1,h2,h3,h4⟩,h5⟩:=La1 hti dm hm ho hl hi
  exact⟨⟨by rw[h1];trivial,h2,h3,h4⟩,fun a w G Q hR hQ=>h5 a w G Q hR fun a' w' G' jg=>by
   have:=hQ a' w' G' jg;rw[h1]at this;exact this⟩
 | .seq a b, ex, live, s, t, ρ, o, h, ho, hl, hi => by
  simp only[sxC,bind,Rbt]at h;obtain⟨ta,ox,h⟩:=h;have zd:=fun {o1:Out St} (h1:Ec cf ta ρ=some o1)=>oU hF hti dm hm a ox h1 hl hi
  have mq:∀ o1:Out St,Post E ρ o1->Wp P E F a s ρ o1->o1.kind≠.fall->Wp P E F (.seq a b) s ρ o1:=by
   intro o1 hp hw hk a' w G Q hR hQ;refine wp_seq (hw a' w G _ hR fun a1 w1 G1 qz=>?_);have:=hQ a1 w1 G1 qz
   revert this hk
   have:=hp.nice
   revert this
   cases o1.kind<;>intro h1 h2 h3<;>first|exact h1.elim|exact (h2 rfl).elim|exact h3
  cases vd:ta.no nT with
  | true =>
   rw[vd,cond_true,Rbv]at h;subst h;obtain⟨hp,hw⟩:=zd ho;exact⟨hp,mq o hp hw fun e=>by have:=uK vd ho;rw[e]at this;cases this⟩
  | false =>
   rw[vd,cond_false]at h
   have fS:∀ {o1:Out St} {s2:St} {tb:Tm St} {ρ2:List D},Ec cf ta ρ=some o1->o1.kind=.fall->sxC E false rb b ex live s2=some tb->Ec cf tb ρ2=some o->ρ2.length=s2.nv->Bag E s2->(∃ ds,ρ2=ρ++ds) ->
     (∀ a w G,R E.ntmps F o1.ext.get o1.env a w G->∃ G',R E.ntmps F s2.get ρ2 a w G')->Post E ρ o/\Wp P E F (.seq a b) s ρ o:=by
    intro o1 s2 tb ρ2 h1 hk h2 h3 h4 h5 ⟨ds,h6⟩ h7;obtain⟨hp,hw⟩:=oU hF hti dm hm b h2 h3 h4 h5;obtain⟨hp1,zl⟩:=zd h1;subst h6;refine⟨hp.trans,fun a' w G Q hR hQ=>wp_seq (zl a' w G _ hR fun a1 w1 G1 qz=>?_)⟩;rw[hk];obtain⟨G2,xo⟩:=h7 a1 w1 G1 qz;exact hw a1 w1 G2 Q xo hQ
   split at h
   ·obtain⟨o1,h1,h2⟩:=oJ h ho
    rcases h2 with ⟨h3,tb,h4,h5⟩|⟨h3,h4⟩
    ·obtain⟨hp,-⟩:=zd h1
     exact fS h1 h3 h4 h5 hp.len hp.inv hp.pre fun a w G hR=>⟨G,hR⟩
    ·subst h4
     obtain⟨hp,hw⟩:=zd h1;exact⟨hp,mq _ hp hw h3⟩
   ·simp only[Rbt]at h
    obtain⟨⟨t',τ⟩,hj,k,hk,h⟩:=h;simp only[Rbv]at h;subst h;obtain⟨o1,h1,h2⟩:=Wak hF hj rfl (fun _=>rfl) ho hl fun o1 h1=>(zd h1).1
    rcases h2 with ⟨h3,vals,h4,h5,h6,h7⟩|⟨h3,h4⟩
    ·exact fS h1 (Ia7.1 h3) hk h4 h5 h6 ⟨vals,rfl⟩ fun a w G hR=>h7 a w G hR
    ·subst h4
     obtain⟨hp,hw⟩:=zd h1;exact⟨hp,mq _ hp hw fun e=>by rw[e]at h3;cases h3⟩
 | .cond c a b, ex, live, s, t, ρ, o, h, ho, hl, hi => by
  simp only[sxC]at h
  have hcb:∀ v,Xau c=some v->c=.const (.bool v):=by
   intro v hv;unfold Xau at hv;split at hv
   ·cases hv;rfl
   ·cases hv
  split at h
  ·rename_i hc
   obtain rfl:=hcb _ hc;obtain⟨hp,hw⟩:=oU hF hti dm hm a h ho hl hi;exact⟨hp,fun a' w G Q hR hQ=>wp_cond_true rfl (hw a' w G Q hR hQ)⟩
  ·rename_i hc
   obtain rfl:=hcb _ hc;obtain⟨hp,hw⟩:=oU hF hti dm hm b h ho hl hi;exact⟨hp,fun a' w G Q hR hQ=>wp_cond_false rfl (hw a' w G Q hR hQ)⟩
  rename_i hcn;clear hcn hcb;split at h
  ·rename_i x tt hk
   cases hb:(aZ s.nv x&&Tbh tt E.ntmps) with
   | false =>
    rw[hb]at h;simp only[Bool.not_false,cond_true,Rbv]at h;subst h;rw[iN]at ho;cases ho
   | true =>
    rw[hb]at h;simp only[Sb3,cond_false,bind,Rbt,Rbv]at h;obtain⟨ta,ox,tb,htb,rfl⟩:=h;simp only[Rbu,Sb5]at hb
    have hev:∀ a' w G,R E.ntmps F s.get ρ a' w G->Sc (a'.eval (.tmp tt)) (x.val ρ):=by
     intro a' w G hR;have:=hR.slot hk rfl;simp only[bV,aB,yP]at this;rw[if_pos hb.2]at this
     have e:a'.eval (.tmp tt)=a'.tmps.getD tt undef:=by
      simp[Act.eval,Sb6]
     rw[e];exact this
    rw[Daq]at ho;split at ho
    ·rename_i hx
     obtain⟨hp,hw⟩:=oU hF hti dm hm a ox ho hl hi;refine⟨hp,fun a' w G Q hR hQ=>wp_cond_true ?_ (hw a' w G Q hR hQ)⟩;have:=hev a' w G hR;rw[hx]at this;exact this.bool_inv
    ·rename_i hx
     obtain⟨hp,hw⟩:=oU hF hti dm hm b htb ho hl hi;refine⟨hp,fun a' w G Q hR hQ=>wp_cond_false ?_ (hw a' w G Q hR hQ)⟩;have:=hev a' w G hR;rw[hx]at this;exact this.bool_inv
    ·cases ho
  ·simp only[Rbv]at h
   subst h;rw[iN]at ho;cases ho
 | .block id b, ex, live, s, t, ρ, o, h, ho, hl, hi => by
  simp only[sxC,bind,Rbt]at h;obtain⟨tb,htb,h⟩:=h;have ihb:=fun {o1:Out St} (h1:Ec cf tb ρ=some o1)=>oU hF hti dm hm b htb h1 hl hi
  have mq:∀ o1:Out St,Post E ρ o1->Wp P E F b s ρ o1->nM id o1.kind=false->Wp P E F (.block id b) s ρ o1:=by
   intro o1 hp hw hk a' w G Q hR hQ;refine wp_block (hw a' w G _ hR fun a1 w1 G1 qz=>?_);have:=hQ a1 w1 G1 qz
   revert this hk
   have:=hp.nice
   revert this
   cases o1.kind with
   | exit j =>
    intro h1 h2 h3;simp only[Xad,Exit.inBlock];rw[if_neg]
    ·exact h3
    ·intro e
     simp[nM,e]at h2
   |fall=>exact fun h1 h2 h3=>h3
   |ret=>exact fun h1 h2 h3=>h3
   |cont=>exact fun h1 h2 h3=>h1.elim
   |yield i=>exact fun h1 h2 h3=>h1.elim
  cases vd:tb.no (nM id) with
  | true =>
   rw[vd,cond_true,Rbv]at h;subst h;obtain⟨hp,hw⟩:=ihb ho;exact⟨hp,mq o hp hw (uK vd ho)⟩
  | false =>
   rw[vd,cond_false]at h
   have ux:∀ {o1:Out St} {o:Out St},Ec cf tb ρ=some o1->Oag id o1.kind=true->o.kind=.fall->(∀ a w G,R E.ntmps F o1.ext.get o1.env a w G->∃ G',R E.ntmps F o.ext.get o.env a w G')->Wp P E F (.block id b) s ρ o:=by
    intro o1 o h1 hk ho hg a' w G Q hR hQ;obtain⟨hp,hw⟩:=ihb h1;refine wp_block (hw a' w G _ hR fun a1 w1 G1 qz=>?_);obtain⟨G2,xo⟩:=hg a1 w1 G1 qz;have:=hQ a1 w1 G2 xo;rw[ho]at this
    revert hk
    cases o1.kind with
    | exit j =>
     intro hk;simp only[Oag,Sbq]at hk;simp only[Xad,Exit.inBlock];rw[if_pos hk.symm];exact this
    |fall=>exact fun _=>this
    |ret=>intro hk;cases hk
    |cont=>intro hk;cases hk
    |yield i=>intro hk;cases hk
   split at h
   ·obtain⟨o1,h1,h2⟩:=iV h ho
    obtain⟨hp,hw⟩:=ihb h1
    rcases h2 with ⟨h3,h4⟩|⟨h3,h4⟩
    ·subst h4
     refine⟨⟨trivial,hp.len,hp.inv,hp.pre⟩,ux h1 ?_ rfl fun a w G hR=>⟨G,hR⟩⟩
     revert h3
     cases o1.kind<;>simp[nM,Oag]
    ·subst h4
     exact⟨hp,mq _ hp hw h3⟩
   ·simp only[Rbt]at h
    obtain⟨⟨t',τ⟩,hj,h⟩:=h;simp only[Rbv]at h;subst h;obtain⟨o1,h1,h2⟩:=Wak hF hj rfl (fun _=>rfl) ho hl fun o1 h1=>(ihb h1).1
    rcases h2 with ⟨h3,vals,h4,h5,h6,h7⟩|⟨h3,h4⟩
    ·rw[fG]at h4
     obtain rfl:=Sbs h4;exact⟨⟨trivial,h5,h6,vals,rfl⟩,ux h1 h3 rfl fun a w G hR=>h7 a w G hR⟩
    ·subst h4
     obtain⟨hp,hw⟩:=ihb h1;refine⟨hp,mq _ hp hw ?_⟩
     revert h3
     cases o.kind<;>simp[nM,Oag]
 | .loop b, ex, live, s, t, ρ, o, h, ho, hl, hi => by
  simp only[sxC]at h;split at h
  ·exact Ha9 hF (fun h1 h2 h3 h4=>oU hF hti dm hm b h1 h2 h3 h4) (Maz h) ho hl hi
  ·exact Ha9 hF (fun h1 h2 h3 h4=>oU hF hti dm hm b h1 h2 h3 h4) (Fal h) ho hl hi
 | .scope _, ex, live, s, t, ρ, o, h, ho, hl, hi => by
  simp only[sxC,Rbv]at h;subst h;rw[iN]at ho;cases ho
 | .goto _, ex, live, s, t, ρ, o, h, ho, hl, hi => by
  simp only[sxC,Rbv]at h;subst h;rw[iN]at ho;cases ho
 | .rangeFunc _ _ _ _, ex, live, s, t, ρ, o, h, ho, hl, hi => by
  simp only[sxC,Rbv]at h;subst h;rw[iN]at ho;cases ho
 | .refuse _, ex, live, s, t, ρ, o, h, ho, hl, hi => by
  simp only[sxC,Rbv]at h;subst h;rw[iN]at ho;cases ho
end
end Go.Proofs.YtgpamlpecmldfaaGreat.Rf
