/- Terms for qq program's functions, and my they are right: part 5 of 9. -/
import Derived.Test.YtcbkmmhkccnamaaGreatRf4
import Derived.Orders
open Array renaming getElem?_eq_getElem → Pbd, getD_eq_getD_getElem? → Pbh, getElem?_toList → Pbv
open Bool renaming and_eq_true → Obh, not_eq_true' → Ob6, or_eq_true → Pbo, not_true → Pb5, false_or → Qbd
open List renaming mem_append_left → Obi, mem_append_right → Obk, getElem?_eq_getElem → Obl, getElem?_cons_zero → Obn, getD_eq_getElem?_getD → Obo, mem_cons_of_mem → Obq, append_assoc → Obs, mem_singleton → Obt, mem_cons_self → Obu, length_append → Obv, getElem?_append_left → Obx, all_eq_true → Ob8, append_nil → Pbc, mem_cons → Pbg, length_cons → Pbm, nil_append → Pbp, mem_map_of_mem → Pbu, not_mem_nil → Pbz, getElem?_set → Qba, mem_filter → Qb1, isEmpty_iff → Qb4, mem_range → Rbb
open Nat renaming le_refl → Oby, lt_or_ge → Ob2, beq_eq → Ob4, zero_add → Ob9, add_zero → Pbb, blt_eq → Pbf, ble_eq → Pbn, blt → Pbs, zero_le → Pby, testBit → Qbh, le_succ → Qbx, le_add_right → Rbc
open Option renaming bind_eq_some_iff → Obg, bind_some → Obm, map_eq_some_iff → Obr, map_some → Pbj, getD_some → Pb4
set_option linter.unusedSimpArgs false
set_option linter.unusedVariables false
set_option linter.unnecessarySimpa false
set_option linter.unusedSectionVars false
namespace Go.Proofs.YtcbkmmhkccnamaaGreat.Rf
theorem mem_range {x:Nat}:∀ {n a:Nat},x∈range a n↔a<=x/\x<a+n
 |0,a=>by simp[range]
 | n + 1, a => by
  simp only[range,Pbg,mem_range];omega
theorem pQ {br cR r:Nat}(h:r<br):Pab br cR r=r:=by
 unfold Pab
 have:Nat.ble br r=false:=by
  cases e:Nat.ble br r with
  |false=>rfl
  |true=>simp only[Pbn]at e;omega
 rw[this];rfl
theorem Kad {br cR r:Nat}(h:br<=r):Pab br cR r=cR+(r-br):=by
 unfold Pab;have:Nat.ble br r=true:=by simpa using h
 rw[this];rfl
def rW (dT cR br:Nat):Ow->Ow
 |.slc r p=>if r<dT then .slc r p else if cR<=r then .slc (br+(r-cR)) p else .oth
 |o=>o
theorem Ra4 {dT cR br:Nat}{o:Ow}{r:Nat}{p:List Nat}(h0:dT<=br)(h:rW dT cR br o=.slc r p):o=.slc (Pab br cR r) p:=by
 cases o with
 | slc s q =>
  simp only[rW]at h;split at h
  ·injection h with h1 h2
   subst h1 h2;rw[pQ (by omega)]
  ·split at h
   ·injection h with h1 h2
    subst h1 h2;rw[Kad (by omega)];congr 1;omega
   ·cases h
 |_=>simp only[rW]at h;cases h
theorem Ea7 {dT cR br r:Nat}{p:List Nat}(h0:dT<=br)(hB:dT<=cR)(hr:r<dT\/br<=r):rW dT cR br (.slc (Pab br cR r) p)=.slc r p:=by
 simp only[rW]
 rcases hr with h|h
 ·rw[pQ (by omega),if_pos h]
 ·rw[Kad h,if_neg (by omega),if_pos (by omega)]
  congr 1;omega
structure Wah (τ:St) (σ:Nat->Option aN) (fw ρ:List D) (G' G:Gh) (N n:Nat) (xs:List aI) (br cR dT:Nat):Prop where
 at_:∀ x,aX N x=true->x.val fw=(Kae n xs x).val ρ
 le:dT<=br
 leB:dT<=cR
 hdr:∀ r,G'.hdr r=G.hdr (Pab br cR r)
 own:∀ b,G'.own b=rW dT cR br (G.own b)
 bx:G'.bx=G.bx
 valid:∀ r k,r<dT->kJ τ.get r k->kJ σ r k
 live:∀ r k m,r<dT->vX τ.get r k m->vX σ r k m
theorem Bac {τ:St}{dT:Nat}:∀ {deps:List (Nat×Nat)},Mah τ dT deps=true->∀ z∈deps,z.1<dT/\iG τ.get z.1 z.2
 |[],_,z,hz=>by simp at hz
 | (r, k) :: d, h, z, hz => by
  simp only[Mah,Obh]at h
  rcases List.mem_cons.1 hz with rfl|hz
  ·refine⟨by simpa using h.1.1,?_⟩
   have h2:=h.1.2;split at h2
   ·rename_i x m v e;exact⟨_,_,_,_,e,fun hs=>by rcases hs with hs|hs<;>cases hs⟩
   ·rename_i x m v r' e;exact⟨_,_,_,_,e,fun hs=>by rcases hs with hs|hs<;>cases hs⟩
   ·rename_i x m v st sE hn2 e;exact⟨_,_,_,_,e,fun _=>by simpa using h2⟩
   ·cases h2
  ·exact Bac h.2 z hz
section
variable {τ:St} {σ:Nat->Option aN} {fw ρ:List D} {G' G:Gh} {w:World} {N n:Nat} {xs:List aI} {br cR dT:Nat}
theorem Wah.ownLow (h:Wah τ σ fw ρ G' G N n xs br cR dT){b r:Nat}{p:List Nat}(hr:r<dT)(hb:G.own b=.slc r p):G'.own b=.slc r p:=by
 rw[h.own,hb];have h1:Pab br cR r=r:=pQ (by have:=h.le;omega);have h2:=Ea7 (p:=p) h.le h.leB (.inl hr:r<dT\/br<=r);rw[h1]at h2;exact h2
theorem Wah.frz (h:Wah τ σ fw ρ G' G N n xs br cR dT){b:Nat}(hb:G.own b=.frz):G'.own b=.frz:=by
 rw[h.own,hb];rfl
theorem Wah.allow (h:Wah τ σ fw ρ G' G N n xs br cR dT){deps:List (Nat×Nat)}(hd:∀ z∈deps,z.1<dT){b:Nat}(hb:Go.Proofs.YtcbkmmhkccnamaaGreat.Rf.allow G deps b):Go.Proofs.YtcbkmmhkccnamaaGreat.Rf.allow G' deps b:=by
 rcases hb with hb|⟨r,k,p,hm,hb⟩
 ·exact .inl (h.frz hb)
 ·exact .inr ⟨r,k,p,hm,h.ownLow (hd _ hm) hb⟩
theorem Wah.path (h:Wah τ σ fw ρ G' G N n xs br cR dT){p:List (aI×Nat×Nat)}(hp:(p.all fun x=>aX N x.1)=true):aZ fw p=aZ ρ (p.map fun x=>(Kae n xs x.1,x.2)):=by
 unfold aZ;rw[List.map_map];apply List.map_congr_left;intro x hx;rw[Ob8]at hp;simp only[Function.comp,jS,h.at_ x.1 (hp x hx)]
mutual
theorem aB.fit (h:Wah τ σ fw ρ G' G N n xs br cR dT):∀ (l:aM) (v:Value),l.inScope N=true->l.wf τ dT=true->aB σ ρ G w (l.sub n xs br cR) v->aB τ.get fw G' w l v
 |.dead,_,_,_,hl=>by simpa[aM.sub,aB] using hl
 | .sc x, v, hs, _, hl => by
  simp only[aM.inScope]at hs;simp only[aM.sub,aB]at hl ⊢;rw[h.at_ x hs];exact hl
 | .su g x, v, hs, _, hl => by
  simp only[aM.inScope,Obh]at hs;obtain⟨y,b⟩:=g;simp only[aM.sub,aB]at hl ⊢;have hg:gOn fw (some (y,b))=gOn ρ (some (Kae n xs y,b)):=by simp only[gOn,h.at_ y hs.2]
  rw[h.at_ x hs.1,hg];exact hl
 | .ex r, v, _, hw, hl => by
  simp only[aM.wf]at hw;simp only[aM.sub,aB]at hl ⊢;exact⟨by rw[h.hdr];exact hl.1,hw,hl.2.2⟩
 | .sn deps p nie x, v, hs, hw, hl => by
  simp only[aM.inScope,Obh]at hs;simp only[aM.wf]at hw;have hd:=Bac hw;simp only[aM.sub,aB]at hl ⊢;rw[h.at_ x hs.1];refine⟨⟨hl.1.1,fun z hz=>(hd z hz).2⟩,fun hv=>?_⟩;obtain⟨h1,h2,h3⟩:=hl.2 fun z hz=>h.valid _ _ (hd z hz).1 (hv z hz)
  refine⟨h1.mono fun b hb=>⟨h.allow (fun z hz=>(hd z hz).1) hb,rfl⟩,h2,?_⟩
  cases p with
  |no=>trivial
  | view =>
   intro r k m e gu;have hr:=(hd (r,k) (by simp[e])).1;have:=(h3 r k m e (h.live r k m hr gu)).mono (own':=G'.own) (w':=w) (q:=[]) (q':=[]) (r':=r) (fun b hb=>⟨h.frz hb,rfl⟩) [] rfl (fun b t hb=>⟨h.ownLow hr hb,rfl⟩);simpa using this
  | suf sz lo =>
   intro r k m e gu;have hr:=(hd (r,k) (by simp[e])).1;have h4:=h3 r k m e (h.live r k m hr gu)
   have h5:jS fw lo=jS ρ (Kae n xs lo):=by
    unfold jS;rw[h.at_ lo hs.2]
   rw[h5];rw[h.hdr,pQ (by have:=h.le;omega)];exact h4
  | path p =>
   intro r k m e gu;have hr:=(hd (r,k) (by simp[e])).1;obtain⟨h4,h5,h6⟩:=h3 r k m e (h.live r k m hr gu);rw[h.path hs.2];rw[List.length_map]at h4 h5;refine⟨h4,?_,?_⟩
   ·have:=h5.mono (own':=G'.own) (w':=w) (q:=[]) (q':=[]) (r':=r) (fun b hb=>⟨h.frz hb,rfl⟩) _ rfl (fun b t hb=>⟨h.ownLow hr hb,rfl⟩)
    rw[Pbp]at this;exact this
   ·rw[h.hdr,pQ (by have:=h.le;omega)]
    exact wB.mono _ _ _ _ _ (fun b t hb=>⟨h.ownLow hr hb,rfl⟩) h6
 | .px b off, v, _, hw, hl => by
  simp only[aM.wf]at hw;simp only[aM.sub,aB]at hl ⊢;exact⟨by rw[h.bx];exact hl.1,hw⟩
 | .pe l sz i off, v, hs, hw, hl => by
  simp only[aM.inScope,Obh]at hs;simp only[aM.wf]at hw;simp only[aM.sub,aB]at hl ⊢;obtain⟨a,n,c,k,iv,h1,h2⟩:=hl;exact⟨a,n,c,k,iv,aB.fit h l _ hs.1 hw h1,by rw[h.at_ i hs.2];exact h2⟩
 | .rp deps sz x, v, hs, hw, hl => by
  simp only[aM.inScope]at hs;simp only[aM.wf]at hw;have hd:=Bac hw;simp only[aM.sub,aB]at hl ⊢;rw[h.at_ x hs];refine⟨⟨hl.1.1,fun z hz=>(hd z hz).2⟩,fun hv=>?_⟩
  rcases hl.2 fun z hz=>h.valid _ _ (hd z hz).1 (hv z hz) with h1|⟨a,row,h1,h2,h3⟩
  ·exact .inl h1
  ·exact .inr ⟨a,row,h1,h2,h3.mono fun b hb=>⟨h.allow (fun z hz=>(hd z hz).1) hb,rfl⟩⟩
 |.pn,v,_,_,hl=>by simpa[aM.sub,aB] using hl
 | .clo f eN, v, hs, hw, hl => by
  simp only[aM.inScope]at hs;simp only[aM.wf]at hw;simp only[aM.sub,aB]at hl ⊢;obtain⟨vs,h1,h2⟩:=hl;exact⟨vs,h1,aG.fit h eN vs hs hw h2⟩
theorem aG.fit (h:Wah τ σ fw ρ G' G N n xs br cR dT):∀ (ls:List aM) (vs:List Value),bB N ls=true->lS τ dT ls=true->aG σ ρ G w (gG n xs br cR ls) vs->aG τ.get fw G' w ls vs
 |[],vs,_,_,hl=>by simpa[gG,aG] using hl
 | l :: ls, vs, hs, hw, hl => by
  simp only[bB,Obh]at hs;simp only[lS,Obh]at hw;simp only[gG,aG]at hl ⊢;obtain⟨u,us,e,h1,h2⟩:=hl;exact⟨u,us,e,aB.fit h l u hs.1 hw.1 h1,aG.fit h ls us hs.2 hw.2 h2⟩
end
theorem vP:∀ {d d':List (Nat×Nat)},uF d d'=true->d=d'
 |[],[],_=>rfl
 |[],_::_,h=>by simp[uF]at h
 |_::_,[],h=>by simp[uF]at h
 | (a, b) :: r, (a', b') :: r', h => by
  simp only[uF,Obh,Ob4]at h;rw[h.1.1,h.1.2,vP h.2]
theorem Ka7:∀ {d d':List (aI×Nat×Nat)},Ga7 d d'=true->d=d'
 |[],[],_=>rfl
 |[],_::_,h=>by simp[Ga7]at h
 |_::_,[],h=>by simp[Ga7]at h
 | (a, b, c) :: r, (a', b', c') :: r', h => by
  simp only[Ga7,Obh,Ob4]at h;rw[aI.beq0_eq h.1.1.1,h.1.1.2,h.1.2,Ka7 h.2]
theorem Pth.beq0_eq {p q:Pth}(h:p.beq0 q=true):p=q:=by
 cases p<;>cases q<;>simp only[Pth.beq0]at h<;>first|rfl|cases h|skip
 ·rw[Ka7 h]
 ·simp only[Obh,Ob4]at h
  rw[h.1,aI.beq0_eq h.2]
mutual
theorem aM.beq0_eq:∀ {a b:aM},a.beq0 b=true->a=b
 |.dead,b,h=>by cases b<;>first | rfl | (simp[aM.beq0]at h)
 | .sc x, b, h => by
  cases b<;>simp only[aM.beq0]at h<;>first|cases h|skip
  rw[aI.beq0_eq h]
 | .su g x, b, h => by
  cases b<;>simp only[aM.beq0]at h<;>first|cases h|skip
  rename_i g' x';simp only[Obh,beq_iff_eq]at h;obtain⟨y,u⟩:=g;obtain⟨y',u'⟩:=g';have h1:=aI.beq0_eq h.1.1;have h2:u=u':=h.1.2;dsimp only at h1;rw[h1,h2,aI.beq0_eq h.2]
 | .ex r, b, h => by
  cases b<;>simp only[aM.beq0]at h<;>first|cases h|skip
  simp only[Ob4]at h;rw[h]
 | .sn d p e x, b, h => by
  cases b<;>simp only[aM.beq0]at h<;>first|cases h|skip
  simp only[Obh,beq_iff_eq]at h;rw[vP h.1.1.1,Pth.beq0_eq h.1.1.2,h.1.2,aI.beq0_eq h.2]
 | .px c o, b, h => by
  cases b<;>simp only[aM.beq0]at h<;>first|cases h|skip
  simp only[Obh,Ob4]at h;rw[h.1,h.2]
 | .pe l s i o, b, h => by
  cases b<;>simp only[aM.beq0]at h<;>first|cases h|skip
  simp only[Obh,Ob4]at h;rw[aM.beq0_eq h.1.1.1,h.1.1.2,aI.beq0_eq h.1.2,h.2]
 | .rp d s x, b, h => by
  cases b<;>simp only[aM.beq0]at h<;>first|cases h|skip
  simp only[Obh,Ob4]at h;rw[vP h.1.1,h.1.2,aI.beq0_eq h.2]
 |.pn,b,h=>by cases b<;>first | rfl | (simp[aM.beq0]at h)
 | .clo f l, b, h => by
  cases b<;>simp only[aM.beq0]at h<;>first|cases h|skip
  simp only[Obh,Ob4]at h;rw[h.1,zH h.2]
theorem zH:∀ {a b:List aM},oQ a b=true->a=b
 |[],b,h=>by cases b<;>first | rfl | (simp[oQ]at h)
 | a :: r, b, h => by
  cases b<;>simp only[oQ]at h<;>first|cases h|skip
  simp only[Obh]at h;rw[aM.beq0_eq h.1,zH h.2]
end
theorem tO {a b:aM}(h:vJ a b=true){v:Value}(hb:aB σ ρ G w b v):aB σ ρ G w a v:=by
 unfold vJ at h;split at h
 ·simp only[aB]
  exact hb.one h
 ·rename_i d x
  split at h
  ·rename_i d' p nie x'
   simp only[Obh]at h;obtain rfl:=vP h.1;obtain rfl:=aI.beq0_eq h.2;simp only[aB]at hb ⊢;exact⟨hb.1,fun hv=>⟨(hb.2 hv).1,(fun e=>absurd e (by decide)),trivial⟩⟩
  ·cases h
 ·rw[aM.beq0_eq h];exact hb
theorem zD:∀ {a b:List aM},dM a b=true->∀ {vs:List Value},aG σ ρ G w b vs->aG σ ρ G w a vs
 |[],[],_,vs,hb=>hb
 |[],_::_,h,vs,hb=>by simp[dM]at h
 |_::_,[],h,vs,hb=>by simp[dM]at h
 | a :: r, b :: s, h, vs, hb => by
  simp only[dM,Obh]at h;simp only[aG]at hb ⊢;obtain⟨u,us,e,h1,h2⟩:=hb;exact⟨u,us,e,tO h.1 h1,zD h.2 h2⟩
theorem zF:∀ {a b:List aM},dM a b=true->a.length=b.length
 |[],[],_=>rfl
 |[],_::_,h=>by simp[dM]at h
 |_::_,[],h=>by simp[dM]at h
 | a :: r, b :: s, h => by
  simp only[dM,Obh]at h;simp[zF h.2]
theorem zG:∀ {a b:List aM},dM a b=true->∀ {j:Nat} {l:aM},a[j]?=some l->∃ m,b[j]?=some m/\vJ l m=true
 |[],[],_,j,l,hj=>by simp at hj
 |[],_::_,h,_,_,_=>by simp[dM]at h
 |_::_,[],h,_,_,_=>by simp[dM]at h
 | a :: r, b :: s, h, j, l, hj => by
  simp only[dM,Obh]at h
  cases j with
  | zero =>
   simp only[Obn,Option.some.injEq]at hj;subst hj;exact⟨b,rfl,h.1⟩
  |succ j=>exact zG h.2 (by simpa using hj)
theorem zC:∀ {ls:List aM} {j:Nat} {l:aM},ls[j]?=some l->(gG n xs br cR ls)[j]?=some (l.sub n xs br cR)
 |[],j,l,h=>by simp at h
 | m :: ls, 0, l, h => by
  simp only[Obn,Option.some.injEq]at h;subst h;rfl
 | m :: ls, j + 1, l, h => by
  simp only[gG,List.getElem?_cons_succ]at h ⊢;exact zC h
theorem zB:∀ {ls:List aM},(gG n xs br cR ls).length=ls.length
 |[]=>rfl
 |m::ls=>by simp[gG,zB (ls:=ls)]
theorem Ba3:∀ {ls:List aM} {j:Nat} {l:aM},lS τ dT ls=true->ls[j]?=some l->l.wf τ dT=true
 |[],j,l,_,h=>by simp at h
 | m :: ls, 0, l, hs, h => by
  simp only[lS,Obh]at hs;simp only[Obn,Option.some.injEq]at h;rw[<- h];exact hs.1
 | m :: ls, j + 1, l, hs, h => by
  simp only[lS,Obh]at hs;exact Ba3 hs.2 (by simpa using h)
end
theorem xG {s:St}{k:Nat}{c:aN}(h:s.get k=some c):(∃ t,k=kT t/\t<s.nt)\/(∃ b,k=kB b/\b<s.nb)\/(∃ r,k=kR r/\r<s.nr):=by
 unfold St.get at h
 cases hk:rZ s.nt s.nb s.nr k with
 |false=>rw[hk]at h;cases h
 | true =>
  unfold rZ at hk
  cases b0:Nat.beq (k % 3) 0 with
  | true =>
   rw[b0,cond_true,Pbf]at hk;simp only[Ob4]at b0;exact .inl ⟨k / 3,by unfold kT;omega,hk⟩
  | false =>
   rw[b0,cond_false]at hk;have n0:k % 3≠0:=fun e=>by rw[e]at b0;cases b0
   cases b1:Nat.beq (k % 3) 1 with
   | true =>
    rw[b1,cond_true,Pbf]at hk;simp only[Ob4]at b1;exact .inr (.inl ⟨k / 3,by unfold kB;omega,hk⟩)
   | false =>
    rw[b1,cond_false,Pbf]at hk;have n1:k % 3≠1:=fun e=>by rw[e]at b1;cases b1
    exact .inr (.inr ⟨k / 3,by unfold kR;omega,hk⟩)
theorem qI {n:Nat}{xs:List aI}{br cR:Nat}{τ s:St}:∀ {ks:List Nat},zR n xs br cR τ s ks=true->∀ k∈ks,bQ n xs br cR (τ.get k) (s.get k)=true
 |[],_,k,hk=>by simp at hk
 | k' :: ks, h, k, hk => by
  simp only[zR,Obh]at h
  rcases List.mem_cons.1 hk with rfl|hk
  ·exact h.1
  ·exact qI h.2 k hk
theorem zS {n:Nat}{xs:List aI}{br cR:Nat}{τ s:St}:∀ {ks:List Nat},zT n xs br cR τ s ks=true->∀ r∈ks,bQ n xs br cR (τ.get (kR r)) (s.get (kR (Pab br cR r)))=true
 |[],_,k,hk=>by simp at hk
 | k' :: ks, h, k, hk => by
  simp only[zT,Obh]at h
  rcases List.mem_cons.1 hk with rfl|hk
  ·exact h.1
  ·exact zS h.2 k hk
theorem Aaq {τ:St}{dT:Nat}:∀ {ks:List Nat},Dam τ dT ks=true->∀ k∈ks,oZ τ dT k (τ.get k)=true
 |[],_,k,hk=>by simp at hk
 | k' :: ks, h, k, hk => by
  simp only[Dam,Obh]at h
  rcases List.mem_cons.1 hk with rfl|hk
  ·exact h.1
  ·exact Aaq h.2 k hk
theorem Had {τ:St}:∀ {ks:List Nat},Pat τ ks=true->∀ k∈ks,τ.get k=none
 |[],_,k,hk=>by simp at hk
 | k' :: ks, h, k, hk => by
  simp only[Pat,Obh,Option.isNone_iff_eq_none]at h
  rcases List.mem_cons.1 hk with rfl|hk
  ·exact h.1
  ·exact Had h.2 k hk
structure wS (E:Env) (s0:St) (br len:Nat) (τ:St):Prop where
 nv:τ.nv=s0.nv+len
 nt1:E.ntmps<=τ.nt
 nt2:τ.nt<=E.ntmps+E.ngh
 nr:τ.nr=br+len
 le:s0.nr<=br
 none:∀ r,s0.nr<=r->r<br->τ.get (kR r)=none
 wf:∀ k c,τ.get k=some c->oZ τ s0.nr k (some c)=true
theorem wX {E:Env}{s0:St}{br len:Nat}{τ:St}(h:Bar E s0 br len τ=true):wS E s0 br len τ:=by
 simp only[Bar,Obh,Ob4,Pbn]at h;obtain⟨⟨⟨⟨⟨⟨h1,h2⟩,h3⟩,h4⟩,h5⟩,h6⟩,h7⟩:=h
 have lb:∀ r,s0.nr<=r->r<br->τ.get (kR r)=Option.none:=fun r ha hb =>
  Had h6 _ (List.mem_map.2 ⟨r,mem_range.2 ⟨ha,by omega⟩,rfl⟩)
 refine⟨h1,h2,h3,h4,h5,lb,fun k c hk=>?_⟩
 have:k∈(range 0 τ.nt).map kT++(range 0 τ.nb).map kB++((range 0 s0.nr++range br len).map kR):=by
  rcases xG hk with ⟨t,rfl,ht⟩|⟨b,rfl,hb⟩|⟨r,rfl,hr⟩
  ·exact Obi _ (Obi _ (List.mem_map.2 ⟨t,mem_range.2 ⟨by omega,by omega⟩,rfl⟩))
  ·exact Obi _ (Obk _ (List.mem_map.2 ⟨b,mem_range.2 ⟨by omega,by omega⟩,rfl⟩))
  ·refine Obk _ (List.mem_map.2 ⟨r,?_,rfl⟩)
   rcases Ob2 r s0.nr with h8|h8
   ·exact Obi _ (mem_range.2 ⟨by omega,by omega⟩)
   ·rcases Ob2 r br with h9|h9
    ·rw[lb r h8 h9]at hk;cases hk
    ·exact Obk _ (mem_range.2 ⟨h9,by omega⟩)
 have:=Aaq h7 k this;rw[hk]at this;exact this
theorem qQ {τ:St}{dT k:Nat}{c:aN}(h:oZ τ dT k (some c)=true):bP τ.nv c=true:=by
 simp only[oZ,Obh]at h;exact h.1
theorem wS.inScope {E:Env}{s0:St}{br len:Nat}{τ:St}(h:wS E s0 br len τ):wT τ.get τ.nv:=fun k c hk=>qQ (h.wf k c hk)
theorem Jai {n:Nat}{xs:List aI}{br cR:Nat}{x:aI}{m v:Nat}{st:RSt}{c:Option aN}(h:bQ n xs br cR (some (.root x m v st)) c=true) :
  st=.gone\/∃ x',c=some (.root x' m v st)/\Kae n xs x=x':=by
 cases st with
 |gone=>exact .inl rfl
 | _ =>
  right
  cases c with
  |none=>simp[bQ]at h
  | some c =>
   cases c with
   | root x' m' v' sT =>
    simp only[bQ,Obh,Ob4,yN,decide_eq_true_eq]at h;exact⟨x',by rw[h.1.1.1,h.1.1.2,h.1.2],aI.beq0_eq h.2⟩
   |_=>simp[bQ]at h
theorem Mak {n:Nat}{xs:List aI}{br cR:Nat}{l:aM}{c:Option aN}(h:bQ n xs br cR (some (.slot none (.one l))) c=true) :
  ∃ b,c=some (.slot none (.one b))/\vJ (l.sub n xs br cR) b=true:=by
 cases c with
 |none=>simp[bQ]at h
 | some c =>
  cases c with
  | slot g v =>
   cases g with
   |some g=>simp[bQ]at h
   |none=>cases v<;>first | exact⟨_,rfl,by simpa[bQ] using h⟩ | simp[bQ]at h
  |_=>simp[bQ]at h
theorem Mal {n:Nat}{xs:List aI}{br cR:Nat}{l:List aM}{c:Option aN}(h:bQ n xs br cR (some (.slot none (.agg l))) c=true) :
  ∃ b,c=some (.slot none (.agg b))/\dM (gG n xs br cR l) b=true:=by
 cases c with
 |none=>simp[bQ]at h
 | some c =>
  cases c with
  | slot g v =>
   cases g with
   |some g=>simp[bQ]at h
   |none=>cases v<;>first | exact⟨_,rfl,by simpa[bQ] using h⟩ | simp[bQ]at h
  |_=>simp[bQ]at h
theorem Cah {n:Nat}{xs:List aI}{br cR:Nat}{ro:Bool}{l:List aM}{c:Option aN}(h:bQ n xs br cR (some (.box ro l)) c=true) :
  ∃ b,c=some (.box ro b)/\dM (gG n xs br cR l) b=true:=by
 cases c with
 |none=>simp[bQ]at h
 | some c =>
  cases c with
  | box kc b =>
   simp only[bQ,Obh,beq_iff_eq]at h;exact⟨b,by rw[h.1],h.2⟩
  |_=>simp[bQ]at h
theorem Za2 (t:Nat):kT t % 3=0:=by unfold kT;omega
theorem Lam (t:Nat):kB t % 3=1:=by unfold kB;omega
theorem Lal (t:Nat):kR t % 3=2:=by unfold kR;omega
theorem Ia3 {s:St}{k:Nat}{c:aN}(h:s.get k=some c)(hm:Nat.beq (k % 3) 0=true):∃ t,k=kT t/\t<s.nt:=by
 rw[Ob4]at hm
 rcases xG h with h|⟨b,rfl,hb⟩|⟨r,rfl,hr⟩
 ·exact h
 ·rw[Lam]at hm;omega
 ·rw[Lal]at hm;omega
theorem Bbf {s:St}{k:Nat}{c:aN}(h:s.get k=some c)(hm:Nat.beq (k % 3) 1=true):∃ t,k=kB t/\t<s.nb:=by
 rw[Ob4]at hm
 rcases xG h with ⟨b,rfl,hb⟩|h|⟨r,rfl,hr⟩
 ·rw[Za2]at hm;omega
 ·exact h
 ·rw[Lal]at hm;omega
theorem Yah {s:St}{k:Nat}{c:aN}(h:s.get k=some c)(hm:Nat.beq (k % 3) 2=true):∃ t,k=kR t/\t<s.nr:=by
 rw[Ob4]at hm
 rcases xG h with ⟨b,rfl,hb⟩|⟨r,rfl,hr⟩|h
 ·rw[Za2]at hm;omega
 ·rw[Lam]at hm;omega
 ·exact h
theorem R.fit {E:Env}{F:bC}{τ s s0:St}{ρ0 e:List D}{a:Act}{w:World}{G:Gh}{xs:List aI}{br cR len:Nat}
  (hR:R E.ntmps F s.get (ρ0++e) a w G) (hn:ρ0.length=s0.nv) (oX:xs.length=len) (kn:wS E s0 br len τ)
  (eR:lG E s0.nv xs s0.nr br cR len τ s=true) (hle:s0.nr<=cR):∃ G',R E.ntmps F τ.get (ρ0++xs.map (·.val (ρ0++e))) a w G':=by
 simp only[lG,Obh]at eR;obtain⟨hf1,hf2⟩:=eR
 have kb:∀ t,t<τ.nt->bQ s0.nv xs br cR (τ.get (kT t)) (s.get (kT t))=true:=fun t ht =>
  qI hf1 _ (Obi _ (List.mem_map.2 ⟨t,mem_range.2 ⟨by omega,by have:=kn.nt2;omega⟩,rfl⟩))
 have oE:∀ b,b<τ.nb->bQ s0.nv xs br cR (τ.get (kB b)) (s.get (kB b))=true:=fun b hb =>
  qI hf1 _ (Obk _ (List.mem_map.2 ⟨b,mem_range.2 ⟨by omega,by omega⟩,rfl⟩))
 have eA:∀ r,r<s0.nr\/(br<=r/\r<br+len)->bQ s0.nv xs br cR (τ.get (kR r)) (s.get (kR (Pab br cR r)))=true:=fun r hr =>
  zS hf2 r (by
   rcases hr with hr|hr
   ·exact Obi _ (mem_range.2 ⟨by omega,by omega⟩)
   ·exact Obk _ (mem_range.2 hr))
 have hrk:∀ r c,τ.get (kR r)=some c->r<s0.nr\/(br<=r/\r<br+len):=by
  intro r c hk
  rcases xG hk with ⟨t,e,_⟩|⟨t,e,_⟩|⟨r',e,hr⟩
  ·exact absurd e.symm gW
  ·exact absurd e.symm dZ
  ·obtain rfl:=dW e
   rw[kn.nr]at hr
   rcases Ob2 r s0.nr with h1|h1
   ·exact .inl h1
   ·rcases Ob2 r br with h2|h2
    ·rw[kn.none r h1 h2]at hk;cases hk
    ·exact .inr ⟨h2,hr⟩
 have mB:∀ r x m v st,τ.get (kR r)=some (.root x m v st)->st=.live\/st=.frozen->∃ x',s.get (kR (Pab br cR r))=some (.root x' m v st)/\Kae s0.nv xs x=x':=by
  intro r x m v st hk ba;have h1:=eA r (hrk r _ hk);rw[hk]at h1
  rcases Jai h1 with h2|h2
  ·rw[h2]at ba
   rcases ba with h|h<;>cases h
  ·exact h2
 let ρs:=ρ0++e
 let G':Gh:={ own:=fun b=>rW s0.nr cR br (G.own b),hdr:=fun r=>G.hdr (Pab br cR r),bx:=G.bx }
 have j9:∀ x,aX τ.nv x=true->x.val (ρ0++xs.map (·.val ρs))=(Kae s0.nv xs x).val ρs:=by
  intro x hx
  cases x with
  |c d=>rfl
  | v i =>
   simp only[aX,Pbf]at hx;rw[kn.nv]at hx;simp only[Kae]
   cases hb:Pbs i s0.nv with
   | true =>
    simp only[Pbf]at hb;simp only[cond_true,aI.val,Obo,ρs];rw[Obx (by omega),Obx (by omega)]
   | false =>
    have ma:s0.nv<=i:=by
     rcases Ob2 i s0.nv with h|h
     ·rw[<- Pbf,hb]at h;cases h
     ·exact h
    simp only[cond_false];have ar:i-s0.nv<xs.length:=by omega
    rw[Obo,Obl ar,Pb4];simp only[aI.val,Obo];rw[List.getElem?_append_right (by omega),List.getElem?_map,hn,Obl ar];rfl
 have H:Wah τ s.get (ρ0++xs.map (·.val ρs)) ρs G' G τ.nv s0.nv xs br cR s0.nr:=by
  refine⟨j9,kn.le,hle,fun _=>rfl,fun _=>rfl,rfl,fun r k hr hv=>?_,fun r k m hr hv=>?_⟩
  ·obtain⟨x,m,st,hk,ba⟩:=hv
   obtain⟨x',h1,-⟩:=mB r x m k st hk ba;rw[pQ (by have:=kn.le;omega)]at h1;exact⟨x',m,st,h1,ba⟩
  ·obtain⟨x,hk⟩:=hv
   obtain⟨x',h1,-⟩:=mB r x m k .live hk (.inl rfl);rw[pQ (by have:=kn.le;omega)]at h1;exact⟨x',h1⟩
 refine⟨G',hR.tmps,hR.defers,fun k c hk=>?_,?_,fun b ls hk hb ho=>?_⟩
 ·have kr:=kn.wf k c hk
  have jl:=qQ kr
  cases c with
  | slot g v =>
   cases g with
   |some g=>simp[oZ]at kr
   | none =>
    cases v with
    | dead =>
     simp only[oZ,Obh]at kr;obtain⟨t,rfl,ht⟩:=Ia3 hk kr.2;exact⟨t,rfl,fun _=>trivial⟩
    | one l =>
     simp only[oZ,Obh]at kr;obtain⟨t,rfl,ht⟩:=Ia3 hk kr.2.1;refine⟨t,rfl,fun _=>?_⟩;have h1:=kb t ht;rw[hk]at h1;obtain⟨b,h2,h3⟩:=Mak h1;have h4:aB s.get ρs G w b _:=hR.slot h2 rfl;simp only[bP,uX,Obh]at jl;exact aB.fit H l _ jl.2 kr.2.2 (tO h3 h4)
    | agg ls =>
     simp only[oZ,Obh]at kr;obtain⟨t,rfl,ht⟩:=Ia3 hk kr.2.1;refine⟨t,rfl,fun _=>?_⟩;have h1:=kb t ht;rw[hk]at h1;obtain⟨b,h2,h3⟩:=Mal h1;obtain⟨vs,h4,h5⟩:bR s.get ρs G w (.agg b) _:=hR.slot h2 rfl;simp only[bP,uX,Obh]at jl;exact⟨vs,h4,aG.fit H ls _ jl.2 kr.2.2 (zD h3 h5)⟩
    |tup ts=>simp[oZ]at kr
  | box ro ls =>
   simp only[oZ,Obh]at kr;obtain⟨b,rfl,hb⟩:=Bbf hk kr.2.1;have h1:=oE b hb;rw[hk]at h1;obtain⟨bs,h2,h3⟩:=Cah h1;obtain⟨h4,h5,h6⟩:=hR.box h2;refine⟨b,rfl,h4,?_,fun j l hj=>?_⟩
   ·show rW _ _ _ _=_
    rw[h5];cases ro<;>rfl
   ·obtain⟨m,h7,h8⟩:=zG h3 (zC hj)
    obtain⟨v,h9,b9,da⟩:=h6 j m h7;simp only[bP]at jl;exact⟨v,h9,b9,aB.fit H l v (lD jl hj) (Ba3 kr.2.2 hj) (tO h8 da)⟩
  | root x m aE st =>
   have hm:Nat.beq (k % 3) 2=true:=by
    cases st<;>simp only[oZ,Obh]at kr<;>first|exact kr.2|(exact absurd kr.2 (by decide))
   obtain⟨r,rfl,hr⟩:=Yah hk hm;have s9:=hrk r _ hk;refine⟨r,rfl,by rw[hk];rfl,?_⟩;simp only[bP]at jl;have a2k:r<s0.nr\/br<=r:=s9.imp id (·.1)
   cases st with
   | live =>
    obtain⟨x',h1,h2⟩:=mB r x m aE .live hk (.inl rfl);have h3:=hR.root h1;simp only[bK]at h3 ⊢;rw[j9 x jl,h2]
    have:=h3.mono (own':=G'.own) (w':=w) (q:=[]) (q':=[]) (r':=r) (fun b hb=>⟨H.frz hb,rfl⟩) [] rfl (fun b t hb=>⟨by
     show rW _ _ _ _=_
     rw[hb];exact Ea7 kn.le hle a2k,rfl⟩)
    simpa using this
   | frozen =>
    obtain⟨x',h1,h2⟩:=mB r x m aE .frozen hk (.inr rfl);obtain⟨h3,h4⟩:=hR.root h1;simp only[bK];rw[j9 x jl,h2];refine⟨h3.mono fun b hb=>⟨H.frz hb,rfl⟩,fun b p hb=>?_⟩;exact h4 b p (Ra4 kn.le hb)
   |gone=>trivial
   |fwd r'=>simp[oZ]at kr
 ·refine⟨hR.frame.os,hR.frame.tape,hR.frame.output,hR.frame.size,fun b hb ho=>?_,fun b j hb ho=>?_,fun b hb=>?_⟩
  ·obtain⟨h1,h2⟩:=hR.frame.keep b hb ho
   refine⟨h1,?_⟩;show rW _ _ _ _=_
   rw[h2]
   rcases ho with ho|ho<;>rw[ho]<;>rfl
  ·obtain⟨h1,h2⟩:=hR.frame.boxes b j hb ho
   refine⟨?_,h2⟩;show rW _ _ _ _=_
   rw[h1];rfl
  ·show rW _ _ _ _=_
   rw[hR.frame.fresh b hb];rfl
 ·have h1:=oE b (by
   rcases xG hk with ⟨t,e,_⟩|⟨t,e,ht⟩|⟨r',e,hr⟩
   ·exact absurd e.symm kD
   ·obtain rfl:=zL e;exact ht
   ·exact absurd e dZ)
  rw[hk]at h1;obtain⟨bs,h2,h3⟩:=Cah h1;have h4:=hR.rng b bs h2 hb ho;rw[h4,<- zF h3,zB]
def Ta7 (draw:Bool)(s:St)(r:bI):St:={ (s.puts r.upd) with nv:=s.nv+bD r.lets,nb:=s.nb+1,nr:=Oas draw s.nr r.upd }
inductive Jaw (E:Env) (draw:Bool) (jh:Nat) (ops:List Oper):Nat->List Oper->St->List OpI->St->Prop
 |nil (i:Nat) (s:St):Jaw E draw jh ops i [] s [] s
 | cons {i : Nat} {o : Oper} {os : List Oper} {s : St} {g : Option (aI × Bool)} {r : bI} {log : List Nat} {is : List OpI} {s' : St} (mv cL : Bool)
   (h1:(jW E ops mv cL s.nv s.nb s.nr o).run s.get=some ((g,r),log)) (h2:Yaa s g r=true)
   (h3:Jaw E draw jh ops (i+1) os (Ta7 draw s r) is s'):Jaw E draw jh ops i (o::os) s (⟨g,r,log,s.nb,s.nr⟩::is) s'
theorem Daw {E:Env}{draw:Bool}{jh:Nat}{ops:List Oper}:∀ {os:List Oper} {i:Nat} {s:St} {acc is:List OpI} {s':St},Sa8 E draw jh ops i os s acc=.inl (is,s') ->
  ∃ js,is=acc.reverse++js/\Jaw E draw jh ops i os s js s'
 | [], i, s, acc, is, s', h => by
  simp only[Sa8,Sum.inl.injEq,Prod.mk.injEq]at h;obtain⟨rfl,rfl⟩:=h;exact⟨[],by simp,.nil i s⟩
 | o :: os, i, s, acc, is, s', h => by
  simp only[Sa8]at h;split at h
  ·rename_i g r log bf
   cases qx:Yaa s g r with
   |false=>rw[qx]at h;simp at h
   | true =>
    rw[qx]at h;simp only[Pb5,cond_false]at h;obtain⟨js,h1,h2⟩:=Daw h;exact⟨⟨g,r,log,s.nb,s.nr⟩::js,by rw[h1];simp,.cons _ _ bf qx h2⟩
  ·cases h
structure Aak (E:Env) (s:St):Prop where
 nt:E.ntmps<=s.nt
 sc:wT s.get s.nv
def Jav (cf:Nat->List D->Option (List D))(ρ:List D):Nat->List OpI->Prop
 |_,[]=>True
 |nv,a::r=>aJ cf ρ a.g nv a.res.lets/\Jav cf ρ (nv+bD a.res.lets) r
def xR (P:Program)(E:Env)(F:bC)(cf:Nat->List D->Option (List D)):Prop :=
 ∀ (σ:Nat->Option aN) (ρ:List D) (a:Act) (w:World) (G:Gh) (g:Option (aI×Bool)) (o:Oper) (Q:Exit->Act->World->Prop) (mv cL:Bool) (nv nb nr:Nat) (res:bI) (f:Operand) (args:Array Operand) (argTypes:Array TypeId),
  R E.ntmps F σ ρ a w G->eG E.ntmps o->Aal σ nb nr->o.op=.call { callee:=.value f,args,argTypes } ->
  (nI E mv cL nv nb nr g o).eval σ=some res->res.upd.all (fun x=>vY E.ntmps nb nr x.1)=true->aJ cf ρ g nv res.lets->fV P E F σ ρ a w g o Q res.upd
section
variable {P:Program} {E:Env} {F:bC} {cf:Nat->List D->Option (List D)} {draw:Bool}
theorem Hac {s:St}{g:Option (aI×Bool)}{r:bI}(h:Yaa s g r=true) :
  mR s.nv g=true/\dP s.nv r.lets=true/\r.upd.all (fun x=>bP (s.nv+bD r.lets) x.2)=true:=by
 simp only[Yaa,Obh]at h;exact⟨h.1.1.2,h.1.2,h.2⟩
theorem Iat {ops:List Oper}{mv cL:Bool}{s:St}{o:Oper}{g:Option (aI×Bool)}{r:bI}{log:List Nat}(hi:E.ntmps<=s.nt)
  (h1:(jW E ops mv cL s.nv s.nb s.nr o).run s.get=some ((g,r),log)) (h2:Yaa s g r=true):(Ta7 draw s r).get=upds s.get r.upd:=by
 funext k;exact Xa9 h2 hi (iT (RdM.run_eval h1)).2.2.2 draw _ k
theorem Aak.next {ops:List Oper}{mv cL:Bool}{s:St}{o:Oper}{g:Option (aI×Bool)}{r:bI}{log:List Nat}(hi:Aak E s)
  (h1:(jW E ops mv cL s.nv s.nb s.nr o).run s.get=some ((g,r),log)) (h2:Yaa s g r=true):Aak E (Ta7 draw s r):=by
 refine⟨?_,?_⟩
 ·show E.ntmps<=(s.puts r.upd).nt
  rw[(iA r.upd s).2.2.2];exact hi.nt
 ·rw[Iat hi.nt h1 h2]
  exact hi.sc.upds (Rbc ..) (Hac h2).2.2
theorem Qa3 {jh:Nat}{ops:List Oper}{i:Nat}{os:List Oper}{s s':St}{is:List OpI}(hc:Jaw E draw jh ops i os s is s') :
  ∀ {s'':St} {ρ:List D} {o:Out St},s''.nv=s'.nv->ρ.length=s.nv->Ec cf (Daz (.leaf .fall [] s'') is) ρ=some o ->
  o.kind=.fall/\o.ext=s''/\o.env.length=s'.nv/\(∃ ds,o.env=ρ++ds)/\∀ ext,Jav cf (o.env++ext) s.nv is:=by
 induction hc with
 | nil i s =>
  intro s'' ρ o hv hl h;simp only[Daz,fB,Option.some.injEq]at h;subst h;exact⟨rfl,rfl,hl,⟨[],by simp⟩,fun _=>trivial⟩
 | cons mv cL h1 h2 h3 ih =>
  rename_i i o' os s g r log is s';intro s'' ρ o hv hl h;simp only[Daz]at h;obtain⟨hg,hs,-⟩:=Hac h2;obtain⟨ds,h4,h5,h6⟩:=sK (by rw[hl];exact hg) (by rw[hl];exact hs) h;obtain⟨h7,h8,h9,⟨es,b9⟩,da⟩:=ih hv (by rw[Obv,h4,hl];rfl) h5;refine⟨h7,h8,h9,⟨ds++es,by rw[b9,Obs]⟩,fun ext=>⟨?_,da ext⟩⟩;have:=h6 (es++ext);rw[hl]at this;rw[b9];simpa[Obs] using this
theorem Va3 {jh:Nat}{ops:List Oper}{i:Nat}{os:List Oper}{s s':St}{is:List OpI}(hc:Jaw E draw jh ops i os s is s')(hi:Aak E s):Aak E s':=by
 induction hc with
 |nil i s=>exact hi
 |cons mv cL h1 h2 h3 ih=>exact ih (hi.next h1 h2)
theorem Aak.trim {lo:Nat}{d:Bool}{s:St}(h:Aak E s):Aak E (trimS d lo s) :=
 ⟨by rw[uV.2.2];exact h.nt,by rw[Ja1,uV.1];exact h.sc⟩
theorem Va4 {jh:Nat}{ops:List Oper}{i:Nat}{os:List Oper}{s s':St}{is:List OpI}(hc:Jaw E draw jh ops i os s is s'):∀ o∈os,eG E.ntmps o:=by
 induction hc with
 |nil i s=>simp
 | cons mv cL h1 h2 h3 ih =>
  intro o ho
  rcases List.mem_cons.1 ho with rfl|ho
  ·exact (iT (RdM.run_eval h1)).2.1
  ·exact ih o ho
theorem Ibx (hti:sG P E.ti)(b7:xR P E F cf){ops:Array Oper}(np:∀ o∈ops.toList,eG E.ntmps o){mv cL:Bool}{s:St}{o:Oper}{g:Option (aI×Bool)}{r:bI}{ρ:List D}{a:Act}{w:World}{G:Gh}{Q:Exit->Act->World->Prop}
  {σ:Nat->Option aN} (hf:Aal σ s.nb s.nr)
  (hR:R E.ntmps F σ ρ a w G) (h1:(jW E ops.toList mv cL s.nv s.nb s.nr o).eval σ=some (g,r)) (ba:aJ cf ρ g s.nv r.lets):Cby P E F σ ρ ops o Q r.upd a w:=by
 refine yC hR hti np hf h1 ba fun f args argTypes ho=>?_
 obtain⟨h2,h3,h4,h5⟩:=iT h1;rw[Gas ho]at h4;exact b7 σ ρ a w G g o Q mv cL s.nv s.nb s.nr r f args argTypes hR h3 hf ho h4 h5 ba
theorem Va2 (hti:sG P E.ti)(b7:xR P E F cf){jh:Nat}{ops:Array Oper}(np:∀ o∈ops.toList,eG E.ntmps o){Q:Exit->Act->World->Prop}{i:Nat}{os:List Oper}{s s':St}{is:List OpI}(hc:Jaw E draw jh ops.toList i os s is s') :
  ∀ {ρ:List D} {a:Act} {w:World} {G:Gh},ops.toList.drop i=os->R E.ntmps F s.get ρ a w G->Aak E s->Jav cf ρ s.nv is ->
  (∀ a' w' G',R E.ntmps F s'.get ρ a' w' G'->Q .normal a' w')->wpOps P ops Q (List.range' i os.length) a w:=by
 induction hc with
 | nil i s =>
  intro ρ a w G hdr hR hi ba hQ;exact hQ a w G hR
 | cons mv cL h1 h2 h3 ih =>
  rename_i i o os s g r log is s';intro ρ a w G hdr hR hi ba hQ
  have lA:ops[i]?=some o:=by
   rw[<- Pbv];have:(ops.toList.drop i)[0]?=some o:=by rw[hdr];rfl
   rwa[List.getElem?_drop,Pbb]at this
  rw[Pbm,List.range'_succ,wpOps_cons];unfold wpOp;rw[lA];have eJ:=Ibx (Q:=Q) hti b7 np La0 hR (RdM.run_eval h1) ba.1
  have vz:∀ a w,Nx E.ntmps F s.get ρ r.upd a w->wpOps P ops Q (List.range' (i+1) os.length) a w:=by
   intro a' w' ⟨G',gv⟩;rw[<- Iat hi.nt h1 h2]at gv;exact ih (by rw[<- List.drop_drop,hdr];rfl) gv (hi.next h1 h2) ba.2 hQ
  unfold Cby at eJ;dsimp only;split
  ·rename_i hw
   rw[if_pos hw]at eJ;exact .inl (Oper.wp_mono vz eJ)
  ·rename_i hw
   rw[if_neg hw]at eJ;exact vz _ _ eJ
end
theorem mK {a b:List Nat}(h:meets a b=false){k:Nat}(ha:k∈a):k∉b:=by
 intro hb
 have:meets a b=true:=by
  unfold meets;rw[List.any_eq_true];exact⟨k,ha,kS.2 hb⟩
 rw[h]at this;cases this
theorem Dao {acc:List Nat}:∀ {es:List Edge} {m b:Nat},Qbh (wV acc es m) b=true->Qbh m b=true\/∃ e∈es,Region.binds .any e=true/\(b=e.on\/Qbh (acc.getD e.on 0) b=true)
 |[],m,b,h=>.inl h
 | e :: es, m, b, h => by
  have h':Qbh (wV acc es (bif Region.binds .any e then (m ||| 2 ^ e.on) ||| acc.getD e.on 0 else m)) b=true:=h
  rcases Dao (es:=es) h' with h1|⟨e',z6,h1⟩
  ·cases hb:Region.binds .any e with
   |false=>rw[hb,cond_false]at h1;exact .inl h1
   | true =>
    rw[hb,cond_true]at h1;simp only[Nat.testBit_or,Pbo,Nat.testBit_two_pow,decide_eq_true_eq]at h1
    rcases h1 with (h1|h1)|h1
    ·exact .inl h1
    ·exact .inr ⟨e,Obu,hb,.inl h1.symm⟩
    ·exact .inr ⟨e,Obu,hb,.inr h1⟩
  ·exact .inr ⟨e',Obq _ z6,h1⟩
theorem Dan:∀ {os:List Oper} {acc:List Nat} {i w:Nat},acc[i]?=some w->(waits os acc)[i]?=some w
 |[],_,_,_,h=>h
 | o :: os, acc, i, w, h => by
  refine Dan (os:=os) ?_;rw[Obx (List.getElem?_eq_some_iff.1 h).1];exact h
theorem Ja0:∀ {os:List Oper} {acc:List Nat} {p w:Nat} {o:Oper},os[p]?=some o->(waits os acc)[acc.length+p]?=some w->∀ b,Qbh w b=true ->
  ∃ e∈o.after.toList,Region.binds .any e=true/\(b=e.on\/∃ w',(waits os acc)[e.on]?=some w'/\Qbh w' b=true)
 |[],acc,p,w,o,ho,_,_,_=>by simp at ho
 | o' :: os, acc, 0, w, o, ho, hw, b, hb => by
  simp only[Obn,Option.some.injEq]at ho;subst ho;have h1:(acc++[wV acc o'.after.toList 0])[acc.length]?=some (wV acc o'.after.toList 0):=by simp
  have h2:=Dan (os:=os) h1;simp only[waits,Pbb]at hw;rw[h2]at hw;obtain rfl:=Option.some.inj hw
  rcases Dao hb with h3|⟨e,he,h4,h5⟩
  ·simp at h3
  ·refine⟨e,he,h4,h5.imp id fun h6=>?_⟩
   rw[Obo]at h6
   cases ha:acc[e.on]? with
   |none=>rw[ha]at h6;simp at h6
   | some w' =>
    rw[ha,Pb4]at h6;have ar:=(List.getElem?_eq_some_iff.1 ha).1;exact⟨w',Dan (os:=os) (by rw[Obx ar];exact ha),h6⟩
 | o' :: os, acc, p + 1, w, o, ho, hw, b, hb => by
  have:=Ja0 (os:=os) (acc:=acc++[wV acc o'.after.toList 0]) (p:=p) (w:=w) (o:=o) (by simpa using ho) (by
   simp only[Obv,List.length_singleton];simp only[waits]at hw;rw[<- hw];congr 1
   omega) b hb
  exact this
theorem Ba7 {a:OpI}{i:Nat}:∀ {bs:List OpI} {ws:List Nat},zO a i bs ws=true->∀ {q:Nat} {b:OpI},bs[q]?=some b->∃ w,ws[q]?=some w/\(Qbh w i=true\/nU a b=true)
 |[],_,_,q,b,h=>by simp at h
 |_::_,[],h,_,_,_=>by simp[zO]at h
 | b :: bs, w :: ws, h, q, b', hq => by
  simp only[zO,Obh,Pbo]at h
  cases q with
  | zero =>
   simp only[Obn,Option.some.injEq]at hq;subst hq;exact⟨w,rfl,h.1⟩
  |succ q=>exact Ba7 h.2 (by simpa using hq)
theorem yU:∀ {is:List OpI} {ws:List Nat} {i:Nat},sZ is ws i=true->∀ {p q:Nat} {a b:OpI},p<q->is[p]?=some a->is[q]?=some b ->
  ∃ w,ws[q]?=some w/\(Qbh w (i+p)=true\/nU a b=true)
 |[],_,_,_,p,q,a,b,_,hp,_=>by simp at hp
 | x :: is, ws, i, h, p, q, a, b, hpq, hp, hq => by
  simp only[sZ,Obh]at h
  cases q with
  |zero=>omega
  | succ q =>
   cases p with
   | zero =>
    simp only[Obn,Option.some.injEq]at hp;subst hp;obtain⟨w,h1,h2⟩:=Ba7 h.1 (q:=q) (by simpa using hq);exact⟨w,by rw[List.getElem?_tail]at h1;exact h1,h2⟩
   | succ p =>
    obtain⟨w,h1,h2⟩:=yU h.2 (p:=p) (q:=q) (by omega) (by simpa using hp) (by simpa using hq);exact⟨w,by rw[List.getElem?_tail]at h1;exact h1,by rw[show i+(p+1)=i+1+p by omega];exact h2⟩
theorem Cae:∀ {os:List Oper} {i:Nat},Aaa os i=true->∀ {p:Nat} {o:Oper},os[p]?=some o->∀ e∈o.after.toList,Region.binds .any e=true->e.on<i+p
 |[],_,_,p,o,h,_,_,_=>by simp at h
 | x :: os, i, h, p, o, hp, e, he, hb => by
  simp only[Aaa,Obh,Ob8,Pbo,Ob6,Pbf]at h
  cases p with
  | zero =>
   simp only[Obn,Option.some.injEq]at hp;subst hp
   rcases h.1 e he with h1|h1
   ·rw[hb]at h1;cases h1
   ·omega
  | succ p =>
   have:=Cae h.2 (p:=p) (by simpa using hp) e he hb;omega
def sig (D:Nat->Bool):Nat->List OpI->(Nat->Option aN)->Nat->Option aN
 |_,[],σ=>σ
 |i,a::r,σ=>sig D (i+1) r (bif D i then upds σ a.res.upd else σ)
def Wr (a:OpI)(k:Nat):Prop:=∃ c,(k,c)∈a.res.upd
theorem Ha6 {a:OpI}{σ:Nat->Option aN}{k:Nat}(h:¬ Wr a k):upds σ a.res.upd k=σ k:=dU _ _ _ fun c hc=>h ⟨c,hc⟩
theorem yF {D D':Nat->Bool}{k:Nat}:∀ {is:List OpI} {i:Nat} {σ db:Nat->Option aN},(∀ p a,is[p]?=some a->Wr a k->D (i+p)=D' (i+p))->σ k=db k->sig D i is σ k=sig D' i is db k
 |[],i,σ,db,_,h=>h
 | a :: r, i, σ, db, hd, h => by
  simp only[sig];refine yF (fun p b hb hw=>?_) ?_
  ·have:=hd (p+1) b (by simpa using hb) hw
   rw[show i+(p+1)=i+1+p by omega]at this;exact this
  ·by_cases hw:Wr a k
   ·have:=hd 0 a rfl hw
    rw[Pbb]at this;rw[this]
    cases D' i with
    |false=>exact h
    |true=>exact oG _ _ _ _ h
   ·have e:∀ (x:Bool) (τ:Nat->Option aN),(bif x then upds τ a.res.upd else τ) k=τ k:=by
     intro x τ
     cases x with
     |false=>rfl
     |true=>exact Ha6 hw
    rw[e,e];exact h
theorem sN {D:Nat->Bool}{k:Nat}:∀ {is:List OpI} {i:Nat} {σ:Nat->Option aN},(∀ p a,is[p]?=some a->Wr a k->D (i+p)=false)->sig D i is σ k=σ k
 |[],i,σ,_=>rfl
 | a :: r, i, σ, hd => by
  simp only[sig]
  rw[sN fun p b hb hw=>by
   have:=hd (p+1) b (by simpa using hb) hw;rw[show i+(p+1)=i+1+p by omega]at this;exact this]
  by_cases hw:Wr a k
  ·have:=hd 0 a rfl hw
   rw[Pbb]at this;rw[this];rfl
  ·cases D i with
   |false=>rfl
   |true=>exact Ha6 hw
theorem Pag {D:Nat->Bool}{k:Nat}:∀ {is:List OpI} {i p:Nat} {a:OpI} {σ τ:Nat->Option aN},is[p]?=some a->D (i+p)=true->Wr a k->(∀ q b,p<q->is[q]?=some b->Wr b k->D (i+q)=false) ->
  sig D i is σ k=upds τ a.res.upd k
 |[],i,p,a,σ,τ,hp,_,_,_=>by simp at hp
 | x :: r, i, 0, a, σ, τ, hp, hD, hw, hq => by
  simp only[Obn,Option.some.injEq]at hp;subst hp;rw[Pbb]at hD;simp only[sig]
  rw[sN fun q b hb yh=>by
   have:=hq (q+1) b (by omega) (by simpa using hb) yh;rw[show i+(q+1)=i+1+q by omega]at this;exact this,hD,cond_true]
  exact Caz _ _ _ _ hw
 | x :: r, i, p + 1, a, σ, τ, hp, hD, hw, hq => by
  simp only[sig];refine Pag (p:=p) (by simpa using hp) (by rw[show i+1+p=i+(p+1) by omega];exact hD) hw fun q b hpq hb yh=>?_
  have:=hq (q+1) b (by omega) (by simpa using hb) yh;rw[show i+(q+1)=i+1+q by omega]at this;exact this
section
variable {P:Program} {E:Env} {F:bC} {cf:Nat->List D->Option (List D)}
theorem Paf {D:Nat->Bool}{is:List OpI}{i:Nat}{σ:Nat->Option aN}(h:∀ q,i<=q->D q=false):sig D i is σ=σ :=
 funext fun k=>sN fun p a _ _=>h _ (Rbc ..)
structure At (E:Env) (ops:List Oper) (cf:Nat->List D->Option (List D)) (ρ:List D) (σ0:Nat->Option aN) (i0:Nat) (is:List OpI) (p:Nat) (o:Oper) (a:OpI) (s0:St):Prop where
 run:∃ mv cL nv,(jW E ops mv cL nv a.nb a.nr o).run (sig (fun q=>decide (q<i0+p)) i0 is σ0)=some ((a.g,a.res),a.log)/\aJ cf ρ a.g nv a.res.lets
 nb:a.nb=s0.nb+p
 nr:a.nr=s0.nr+bN*p
theorem Zad {jh:Nat}{ops:List Oper}{i:Nat}{os:List Oper}{s s':St}{is:List OpI}(hc:Jaw E true jh ops i os s is s') :
  ∀ {ρ:List D},Aak E s->Jav cf ρ s.nv is->is.length=os.length/\s'.get=sig (fun _=>true) i is s.get/\∀ p o,os[p]?=some o->∃ a,is[p]?=some a/\At E ops cf ρ s.get i is p o a s:=by
 induction hc with
 |nil i s=>exact fun _ _=>⟨rfl,rfl,by simp⟩
 | cons mv cL h1 h2 h3 ih =>
  rename_i i o os s g r log is s';intro ρ hi ba;obtain⟨h4,h5,h6⟩:=ih (hi.next h1 h2) ba.2;have hg:=Iat (draw:=true) hi.nt h1 h2;refine⟨by simp[h4],?_,fun p o' hp=>?_⟩
  ·rw[h5,hg];rfl
  ·cases p with
   | zero =>
    simp only[Obn,Option.some.injEq]at hp;subst hp;refine⟨_,rfl,⟨mv,cL,s.nv,?_,ba.1⟩,rfl,rfl⟩;rw[Pbb,Paf fun q hq=>by simpa using hq];exact h1
   | succ p =>
    obtain⟨a,h7,h8⟩:=h6 p o' (by simpa using hp);refine⟨a,by simpa using h7,?_,?_,?_⟩
    ·obtain⟨mv',a1g,nv',h9,b9⟩:=h8.run
     refine⟨mv',a1g,nv',?_,b9⟩;simp only[sig];have:(decide (i<i+(p+1)):Bool)=true:=by simp
     rw[this,cond_true,<- hg,show i+(p+1)=i+1+p by omega];exact h9
    ·rw[h8.nb];show s.nb+1+p=_;omega
    ·rw[h8.nr]
     show s.nr+bN+bN*p=_
     rw[Nat.mul_succ];omega
theorem Pa2 {a:OpI}{n nb nr k:Nat}(h:a.res.upd.all (fun x=>vY n nb nr x.1)=true)(hw:Wr a k):vY n nb nr k=true:=by
 obtain⟨c,hc⟩:=hw;rw[Ob8]at h;exact h _ hc
theorem Uap {n nb nr b:Nat}(h:vY n nb nr (kB b)=true):b<=nb:=by
 unfold vY at h;rw[Lam]at h;have:kB b / 3=b:=by unfold kB;omega
 rw[this]at h;simpa using h
theorem Aa7 {n nb nr r:Nat}(h:vY n nb nr (kR r)=true):r<nr+bN:=by
 unfold vY at h;rw[Lal]at h;have:kR r / 3=r:=by unfold kR;omega
 rw[this]at h;simpa using h
structure Abg (E:Env) (ops:Array Oper) (cf:Nat->List D->Option (List D)) (ρ:List D) (s:St) (is:List OpI):Prop where
 len:is.length=ops.size
 at_:∀ p o,ops.toList[p]?=some o->∃ a,is[p]?=some a/\At E ops.toList cf ρ s.get 0 is p o a s
 free:∀ p q a b,p<q->is[p]?=some a->is[q]?=some b->(∃ w,(waits ops.toList [])[q]?=some w/\Qbh w p=true)\/nU a b=true
 low:∀ p o,ops.toList[p]?=some o->∀ e∈o.after.toList,Region.binds .any e=true->e.on<p
 dst:∀ o∈ops.toList,eG E.ntmps o
def dn (l:Array Bool)(q:Nat):Bool:=l.getD q false
def Closed (ops:Array Oper)(l:Array Bool):Prop:=∀ q w p,dn l q=true->(waits ops.toList [])[q]?=some w->Qbh w p=true->dn l p=true
theorem apart_spec {a b:OpI}(h:nU a b=true):(∀ k,Wr a k->k∉b.log)/\(∀ k,Wr a k->¬ Wr b k)/\(∀ k,k∈a.log->¬ Wr b k)/\∀ k,Wr b k->Jaa a k=false:=by
 simp only[nU,Obh,Ob6]at h;obtain⟨⟨⟨h1,h2⟩,h3⟩,h4⟩:=h
 have key:∀ {x:OpI} {k:Nat},Wr x k↔k∈x.res.upd.map (·.1):=by
  intro x k;simp only[List.mem_map];constructor
  ·rintro⟨c,hc⟩;exact⟨_,hc,rfl⟩
  ·rintro⟨⟨k',c⟩,hc,rfl⟩;exact⟨c,hc⟩
 refine⟨fun k hk=>mK h1 (key.1 hk),fun k hk hb=>mK h2 (key.1 hk) (key.1 hb),fun k hk hb=>mK h3 hk (key.1 hb),fun k hk=>?_⟩;rw[List.any_eq_false]at h4;simpa using h4 k (key.1 hk)
theorem Oao:∀ {l:List Bool} {i:Nat},l[i]?=some false->(l.set i true).count false+1=l.count false
 |[],i,h=>by simp at h
 | b :: l, 0, h => by
  simp only[Obn,Option.some.injEq]at h;subst h;simp
 | b :: l, i + 1, h => by
  have:=Oao (l:=l) (i:=i) (by simpa using h);simp only[List.set_cons_succ,List.count_cons];omega
theorem Ga2 {ops:Array Oper}{l:Array Bool}{i:Nat}(hl:l.size=ops.size)(h:i∈Region.ready .any ops l) :
  ∃ o,ops[i]?=some o/\l[i]?=some false/\∀ e∈o.after.toList,Region.binds .any e=true->dn l e.on=true:=by
 unfold Region.ready at h;rw[Qb1,Rbb]at h;obtain⟨h1,h2⟩:=h;simp only[Obh,Ob6]at h2;have ho:ops[i]?=some ops[i]:=Pbd h1;rw[ho,Pbj,Pb4]at h2;refine⟨_,ho,?_,fun e he hb=>?_⟩
 ·have h3:=h2.1
  rw[Pbh]at h3;have ar:i<l.size:=by omega
  rw[Pbd ar,Pb4]at h3;rw[Pbd ar,h3]
 ·have h3:=h2.2
  rw[<- Array.all_toList,Ob8]at h3;have:=h3 e he;rw[hb]at this;simpa[dn] using this
theorem ready_nil {ops:Array Oper}{l:Array Bool}(hl:l.size=ops.size)(a5l:∀ p o,ops.toList[p]?=some o->∀ e∈o.after.toList,Region.binds .any e=true->e.on<p)
  (h:Region.ready .any ops l=[]):∀ q,q<ops.size->dn l q=true:=by
 intro q
 induction q using Nat.strongRecOn with
 | _ q ih =>
  intro hq
  cases hd:dn l q with
  |true=>rfl
  | false =>
   exfalso;have ho:ops[q]?=some ops[q]:=Pbd hq
   have:q∈Region.ready .any ops l:=by
    unfold Region.ready;rw[Qb1,Rbb];refine⟨hq,?_⟩;simp only[Obh,Ob6];refine⟨?_,?_⟩
    ·have ar:q<l.size:=by omega
     unfold dn at hd;rw[Pbh,Pbd ar,Pb4]at hd ⊢;exact hd
    ·rw[ho,Pbj,Pb4,<- Array.all_toList,Ob8]
     intro e he
     cases hb:Region.binds .any e with
     |false=>rfl
     | true =>
      have ar:=a5l q _ (by rw[Pbv];exact ho) e he hb;have:=ih e.on ar (by omega);simpa[dn] using this
   rw[h]at this;simp at this
theorem Qaf {l:Array Bool}{i:Nat}(hi:i<l.size)(q:Nat):dn (l.setIfInBounds i true) q=(decide (q=i)||dn l q):=by
 unfold dn;rw[Pbh,Pbh,Array.getElem?_setIfInBounds];by_cases h:i=q
 ·subst h
  simp[hi]
 ·rw[if_neg h]
  have:(decide (q=i):Bool)=false:=by simp;exact fun e=>h e.symm
  rw[this,Qbd]
theorem Yaz (hti:sG P E.ti)(b7:xR P E F cf){ops:Array Oper}{s:St}{is:List OpI}{ρ:List D}(hd:Abg E ops cf ρ s is){Q:Exit->Act->World->Prop}
  (hQ:∀ a' w' G',R E.ntmps F (sig (fun _=>true) 0 is s.get) ρ a' w' G'->Q .normal a' w') :
  ∀ (fuel:Nat) (l:Array Bool) (a:Act) (w:World) (G:Gh),l.size=ops.size->l.toList.count false<=fuel->Closed ops l->R E.ntmps F (sig (dn l) 0 is s.get) ρ a w G ->
  wpAny P .any ops Q fuel l a w:=by
 have um:∀ (l:Array Bool) (a:Act) (w:World) (G:Gh),l.size=ops.size->R E.ntmps F (sig (dn l) 0 is s.get) ρ a w G->Region.ready .any ops l=[]->Q .normal a w:=by
  intro l a w G hl hR hr;have cD:=ready_nil hl hd.low hr;refine hQ a w G ?_
  have:sig (fun _=>true) 0 is s.get=sig (dn l) 0 is s.get:=by
   funext k;refine yF (fun p a hp _=>?_) rfl;have ar:=(List.getElem?_eq_some_iff.1 hp).1;rw[hd.len]at ar;rw[cD _ (by omega)]
  rw[this];exact hR
 intro fuel
 induction fuel with
 | zero =>
  intro l a w G hl tl ju hR
  have fx:Region.ready .any ops l=[]:=by
   cases hr:Region.ready .any ops l with
   |nil=>rfl
   | cons i r =>
    exfalso;obtain⟨o,h1,h2,h3⟩:=Ga2 hl (by rw[hr];exact Obu:i∈Region.ready .any ops l);rw[<- Pbv]at h2;have:=Oao h2;omega
  exact⟨fx,um l a w G hl hR fx⟩
 | succ fuel ih =>
  intro l a w G hl tl ju hR;refine⟨um l a w G hl hR,fun i hi=>?_⟩;obtain⟨o,ho,ye,rm⟩:=Ga2 hl hi;have hoL:ops.toList[i]?=some o:=by rw[Pbv];exact ho
  have oh:i<l.size:=by
   rw[<- Pbv]at ye;have:=(List.getElem?_eq_some_iff.1 ye).1;simpa using this
  obtain⟨ai,hai,j9⟩:=hd.at_ i o hoL;obtain⟨mv,cL,nv,bf,ba⟩:=j9.run
  have s6:dn l i=false:=by
   unfold dn;rw[Pbh,ye];rfl
  have vh:∀ w p,(waits ops.toList [])[i]?=some w->Qbh w p=true->dn l p=true:=by
   intro w' p hw hb;obtain⟨e,he,hbe,h1⟩:=Ja0 (acc:=[]) (p:=i) hoL (by simpa using hw) p hb
   rcases h1 with h1|⟨w'',h1,h2⟩
   ·rw[h1];exact rm e he hbe
   ·exact ju e.on w'' p (rm e he hbe) h1 h2
  have tu:∀ p b,p<i->is[p]?=some b->dn l p=false->nU b ai=true:=by
   intro p b hpi hb zm
   rcases hd.free p i b ai hpi hb hai with ⟨w',h1,h2⟩|h
   ·rw[vh w' p h1 h2]at zm;cases zm
   ·exact h
  have kt:∀ q b,i<q->is[q]?=some b->dn l q=true->nU ai b=true:=by
   intro q b hiq hb wo
   rcases hd.free i q ai b hiq hai hb with ⟨w',h1,h2⟩|h
   ·rw[ju q w' i wo h1 h2]at s6;cases s6
   ·exact h
  have a1k:∀ k∈ai.log,sig (dn l) 0 is s.get k=sig (fun q=>decide (q<0+i)) 0 is s.get k:=by
   intro k hk;refine yF (fun p b hb hw=>?_) rfl;rw[Ob9,Ob9]
   rcases Nat.lt_trichotomy p i with h|h|h
   ·have e:(decide (p<i):Bool)=true:=by simpa using h
    rw[e]
    cases hdp:dn l p with
    |true=>rfl
    |false=>exact absurd hk ((apart_spec (tu p b h hb hdp)).1 k hw)
   ·subst h
    rw[s6];simp
   ·have e:(decide (p<i):Bool)=false:=by simp;omega
    rw[e]
    cases hdp:dn l p with
    |false=>rfl
    |true=>exact absurd hw ((apart_spec (kt p b h hb hdp)).2.2.1 k hk)
  have u7:=RdM.run_eval (RdM.run_same bf a1k)
  have kg:∀ (p:Nat) (b:OpI),is[p]?=some b->∃ nv' ,b.res.upd.all (fun x=>vY E.ntmps (s.nb+p) (s.nr+bN*p) x.1)=true/\nv'=nv:=by
   intro p b hb;have ar:=(List.getElem?_eq_some_iff.1 hb).1
   have jn:ops.toList[p]?=some ops.toList[p]!:=by
    rw[List.getElem!_eq_getElem?_getD,Obl (by simpa[<- hd.len] using ar)];rfl
   obtain⟨b',cF,wx⟩:=hd.at_ p _ jn;rw[hb]at cF;obtain rfl:=Option.some.inj cF;obtain⟨mv',a1g,nv',hr',-⟩:=wx.run;have:=(iT (RdM.run_eval hr')).2.2.2;rw[wx.nb,wx.nr]at this;exact⟨nv,this,rfl⟩
  have pS:Aal (sig (dn l) 0 is s.get) ai.nb ai.nr:=by
   have hf:=La0 (s:=s);refine⟨?_,fun j hj1 jc=>?_⟩
   ·rw[sN fun p b hb hw=>?_]
    ·rw[j9.nb]
     unfold St.get rZ kB;have e:(3*(s.nb+i)+1) % 3=1:=by omega
     have e2:(3*(s.nb+i)+1) / 3=s.nb+i:=by omega
     rw[e,e2]
     have:Pbs (s.nb+i) s.nb=false:=by
      cases hb:Pbs (s.nb+i) s.nb with
      |false=>rfl
      |true=>simp only[Pbf]at hb;omega
     rw[this];rfl
    ·rw[Ob9]
     obtain⟨_,hk,-⟩:=kg p b hb;have h1:=Uap (Pa2 hk hw);rw[j9.nb]at h1
     rcases Nat.lt_trichotomy p i with h|h|h
     ·omega
     ·rw[h];exact s6
     ·cases hdp:dn l p with
      |false=>rfl
      | true =>
       have:=(apart_spec (kt p b h hb hdp)).2.2.2 _ hw;unfold Jaa at this;rw[Lam]at this;have e2:kB ai.nb / 3=ai.nb:=by unfold kB;omega
       rw[e2]at this;simp at this
   ·rw[sN fun p b hb hw=>?_]
    ·unfold St.get rZ kR
     have e:(3*j+2) % 3=2:=by omega
     have e2:(3*j+2) / 3=j:=by omega
     rw[e,e2]
     have:Pbs j s.nr=false:=by
      cases hb:Pbs j s.nr with
      |false=>rfl
      |true=>simp only[Pbf]at hb;rw[j9.nr]at hj1;omega
     rw[this];rfl
    ·rw[Ob9]
     obtain⟨_,hk,-⟩:=kg p b hb;have h1:=Aa7 (Pa2 hk hw)
     rcases Nat.lt_trichotomy p i with h|h|h
     ·rw[j9.nr]at hj1
      have:bN*(p+1)<=bN*i:=Nat.mul_le_mul_left _ h;rw[Nat.mul_succ]at this;omega
     ·rw[h];exact s6
     ·cases hdp:dn l p with
      |false=>rfl
      | true =>
       have:=(apart_spec (kt p b h hb hdp)).2.2.2 _ hw;unfold Jaa at this;rw[Lal]at this;have e2:kR j / 3=j:=by unfold kR;omega
       rw[e2]at this;have e3:Nat.ble ai.nr j=true:=by simpa using hj1
       have e4:Pbs j (ai.nr+bN)=true:=by simpa using jc
       rw[e3,e4]at this;simp at this
  have eJ:Cby P E F (sig (dn l) 0 is s.get) ρ ops o Q ai.res.upd a w:=by
   refine yC hR hti hd.dst pS u7 ba fun f args argTypes tk=>?_
   obtain⟨h2,h3,h4,h5⟩:=iT u7;rw[Gas tk]at h4;exact b7 _ ρ a w G ai.g o Q mv cL nv _ _ ai.res f args argTypes hR h3 pS tk h4 h5 ba
  have a1i:sig (dn (l.setIfInBounds i true)) 0 is s.get=upds (sig (dn l) 0 is s.get) ai.res.upd:=by
   funext k;by_cases hw:Wr ai k
   ·refine Pag hai (by rw[Ob9,Qaf oh];simp) hw fun q b hiq hb yh=>?_
    rw[Ob9,Qaf oh];have e:(decide (q=i):Bool)=false:=by simp;omega
    rw[e,Qbd]
    cases wo:dn l q with
    |false=>rfl
    |true=>exact absurd yh ((apart_spec (kt q b hiq hb wo)).2.1 k hw)
   ·rw[Ha6 hw]
    refine yF (fun p b hb yh=>?_) rfl;rw[Ob9,Qaf oh]
    have e:(decide (p=i):Bool)=false:=by
     simp;intro e;subst e;rw[hai]at hb;obtain rfl:=Option.some.inj hb;exact hw yh
    rw[e,Qbd]
  have a3e:Closed ops (l.setIfInBounds i true):=by
   intro q w' p wo hw hb;rw[Qaf oh]at wo ⊢;by_cases e:q=i
   ·subst e
    rw[vh w' p hw hb,Bool.or_true]
   ·have e':(decide (q=i):Bool)=false:=by simp[e]
    rw[e',Qbd]at wo;rw[ju q w' p wo hw hb,Bool.or_true]
  have vz:∀ a w,Nx E.ntmps F (sig (dn l) 0 is s.get) ρ ai.res.upd a w->wpAny P .any ops Q fuel (l.setIfInBounds i true) a w:=by
   intro a' w' ⟨G',gv⟩;rw[<- a1i]at gv;refine ih _ a' w' G' (by simp[hl]) ?_ a3e gv;rw[Array.toList_setIfInBounds];rw[<- Pbv]at ye;have:=Oao ye;omega
  unfold wpOp;rw[ho];unfold Cby at eJ;dsimp only;split
  ·rename_i hw
   rw[if_pos hw]at eJ;exact .inl (Oper.wp_mono vz eJ)
  ·rename_i hw
   rw[if_neg hw]at eJ;exact vz _ _ eJ
end
section
variable {P:Program} {E:Env} {F:bC} {cf:Nat->List D->Option (List D)} {n:Nat} {σ:Nat->Option aN} {ρ:List D} {a:Act} {w:World} {G:Gh}
theorem R.world {w':World}(h:R n F σ ρ a w G)(hh:w'.heap=w.heap)(ho:w'.os=w.os)(ht:w'.tape=w.tape)(hp:w'.output=w.output):R n F σ ρ a w' G:=by
 have dt:Fr σ G w (upds σ []) G w':=by
  refine⟨fun b hb _=>⟨hb,by rw[hh]⟩,fun r k _ h=>h,fun r k h=>h,fun r k b p _ _ h=>⟨.inl h,by rw[hh]⟩,fun r k m _ h=>⟨h,fun b p h=>h⟩,fun _ _=>rfl,fun _ _=>rfl,fun k h=>h,fun _ _ _ _ _ _ _ h=>h⟩
 exact h.upd [] dt h.tmps h.defers ⟨ho.trans h.frame.os,ht.trans h.frame.tape,hp.trans h.frame.output,by rw[hh];exact h.frame.size,
  fun b hb hf=>by rw[hh];exact h.frame.keep b hb hf,fun b j hb hj=>by rw[hh];exact h.frame.boxes b j hb hj,fun b hb=>h.frame.fresh b (by rw[<- hh];exact hb)⟩
  (fun t _=>rfl) (fun b ro ls _ _=>⟨rfl,by rw[hh]⟩) (fun b ls hb=>by simp at hb) (fun k c hk=>by simp at hk)
theorem Kal (hti:sG P E.ti)(b7:xR P E F cf)(hm:P.follows .mixedOrders=true){jh:Nat}{ops:Array Oper}{draw:Bool}{s:St}{o:Out St}
  (h:Ec cf (Ha7 E false jh ops.toList draw s) ρ=some o) (hl:ρ.length=s.nv) (hi:Aak E s) :
  (o.kind=.fall/\o.env.length=o.ext.nv/\Aak E o.ext/\∃ ds,o.env=ρ++ds) /\
  ∀ a w G Q,R E.ntmps F s.get ρ a w G->(∀ a' w' G',R E.ntmps F o.ext.get o.env a' w' G'->Q .normal a' w')->(Code.region jh ops draw).wp P Q a w:=by
 unfold Ha7 at h;split at h
 case h_2=>simp only[cond_false,iI]at h;cases h
 rename_i is s' a3b;obtain⟨js,hjs,hc⟩:=Daw a3b;simp only[List.reverse_nil,Pbp]at hjs;subst hjs;have np:=Va4 hc
 cases hb:(!draw||(Aaa ops.toList 0&&sZ is (waits ops.toList []) 0)) with
 |false=>rw[hb]at h;simp only[cond_false,iI]at h;cases h
 | true =>
  rw[hb,cond_true]at h;obtain⟨h1,h2,h3,⟨ds,h4⟩,h5⟩:=Qa3 hc uV.1 hl h;have s7:=h5 [];rw[Pbc]at s7;refine⟨⟨h1,by rw[h2,uV.1];exact h3,by rw[h2];exact (Va3 hc hi).trim,ds,h4⟩,fun a w G Q hR hQ=>?_⟩;rw[h2,Ja1]at hQ;have gv:R E.ntmps F s.get o.env a w G:=by rw[h4];exact hR.ext hi.sc (by omega) ds
  cases draw with
  | false =>
   refine wp_region ?_;rw[List.range_eq_range'];have:=Va2 hti b7 (ops:=ops) np hc (by simp) gv hi s7 hQ;simpa using this
  | true =>
   simp only[Pb5,Qbd,Obh]at hb;obtain⟨hlen,tq,j9⟩:=Zad (ρ:=o.env) (cf:=cf) hc hi s7;have zd:is.length=ops.size:=by rw[hlen];simp
   have hd:Abg E ops cf o.env s is:=by
    refine⟨zd,j9,fun p q x y hpq hp hq=>?_,fun p o' hp e he hbe=>?_,np⟩
    ·obtain⟨w',h6,h7⟩:=yU hb.2 hpq hp hq
     rw[Ob9]at h7;exact h7.imp (fun h7=>⟨w',h6,h7⟩) id
    ·have:=Cae hb.1 hp e he hbe
     omega
   refine wp_region_any hm ?_;refine Yaz hti b7 hd (fun a' w' G' si=>hQ a' w' G' (by rw[tq];exact si)) ops.size _ a _ G (by simp) ?_ ?_ ?_
   ·simp only[Array.toList_replicate,List.count_replicate_self,Oby]
   ·intro q w' p hq
    unfold dn at hq;rw[Pbh,Array.getElem?_replicate]at hq;split at hq<;>simp at hq
   ·rw[Paf fun q _=>by
     unfold dn;rw[Pbh,Array.getElem?_replicate];split<;>rfl]
    exact gv.world rfl rfl rfl rfl
end
theorem zK {s:St}{k:Nat}{c:aN}(h:s.get k=some c):rZ s.nt s.nb s.nr k=true:=by
 unfold St.get at h
 cases e:rZ s.nt s.nb s.nr k with
 |true=>rfl
 |false=>rw[e]at h;cases h
theorem Lak {nt nb nr r:Nat}(h:r<nr):rZ nt nb nr (kR r)=true:=by
 unfold rZ;rw[Lal];have:kR r / 3=r:=by unfold kR;omega
 rw[this];simpa using h
theorem vE {s:St}{u:List (Nat×aN)}(h:∀ k c,(k,c)∈u->rZ s.nt s.nb s.nr k=true):(s.puts u).get=upds s.get u:=by
 funext k;obtain⟨e1,e2,e3,e4⟩:=iA u s;unfold St.get;rw[e2,e3,e4,Iap];by_cases hm:∃ c,(k,c)∈u
 ·obtain⟨c,hc⟩:=hm
  rw[h k c hc,cond_true];exact Caz _ _ _ _ ⟨c,hc⟩
 ·have hn:∀ c,(k,c)∉u:=fun c hc=>hm ⟨c,hc⟩
  rw[dU _ _ _ hn,dU _ _ _ hn]
def Haj (σ:Nat->Option aN)(k j:Nat):Option aM :=
 match σ k with
 |some (.slot none (.one a))=>if j=0 then some a else none
 |some (.slot none (.agg ls))=>ls[j]?
 |some (.box _ ls)=>ls[j]?
 |_=>none
theorem Ual {k j:Nat}{s:St}:tQ k j s=(Haj s.get k j).getD .dead:=by
 unfold tQ Haj;split
 ·rename_i v hk
  rw[hk]
  cases v with
  |dead=>simp[pO]
  | one a =>
   simp only[pO]
   cases j with
   |zero=>rfl
   |succ j=>simp
  |agg ls=>simp[pO,Obo]
  |tup ts=>simp[pO]
 ·rename_i ro ls hk
  rw[hk];simp[Obo]
 ·rename_i h1 h2
  cases hs:s.get k with
  |none=>rfl
  | some c =>
   cases c with
   | slot g v =>
    cases g with
    |none=>exact absurd hs (h1 v)
    |some g=>rfl
   |box ro ls=>exact absurd hs (h2 ro ls)
   |root=>rfl
theorem iL {k j:Nat}{s:St}{l:aM}(h:tQ k j s=l)(hl:l≠.dead):Haj s.get k j=some l:=by
 rw[Ual]at h
 cases e:Haj s.get k j with
 |none=>rw[e]at h;exact absurd h.symm hl
 |some l'=>rw[e,Pb4]at h;rw[h]
section
variable {E:Env} {F:bC} {n:Nat} {σ:Nat->Option aN} {ρ:List D} {a:Act} {w:World} {G G':Gh}
inductive ValAt (n:Nat) (gh:Nat->Value) (a:Act) (w:World) (bx:Nat->Addr):aN->Nat->Nat->Value->Prop
 |one (t:Nat) (l:aM):ValAt n gh a w bx (.slot none (.one l)) (kT t) 0 (xS n a gh t)
 |agg (t:Nat) (ls:List aM) (vs:List Value) (j:Nat) (v:Value) (h:xS n a gh t=.agg vs.toArray) (hv:vs[j]?=some v):ValAt n gh a w bx (.slot none (.agg ls)) (kT t) j v
 |box (b j:Nat) (ro:Bool) (ls:List aM) (v:Value) (h:w.cell? ((bx b).add j)=some v):ValAt n gh a w bx (.box ro ls) (kB b) j v
theorem R.valAt (h:R n F σ ρ a w G){k j:Nat}{l:aM}(hl:Haj σ k j=some l):∃ v c,σ k=some c/\ValAt n F.gh a w G.bx c k j v/\aB σ ρ G w l v:=by
 unfold Haj at hl;split at hl
 ·rename_i l' hk
  obtain⟨t,rfl,h1⟩:=h.cont _ _ hk;split at hl
  ·rename_i hj
   subst hj;obtain rfl:=Option.some.inj hl;exact⟨_,_,hk,.one t l',h1 rfl⟩
  ·cases hl
 ·rename_i ls hk
  obtain⟨t,rfl,h1⟩:=h.cont _ _ hk;obtain⟨vs,h2,h3⟩:bR σ ρ G w (.agg ls) _:=h1 rfl;obtain⟨v,h4,h5⟩:=h3.get hl;exact⟨v,_,hk,.agg t ls vs j v h2 h4,h5⟩
 ·rename_i ro ls hk
  obtain⟨b,rfl,h1,h2,h3⟩:=h.cont _ _ hk;obtain⟨v,h4,h5,h6⟩:=h3 j l hl;exact⟨v,_,hk,.box b j ro ls v h4,h6⟩
 ·cases hl
theorem Fr.nonroot (σ:Nat->Option aN)(G:Gh)(w:World)(u:List (Nat×aN))(hu:∀ k c,(k,c)∈u->∀ r,k≠kR r):Fr σ G w (upds σ u) G w:=by
 have hr:∀ r,upds σ u (kR r)=σ (kR r):=fun r=>dU _ _ _ fun c hc=>hu _ _ hc r rfl
 refine⟨fun b h _=>⟨h,rfl⟩,fun r k _ h=>?_,fun r k h=>?_,fun r k b p _ _ h=>⟨.inl h,rfl⟩,fun r k m _ h=>⟨?_,fun b p h=>h⟩,fun _ _=>rfl,fun _ _=>rfl,fun k h=>dJ _ _ _ (.inl h),fun _ _ _ _ _ _ _ h=>h⟩
 ·obtain⟨x,m,st,e,h⟩:=h
  exact⟨x,m,st,by rw[<- hr];exact e,h⟩
 ·obtain⟨x,m,aE,st,e,h⟩:=h
  exact⟨x,m,aE,st,by rw[hr];exact e,h⟩
 ·obtain⟨x,e⟩:=h
  exact⟨x,by rw[<- hr];exact e⟩
theorem Cao {α:Type}{x y:List α}(h:x.toArray=y.toArray):x=y:=by
 have:=congrArg Array.toList h;simpa using this
structure Zao (s s':St):Prop where
 nr:s'.nr=s.nr
 nt:s'.nt=s.nt
 root:∀ r,s'.get (kR r)=s.get (kR r)
theorem R.putAt {s:St}(h:R n F s.get ρ a w G){k j:Nat}{l:aM}{c0:aN}(hk:s.get k=some c0){v:Value}(hv:ValAt n F.gh a w G.bx c0 k j v)(hl:aB s.get ρ G w l v) :
  R n F (Go.Proofs.YtcbkmmhkccnamaaGreat.Rf.putAt k j l s).get ρ a w G/\Zao s (Go.Proofs.YtcbkmmhkccnamaaGreat.Rf.putAt k j l s)/\(Go.Proofs.YtcbkmmhkccnamaaGreat.Rf.putAt k j l s).nv=s.nv:=by
 have lg:∀ c,Lb9 j l c0=some c->(∀ r,k≠kR r)->(∃ t,(k=kT t/\∃ sv,c=.slot none sv/\bR (upds s.get [(k,c)]) ρ G w sv (xS n a F.gh t))\/(k=kB t/\∃ ro ls,c=.box ro ls/\Ha2 (upds s.get [(k,c)]) ρ G w t ro ls))->(∀ b ls,k=kB b->c=.box false ls->∃ iu,c0=.box false iu/\ls.length=iu.length) ->
   R n F (Go.Proofs.YtcbkmmhkccnamaaGreat.Rf.putAt k j l s).get ρ a w G/\Zao s (Go.Proofs.YtcbkmmhkccnamaaGreat.Rf.putAt k j l s)/\(Go.Proofs.YtcbkmmhkccnamaaGreat.Rf.putAt k j l s).nv=s.nv:=by
  intro c hc ko hcr nf
  have e:Go.Proofs.YtcbkmmhkccnamaaGreat.Rf.putAt k j l s=s.puts [(k,c)]:=by
   unfold Go.Proofs.YtcbkmmhkccnamaaGreat.Rf.putAt;rw[hk,Obm,hc];rfl
  have hg:(s.puts [(k,c)]).get=upds s.get [(k,c)]:=vE fun k' c' hm=>by
   simp only[Obt,Prod.mk.injEq]at hm;rw[hm.1];exact zK hk
  obtain⟨e1,e2,e3,e4⟩:=iA [(k,c)] s
  have dh:∀ k' c',(k',c')∈[(k,c)]->k'=k/\c'=c:=by
   intro k' c' hm;simpa using hm
  rw[e];refine⟨?_,⟨e3,e4,fun r=>?_⟩,e1⟩
  ·rw[hg]
   have dt:=Fr.nonroot s.get G w [(k,c)] fun k' c' hm r=>by rw[(dh _ _ hm).1];exact ko r
   refine h.upd _ dt h.tmps h.defers h.frame (fun _ _=>rfl) (fun _ _ _ _ _=>⟨rfl,rfl⟩) (fun b ls hm hb ho=>?_) (fun k' c' hm _=>?_)
   ·obtain⟨e5,e6⟩:=dh _ _ hm
    obtain⟨iu,h1,h2⟩:=nf b ls e5.symm e6.symm;rw[h1]at hk;rw[h2];exact h.rng b iu (by rw[e5];exact hk) hb ho
   ·obtain⟨rfl,rfl⟩:=dh _ _ hm
    obtain⟨t,⟨e7,sv,e8,h8⟩|⟨e7,ro,ls,e8,h8⟩⟩:=hcr
    ·subst e8
     exact⟨t,e7,fun _=>h8⟩
    ·subst e8
     exact⟨t,e7,h8⟩
  ·rw[hg]
   exact dU _ _ _ fun c' hm=>ko r (dh _ _ hm).1.symm
 have dt:∀ c,(∀ r,k≠kR r)->Fr s.get G w (upds s.get [(k,c)]) G w:=fun c ko=>Fr.nonroot s.get G w [(k,c)] fun k' c' hm r=>by
  simp only[Obt,Prod.mk.injEq]at hm;rw[hm.1];exact ko r
 cases hv with
 | one t l0 =>
  exact lg (.slot none (.one l)) rfl (fun r=>gW) ⟨t,.inl ⟨rfl,_,rfl,aB.mono (dt _ fun r=>gW) l _ hl⟩⟩ (fun b ls e=>absurd e kD)
 | agg t ls vs _ _ h2 hvj =>
  have h1:=h.slot hk rfl;obtain⟨tM,ua,h3⟩:bR s.get ρ G w (.agg ls) _:=h1;rw[h2]at ua
  injection ua with e
  have e:=Cao e;subst e;have hf:=dt (.slot none (.agg (ls.set j l))) fun r=>gW
  refine lg (.slot none (.agg (ls.set j l))) rfl (fun r=>gW) ⟨t,.inl ⟨rfl,_,rfl,vs,h2,?_⟩⟩ (fun b ls e=>absurd e kD);refine aG.of_get (by simp[h3.len]) fun i l' v' hi we=>?_
  rw[Qba]at hi;split at hi
  ·rename_i tD
   subst tD;split at hi
   ·obtain rfl:=Option.some.inj hi
    rw[we]at hvj;obtain rfl:=Option.some.inj hvj;exact aB.mono hf _ _ hl
   ·cases hi
  ·obtain⟨u,hu,hu2⟩:=h3.get hi
   rw[we]at hu;obtain rfl:=Option.some.inj hu;exact aB.mono hf _ _ hu2
 | box b _ ro ls _ hb =>
  obtain⟨h1,h2,h3⟩:=h.box hk;have hf:=dt (.box ro (ls.set j l)) fun r=>dZ
  refine lg (.box ro (ls.set j l)) rfl (fun r=>dZ) ⟨b,.inr ⟨rfl,_,_,rfl,h1,h2,fun i l' hi=>?_⟩⟩ (fun b' jt e e'=>?_)
  ·rw[Qba]at hi
   split at hi
   ·rename_i tD
    subst tD;split at hi
    ·rename_i ar
     obtain rfl:=Option.some.inj hi;obtain⟨v0,h4,h5,h6⟩:=h3 _ _ (Obl ar);rw[h4]at hb;obtain rfl:=Option.some.inj hb;exact⟨v0,h4,h5,aB.mono hf _ _ hl⟩
    ·cases hi
   ·obtain⟨u,h4,h5,h6⟩:=h3 i l' hi
    exact⟨u,h4,h5,aB.mono hf _ _ h6⟩
  ·injection e' with e1 e2
   subst e1 e2;exact⟨ls,rfl,by simp⟩
end
section
variable {E:Env} {F:bC} {σ:Nat->Option aN} {ρ:List D} {a:Act} {w:World} {G G':Gh}
def Mbb:Oper:={ (default:Oper) with dst:=none }
theorem R.roots (h:R E.ntmps F σ ρ a w G){ur:List (Nat×aN)}{f:Nat->List Nat->Ow}
  (hu:∀ k c,(k,c)∈ur->∃ r,k=kR r) (a7:∀ b,G'.own b=kX f (G.own b))
  (xo:∀ b r p,G.own b=.slc r p->(∀ c,(kR r,c)∉ur)->f r p=.slc r p)
  (xd:∀ r c,(kR r,c)∈ur->upds σ ur (kR r)=some c->Chg σ G w G' w r c)
  (nB:∀ r x m k,σ (kR r)=some (.root x m k .frozen)->∀ s p q,f s p=.slc r q->s=r/\p=q)
  (rr:∀ r,(σ (kR r)).isSome->G'.hdr r=G.hdr r) (fv:G'.bx=G.bx)
  (eA:∀ r c,(kR r,c)∈ur->upds σ ur (kR r)=some c->∃ x m aE st,c=.root x m aE st/\bK (upds σ ur) ρ G' w r x m st):R E.ntmps F (upds σ ur) ρ a w G':=by
 have h0:dE Mbb none .dead=[]:=rfl
 have:=h.own (o:=Mbb) (g:=none) (sv:=.dead) (v:=undef) (ur:=ur) (f:=f) (wr:=fun _=>False) (G':=G') (w':=w) (fun d hd=>by cases hd) hu (fun b _=>a7 b)
  (fun b hb=>by rw[a7,h.frame.fresh b hb];rfl) ⟨rfl,rfl,rfl,Oby _⟩ (fun b hb=>.inl (by rw[a7,h.frame.fresh b hb];rfl)) (fun _ _ _=>rfl) (fun b hb=>hb.elim) xo
  (by rw[h0,Pbp];exact xd) nB rr fv (fun _ _=>trivial) (by rw[h0,Pbp];exact fun _=>eA)
 rw[h0,Pbp]at this;exact this
def mvF (r rN m:Nat)(s:Nat)(p:List Nat):Ow:=if s=r then (if p.length<m then .slc rN p else .frz) else .slc s p
theorem R.moveRoot (h:R E.ntmps F σ ρ a w G){r rN m m' v:Nat}{x x0:aI}(hr:σ (kR r)=some (.root x0 m' v .live))(hN:σ (kR rN)=none)(hm:m<=m'){u:Value}
  (fa:Rp G.own w r [] m' u (x.val ρ)) {st:RSt} (ba:st=.gone\/(st=.fwd rN/\u=G.hdr r)) :
  ∃ G',R E.ntmps F (upds σ [(kR r,.root (.c .hole) 0 0 st),(kR rN,.root x m 0 .live)]) ρ a w G'/\G'.hdr rN=u/\G'.bx=G.bx:=by
 have cn:r≠rN:=fun e=>by rw[e,hN]at hr;cases hr
 let G':Gh:={ own:=fun b=>kX (mvF r rN m) (G.own b),hdr:=fun s=>if s=rN then u else G.hdr s,bx:=G.bx }
 have e1:upds σ [(kR r,aN.root (.c .hole) 0 0 st),(kR rN,.root x m 0 .live)] (kR r)=some (.root (.c .hole) 0 0 st):=by
  simp only[upds,Pah];rw[if_neg fun e=>cn (dW e)];simp
 have e2:upds σ [(kR r,aN.root (.c .hole) 0 0 st),(kR rN,.root x m 0 .live)] (kR rN)=some (.root x m 0 .live):=by
  simp[upds,Pah]
 have dh:∀ s c,(kR s,c)∈[(kR r,aN.root (.c .hole) 0 0 st),(kR rN,.root x m 0 .live)]->s=r\/s=rN:=by
  intro s c hc;simp only[Pbg,Prod.mk.injEq,Pbz,or_false]at hc;exact hc.imp (fun e=>dW e.1) (fun e=>dW e.1)
 refine⟨G',h.roots (f:=mvF r rN m) ?_ (fun b=>rfl) ?_ ?_ ?_ ?_ rfl ?_,by simp[G'],rfl⟩
 ·intro k c hc
  simp only[Pbg,Prod.mk.injEq,Pbz,or_false]at hc
  rcases hc with ⟨e,-⟩|⟨e,-⟩<;>exact⟨_,e⟩
 ·intro b s p hb hn
  unfold mvF;rw[if_neg fun e=>hn _ (by rw[e];exact Obu)]
 ·intro s c hc ia
  rcases dh s c hc with rfl|rfl
  ·rw[e1]at ia
   obtain rfl:=Option.some.inj ia;refine .inr (.inr (.inl ⟨_,_,_,_,rfl,?_,?_⟩))<;>rcases ba with e|⟨e,-⟩<;>rw[e]<;>simp
  ·rw[e2]at ia
   obtain rfl:=Option.some.inj ia;exact .inl ⟨hN,_,_,_,_,rfl⟩
 ·intro r0 x1 m1 k1 hk s p q hf
  unfold mvF at hf;split at hf
  ·split at hf
   ·injection hf with f1 f2
    rw[<- f1,hN]at hk;cases hk
   ·cases hf
  ·injection hf with f1 f2
   exact⟨f1,f2⟩
 ·intro s hs
  show (if s=rN then u else G.hdr s)=_
  rw[if_neg];intro e;rw[e,hN]at hs;cases hs
 ·intro s c hc ia
  rcases dh s c hc with rfl|rfl
  ·rw[e1]at ia
   obtain rfl:=Option.some.inj ia;refine⟨_,_,_,_,rfl,?_⟩
   rcases ba with e|⟨e,hu⟩
   ·subst e;trivial
   ·subst e
    refine⟨?_,by rw[e2];rfl⟩;show (if s=rN then u else G.hdr s)=(if rN=rN then u else G.hdr rN)
    rw[if_neg cn,if_pos rfl,hu]
  ·rw[e2]at ia
   obtain rfl:=Option.some.inj ia;refine⟨_,_,_,_,rfl,?_⟩;show Rp G'.own w s [] m (if s=s then u else G.hdr s) (x.val ρ)
   rw[if_pos rfl]
   have hw:=fa.weaken (own':=fun b=>kX (fun s' p=>if s'=r then (if p.length<m then .slc r p else .frz) else .slc s' p) (G.own b)) (fun b hb=>by rw[hb];rfl) m hm (fun b t hb=>by
    rw[hb];simp only[kX,if_pos rfl,Pbp]
    rfl)
   have:=hw.mono (own':=G'.own) (w':=w) (q:=[]) (q':=[]) (r':=s) (fun b hb=>⟨?_,rfl⟩) [] rfl (fun b t hb=>⟨?_,rfl⟩)
   ·simpa using this
   ·show kX _ (G.own b)=_
    cases e:G.own b with
    | slc s' p =>
     rw[e]at hb;simp only[kX]at hb ⊢;unfold mvF;split at hb
     ·rename_i jf
      rw[if_pos jf];split at hb
      ·cases hb
      ·rename_i hl;rw[if_neg hl]
     ·cases hb
    |_=>rw[e]at hb;simpa[kX] using hb
   ·show kX _ (G.own b)=_
    cases e:G.own b with
    | slc s' p =>
     rw[e]at hb;simp only[kX]at hb ⊢;unfold mvF;split at hb
     ·rename_i jf
      rw[if_pos jf];split at hb
      ·rename_i hl
       rw[if_pos hl]
       injection hb with f1 f2
       rw[f2]
      ·cases hb
     ·rename_i jf
      injection hb with f1 f2
      exact absurd f1 jf
    |_=>rw[e]at hb;simp[kX]at hb
theorem R.nilRoot (h:R E.ntmps F σ ρ a w G){rN m z:Nat}(hN:σ (kR rN)=none) :
  ∃ G',R E.ntmps F (upds σ [(kR rN,.root (.c (.rows z [])) m 0 .live)]) ρ a w G'/\G'.hdr rN=.slice none 0 0/\G'.bx=G.bx:=by
 let G':Gh:={ own:=G.own,hdr:=fun s=>if s=rN then .slice none 0 0 else G.hdr s,bx:=G.bx }
 have e2:upds σ [(kR rN,aN.root (.c (.rows z [])) m 0 .live)] (kR rN)=some (.root (.c (.rows z [])) m 0 .live):=by
  simp[upds,Pah]
 have dh:∀ s c,(kR s,c)∈[(kR rN,aN.root (.c (.rows z [])) m 0 .live)]->s=rN:=by
  intro s c hc;simp only[Pbg,Prod.mk.injEq,Pbz,or_false]at hc;exact dW hc.1
 refine⟨G',h.roots (f:=fun s p=>.slc s p) ?_ (fun b=>?_) (fun _ _ _ _ _=>rfl) ?_ (fun _ _ _ _ _ s p q hf=>?_) ?_ rfl ?_,by simp[G'],rfl⟩
 ·intro k c hc
  simp only[Pbg,Prod.mk.injEq,Pbz,or_false]at hc;exact⟨_,hc.1⟩
 ·show G.own b=_
  cases G.own b<;>rfl
 ·intro s c hc ia
  obtain rfl:=dh s c hc;rw[e2]at ia;obtain rfl:=Option.some.inj ia;exact .inl ⟨hN,_,_,_,_,rfl⟩
 ·injection hf with f1 f2
  exact⟨f1,f2⟩
 ·intro s hs
  show (if s=rN then _ else G.hdr s)=_
  rw[if_neg];intro e;rw[e,hN]at hs;cases hs
 ·intro s c hc ia
  obtain rfl:=dh s c hc;rw[e2]at ia;obtain rfl:=Option.some.inj ia;refine⟨_,_,_,_,rfl,?_⟩;show Rp G.own w s [] m (if s=s then _ else G.hdr s) (.rows z [])
  rw[if_pos rfl]
  cases m with
  |zero=>exact .fz (.rows none ⟨0,0,none⟩ 0 0 z [] (fun _ _=>undef) rfl (Oby _) (.inl rfl) (by simp) (by simp) (by simp))
  |succ m=>exact .sl none ⟨0,0,none⟩ 0 0 z [] (fun _ _=>undef) rfl (Oby _) (.inr ⟨rfl,rfl⟩) (by simp) (fun e=>by cases e) (by simp) (by simp)
def fzF (rs:List Nat)(s:Nat)(p:List Nat):Ow:=if s∈rs then .frz else .slc s p
theorem R.freeze (h:R E.ntmps F σ ρ a w G){rs:List Nat}{fr:List (Nat×aN)}(dt:(dC rs).eval σ=some fr) :
  ∃ G',R E.ntmps F (upds σ fr) ρ a w G'/\(∀ b,G'.own b=kX (fzF rs) (G.own b))/\G'.hdr=G.hdr/\G'.bx=G.bx:=by
 obtain⟨h1,h2⟩:=fM dt
 let G':Gh:={ own:=fun b=>kX (fzF rs) (G.own b),hdr:=G.hdr,bx:=G.bx }
 have a2q:∀ b r p,G.own b=.slc r p->r∈rs->∃ c,(kR r,c)∈fr:=by
  intro b r p hb hr
  rcases h1 r hr with ⟨x,m,aE,-,h4⟩|⟨x,m,aE,h4⟩
  ·exact⟨_,h4⟩
  ·exact absurd hb ((h.root h4).2 b p)
 have dq:∀ r c,(kR r,c)∈fr->∃ x m aE,c=.root x m aE .frozen/\σ (kR r)=some (.root x m aE .live)/\r∈rs:=by
  intro r c hc;obtain⟨s,hs,x,m,aE,e,e',h3⟩:=h2 _ _ hc;obtain rfl:=dW e;exact⟨x,m,aE,e',h3,hs⟩
 have xx:∀ r x m aE,σ (kR r)=some (.root x m aE .live)->r∈rs->Rd (fun b=>G'.own b=.frz) w (G.hdr r) (x.val ρ):=by
  intro r x m aE hk hr;have h3:=h.root hk;simp only[bK]at h3;refine h3.rd.mono fun b hb=>⟨?_,rfl⟩
  show kX _ _=_
  rcases hb with hb|⟨q,hb⟩
  ·rw[hb];rfl
  ·rw[hb];simp only[kX,fzF];rw[if_pos hr]
 refine⟨G',h.roots (f:=fzF rs) ?_ (fun b=>rfl) ?_ ?_ ?_ (fun _ _=>rfl) rfl ?_,fun b=>rfl,rfl,rfl⟩
 ·intro k c hc
  obtain⟨s,-,x,m,aE,e,-⟩:=h2 _ _ hc;exact⟨s,e⟩
 ·intro b r p hb hn
  unfold fzF;rw[if_neg];intro hr;obtain⟨c,hc⟩:=a2q b r p hb hr;exact hn c hc
 ·intro r c hc _
  obtain⟨x,m,aE,rfl,h3,h4⟩:=dq r c hc;refine .inr (.inr (.inr ⟨x,m,aE,h3,rfl,fun b p hb=>⟨?_,rfl⟩⟩));show kX _ _=_
  rw[hb];simp only[kX,fzF];rw[if_pos h4]
 ·intro r x m k hk s p q hf
  unfold fzF at hf;split at hf
  ·cases hf
  ·injection hf with f1 f2
   exact⟨f1,f2⟩
 ·intro r c hc _
  obtain⟨x,m,aE,rfl,h3,h4⟩:=dq r c hc;refine⟨_,_,_,_,rfl,xx r x m aE h3 h4,fun b p hb=>?_⟩;have hb:kX (fzF rs) (G.own b)=.slc r p:=hb
  cases e:G.own b with
  | slc s q =>
   rw[e]at hb;simp only[kX,fzF]at hb;split at hb
   ·cases hb
   ·rename_i hs
    injection hb with f1 f2
    rw[f1]at hs;exact hs h4
  |_=>rw[e]at hb;simp[kX]at hb
theorem uN {rs:List Nat}{deps:List (Nat×Nat)}(a7:∀ b,G'.own b=kX (fzF rs) (G.own b))(hd:∀ z∈deps,z.1∈rs){b:Nat}(hb:allow G deps b):allow G' [] b:=by
 refine .inl ?_;rw[a7]
 rcases hb with hb|⟨r,k,p,hm,hb⟩
 ·rw[hb];rfl
 ·rw[hb]
  simp only[kX,fzF];rw[if_pos (hd _ hm)]
theorem Ea5 {s:St}{rs:List Nat}{fr:List (Nat×aN)}(dt:(dC rs).eval s.get=some fr):∀ k c,(k,c)∈fr->rZ s.nt s.nb s.nr k=true:=by
 intro k c hc;obtain⟨r,-,x,m,aE,rfl,-,h3⟩:=(fM dt).2 k c hc;exact zK h3
end
structure RI (nr len i:Nat) (s:St):Prop where
 nr_:s.nr=nr+len
 free:∀ j,i<=j->j<len->s.get (kR (nr+j))=none
section
variable {E:Env} {F:bC} {ρ:List D} {a:Act} {w:World} {G:Gh} {cf:Nat->List D->Option (List D)} {nr len i:Nat} {s s':St}
theorem RI.succ (h:RI nr len i s):RI nr len (i+1) s:=⟨h.nr_,fun j h1 h2=>h.free j (by omega) h2⟩
theorem RI.keeps (h:RI nr len i s)(hk:Zao s s'):RI nr len i s':=⟨hk.nr.trans h.nr_,fun j h1 h2=>by rw[hk.root];exact h.free j h1 h2⟩
theorem RI.puts (h:RI nr len i s){u:List (Nat×aN)}{i':Nat}(hi:i<=i')(hg:(s.puts u).get=upds s.get u)(hu:∀ j,i'<=j->j<len->∀ c,(kR (nr+j),c)∉u):RI nr len i' (s.puts u) :=
 ⟨(iA u s).2.2.1.trans h.nr_,fun j h1 h2=>by rw[hg,dU _ _ _ (hu j h1 h2)];exact h.free j (by omega) h2⟩
theorem yQ {u:List (Nat×aN)}{G':Gh}(hg:(s.puts u).get=upds s.get u)(gv:R E.ntmps F (upds s.get u) ρ a w G')(fv:G'.bx=G.bx){k j:Nat}{c0:aN}(hk:s.get k=some c0)
  {v:Value} (hv:ValAt E.ntmps F.gh a w G.bx c0 k j v) (hu:∀ c,(k,c)∉u) {l:aM} (hl:aB (upds s.get u) ρ G' w l v) :
  R E.ntmps F (putAt k j l (s.puts u)).get ρ a w G'/\Zao (s.puts u) (putAt k j l (s.puts u))/\(putAt k j l (s.puts u)).nv=s.nv:=by
 rw[<- hg]at gv hl;have jd:(s.puts u).get k=some c0:=by rw[hg,dU _ _ _ hu];exact hk
 obtain⟨h1,h2,h3⟩:=gv.putAt jd (by rw[fv];exact hv) hl;exact⟨h1,h2,h3.trans (iA u s).1⟩
theorem uU {n:Nat}{gh:Nat->Value}{bx:Nat->Addr}{c0:aN}{k j:Nat}{v:Value}(h:ValAt n gh a w bx c0 k j v):∀ r,k≠kR r:=by
 intro r
 cases h with
 |one=>exact gW
 |agg=>exact gW
 |box=>exact dZ
theorem sP (hR:R E.ntmps F s.get ρ a w G)(hI:RI nr len i s){rs:List Nat}{fr:List (Nat×aN)}(dt:(dC rs).eval s.get=some fr){k j:Nat}{c0:aN}(hk:s.get k=some c0)
  {v:Value} (hv:ValAt E.ntmps F.gh a w G.bx c0 k j v) {l:aM} (hl:∀ G' db,(∀ b,G'.own b=kX (fzF rs) (G.own b))->aB db ρ G' w l v) :
  (∃ G',R E.ntmps F (putAt k j l (s.puts fr)).get ρ a w G')/\RI nr len (i+1) (putAt k j l (s.puts fr))/\(putAt k j l (s.puts fr)).nt=s.nt/\(putAt k j l (s.puts fr)).nv=s.nv:=by
 obtain⟨G',gv,h1,h2,h3⟩:=hR.freeze dt;have hg:(s.puts fr).get=upds s.get fr:=vE (Ea5 dt);have hfk:=(fM dt).2
 obtain⟨h4,h5,h6⟩:=yQ hg gv h3 hk hv (fun c hc=>by
  obtain⟨r,-,x,m,aE,e,-⟩:=hfk _ _ hc;exact uU hv r e) (hl G' _ h1)
 refine⟨⟨G',h4⟩,RI.keeps (hI.succ.puts (Oby _) hg fun q mm l8 c hc=>?_) h5,h5.nt.trans (iA fr s).2.2.2,h6⟩;obtain⟨r,-,x,m,aE,e,-,h7⟩:=hfk _ _ hc;rw[<- e,hI.free q (by omega) l8]at h7;cases h7
theorem Kaz {p:Pos}{ls:List Step}{x:aI}(h:Ial E p nr i s=some (ls,s',x))(hI:RI nr len i s)(hi:i<len)(hR:R E.ntmps F s.get ρ a w G)(ba:aJ cf ρ none s.nv ls) :
  (∃ G',R E.ntmps F s'.get ρ a w G')/\RI nr len (i+1) s'/\s'.nt=s.nt/\s'.nv=s.nv+bD ls:=by
 have rz:=hI.free i (Oby _) hi;have hkN:rZ s.nt s.nb s.nr (kR (nr+i))=true:=Lak (by rw[hI.nr_];omega);unfold Ial at h;dsimp only at h;split at h
 ·
  simp only[Option.some.injEq,Prod.mk.injEq]at h;obtain⟨rfl,rfl,rfl⟩:=h;exact⟨⟨G,hR⟩,hI.succ,rfl,rfl⟩
 ·
  rename_i al r hf hl;split at h
  ·rename_i x0 m0 v0 r' hk
   cases hb:Nat.beq r' (nr+al) with
   |false=>rw[hb]at h;simp[iZ]at h
   | true =>
    rw[hb,cond_true]at h;simp only[Option.some.injEq,Prod.mk.injEq]at h;obtain⟨rfl,rfl,rfl⟩:=h;simp only[Ob4]at hb;obtain⟨v,c,pg,mT,gu⟩:=hR.valAt (iL hl (by simp));simp only[aB]at gu;have s9:=hR.root hk;simp only[bK]at s9
    obtain⟨h1,h2,h3⟩:=hR.putAt pg mT (l:=.ex (nr+al)) (by
     simp only[aB];rw[<- hb];exact⟨gu.1.trans s9.1,s9.2,gu.2.2⟩)
    exact⟨⟨G,h1⟩,(hI.keeps h2).succ,h2.nt,h3⟩
  ·simp[iZ]at h
 ·
  simp only[Option.some.injEq,Prod.mk.injEq]at h;obtain⟨rfl,rfl,rfl⟩:=h;exact⟨⟨G,hR⟩,hI.succ,rfl,rfl⟩
 ·
  rename_i m r hf hl;split at h
  ·rename_i x0 m' v0 hk
   cases hb:Nat.ble m m' with
   |false=>rw[hb]at h;simp[iZ]at h
   | true =>
    rw[hb,cond_true]at h;simp only[Option.some.injEq,Prod.mk.injEq]at h;obtain⟨rfl,rfl,rfl⟩:=h;simp only[Pbn]at hb;obtain⟨v,c,pg,mT,gu⟩:=hR.valAt (iL hl (by simp));simp only[aB]at gu;have s9:=hR.root hk;simp only[bK]at s9;obtain⟨G',gv,h1,h2⟩:=hR.moveRoot hk rz hb s9 (.inr ⟨rfl,rfl⟩)
    have hg:=vE (s:=s) (u:=[(kR r,.root (.c .hole) 0 0 (.fwd (nr+i))),(kR (nr+i),.root x0 m 0 .live)]) (fun k c hc=>by
     simp only[Pbg,Prod.mk.injEq,Pbz,or_false]at hc
     rcases hc with ⟨e,-⟩|⟨e,-⟩<;>rw[e]
     ·exact zK hk
     ·exact hkN)
    obtain⟨h3,h4,h5⟩:=yQ (j:=p.j) hg gv h2 pg mT (fun c hc=>by
     simp only[Pbg,Prod.mk.injEq,Pbz,or_false]at hc
     rcases hc with ⟨e,-⟩|⟨e,-⟩<;>exact uU mT _ e) (l:=.ex (nr+i)) (by
     simp only[aB];exact⟨by rw[h1];exact gu.1,dJ _ _ _ (.inr ⟨.root x0 m 0 .live,by simp⟩),gu.2.2⟩)
    refine⟨⟨G',h3⟩,RI.keeps (hI.puts (Qbx i) hg fun q mm l8 c hc=>?_) h4,h4.nt.trans (iA _ s).2.2.2,h5⟩;simp only[Pbg,Prod.mk.injEq,Pbz,or_false]at hc
    rcases hc with ⟨e,-⟩|⟨e,-⟩
    ·rw[<- e,hI.free q (by omega) l8]at hk;cases hk
    ·have:=dW e;omega
  ·simp[iZ]at h
 ·
  rename_i m nie z hf hl;simp only[Option.some.injEq,Prod.mk.injEq]at h;obtain⟨rfl,rfl,rfl⟩:=h;obtain⟨v,c,pg,mT,gu⟩:=hR.valAt (iL hl (by simp));simp only[aB]at gu;have y3:v=.slice none 0 0:=(gu.2 (by simp)).2.1 trivial z rfl;obtain⟨G',gv,h1,h2⟩:=hR.nilRoot (m:=m) (z:=z) rz
  have hg:=vE (s:=s) (u:=[(kR (nr+i),.root (.c (.rows z [])) m 0 .live)]) (fun k c hc=>by
   simp only[Pbg,Prod.mk.injEq,Pbz,or_false]at hc;rw[hc.1];exact hkN)
  obtain⟨h3,h4,h5⟩:=yQ (j:=p.j) hg gv h2 pg mT (fun c hc=>by
   simp only[Pbg,Prod.mk.injEq,Pbz,or_false]at hc
   exact uU mT _ hc.1) (l:=.ex (nr+i)) (by
   simp only[aB];exact⟨by rw[h1];exact y3,dJ _ _ _ (.inr ⟨.root (.c (.rows z [])) m 0 .live,by simp⟩),gu.1.1⟩)
  refine⟨⟨G',h3⟩,RI.keeps (hI.puts (Qbx i) hg fun q mm l8 c hc=>?_) h4,h4.nt.trans (iA _ s).2.2.2,h5⟩;simp only[Pbg,Prod.mk.injEq,Pbz,or_false]at hc;have:=dW hc.1;omega
 ·
  rename_i m r k nie x0 hf hl;split at h
  ·rename_i x1 m' v0 hk
   cases hb:(Nat.ble m m'&&Nat.beq v0 k) with
   |false=>rw[hb]at h;simp[iZ]at h
   | true =>
    rw[hb,cond_true]at h;simp only[Option.some.injEq,Prod.mk.injEq]at h;obtain⟨rfl,rfl,rfl⟩:=h;simp only[Obh,Pbn,Ob4]at hb;obtain⟨hb,rfl⟩:=hb;obtain⟨v,c,pg,mT,gu⟩:=hR.valAt (iL hl (by simp));simp only[aB]at gu
    obtain⟨-,-,h0⟩:=gu.2 fun z hz=>by
     simp only[Obt]at hz;subst hz;exact⟨x1,m',.live,hk,.inl rfl⟩
    have fa:=h0 r v0 m' rfl ⟨x1,hk⟩;obtain⟨G',gv,h1,h2⟩:=hR.moveRoot hk rz hb fa (.inl rfl)
    have hg:=vE (s:=s) (u:=[(kR r,.root (.c .hole) 0 0 .gone),(kR (nr+i),.root x0 m 0 .live)]) (fun k c hc=>by
     simp only[Pbg,Prod.mk.injEq,Pbz,or_false]at hc
     rcases hc with ⟨e,-⟩|⟨e,-⟩<;>rw[e]
     ·exact zK hk
     ·exact hkN)
    obtain⟨h3,h4,h5⟩:=yQ (j:=p.j) hg gv h2 pg mT (fun c hc=>by
     simp only[Pbg,Prod.mk.injEq,Pbz,or_false]at hc
     rcases hc with ⟨e,-⟩|⟨e,-⟩<;>exact uU mT _ e) (l:=.ex (nr+i)) (by
     simp only[aB];exact⟨h1.symm,dJ _ _ _ (.inr ⟨.root x0 m 0 .live,by simp⟩),gu.1.1⟩)
    refine⟨⟨G',h3⟩,RI.keeps (hI.puts (Qbx i) hg fun q mm l8 c hc=>?_) h4,h4.nt.trans (iA _ s).2.2.2,h5⟩;simp only[Pbg,Prod.mk.injEq,Pbz,or_false]at hc
    rcases hc with ⟨e,-⟩|⟨e,-⟩
    ·rw[<- e,hI.free q (by omega) l8]at hk;cases hk
    ·have:=dW e;omega
  ·simp[iZ]at h
 ·
  rename_i hf;split at h
  ·rename_i x0 fr gA
   simp only[Option.some.injEq,Prod.mk.injEq]at h;obtain⟨rfl,rfl,rfl⟩:=h;simp only[aA,Obg,aF,Option.some.injEq,Prod.mk.injEq]at gA;obtain⟨sl,h1,fr',h2,rfl,rfl⟩:=gA;obtain⟨v,c,pg,mT,gu⟩:=hR.valAt (iL (k:=p.k) (j:=p.j) rfl (by intro e;rw[e]at h1;cases h1));have hs:=dH hR h1 gu;have lB:v.oneCell'=true:=gu.one (by cases eW:tQ p.k p.j s<;>first|rfl|(rw[eW]at h1;cases h1));refine sP hR hI h2 pg mT fun G' db a7=>?_
   simp only[aB];exact⟨⟨lB,by simp⟩,fun _=>⟨hs.rd.mono fun b hb=>⟨uN a7 (fun z hz=>Pbu hz) hb,rfl⟩,fun e=>absurd e (by decide),trivial⟩⟩
  ·simp[iZ]at h
 ·
  rename_i z hf hl;simp only[Option.some.injEq,Prod.mk.injEq]at h;obtain⟨rfl,rfl,rfl⟩:=h;obtain⟨v,c,pg,mT,gu⟩:=hR.valAt (iL hl (by simp));simp only[aB]at gu
  obtain⟨h1,h2,h3⟩:=hR.putAt pg mT (l:=.rp [] z (.c (.rows z []))) (by
   simp only[aB];exact⟨⟨by rw[gu];rfl,by simp⟩,fun _=>.inl ⟨gu,z,rfl⟩⟩)
  exact⟨⟨G,h1⟩,(hI.keeps h2).succ,h2.nt,h3⟩
 ·
  rename_i z deps z' x0 hf hl;split at h
  ·rename_i fr gA
   simp only[Option.some.injEq,Prod.mk.injEq]at h;obtain⟨rfl,rfl,rfl⟩:=h;simp only[aA,Obg]at gA;obtain⟨ds,h1,h2⟩:=gA;obtain⟨v,c,pg,mT,gu⟩:=hR.valAt (iL hl (by simp));simp only[aB]at gu;obtain⟨h3,h4,h5⟩:=iC h1;refine sP hR hI h2 pg mT fun G' db a7=>?_
   simp only[aB];refine⟨⟨gu.1.1,by simp⟩,fun _=>?_⟩
   rcases gu.2 h3 with h6|⟨ad,row,h6,h7,h8⟩
   ·exact .inl h6
   ·exact .inr ⟨ad,row,h6,h7,(h8.drop hR h5).mono fun b hb=>⟨uN a7 (fun z hz=>Pbu hz) hb,rfl⟩⟩
  ·simp[iZ]at h
 ·
  rename_i z l z' ix hf hl;split at h
  ·rename_i x0 fr gA
   simp only[Option.some.injEq,Prod.mk.injEq]at h;obtain⟨rfl,rfl,rfl⟩:=h;simp only[aA,Obg,aF,Option.some.injEq,Prod.mk.injEq]at gA;obtain⟨sl,h1,fr',h2,rfl,rfl⟩:=gA;obtain⟨v,c,pg,mT,gu⟩:=hR.valAt (iL hl (by simp));simp only[aB]at gu;obtain⟨ad,n,cp,ik,iv,h3,h4,h5,h6,h7⟩:=gu;have hs:=dH hR h1 h3;obtain⟨d,bf,hd⟩:=fC ba rfl;simp only[List.map_cons,List.map_nil,h4]at bf
   have gR:∃ sz rs r,sl.x.val ρ=.rows sz rs/\sz=z'/\rs[iv.toNat]?=some r/\d=.rows z' [r]:=by
    cases hx:sl.x.val ρ with
    | rows sz rs =>
     rw[hx]at bf;simp only[aY.run]at bf;split at bf
     ·rename_i hc
      split at bf
      ·rename_i r hr
       simp only[Option.some.injEq,List.cons.injEq,and_true]at bf;exact⟨sz,rs,r,rfl,hc.1,hr,bf.symm⟩
      ·cases bf
     ·cases bf
    |_=>rw[hx]at bf;simp[aY.run]at bf
   obtain⟨sz,rs,r,hx,rfl,hr,rfl⟩:=gR;have gA:=hs.rd;rw[hx]at gA;obtain⟨A',b,n',c',vs,e1,e2,e3,e4,e5,e6,e7⟩:=gA.inv
   injection e1 with e1 za e1''
   have ar:iv.toNat<rs.length:=(List.getElem?_eq_some_iff.1 hr).1;have hA:some ad=some b:=by rw[e1];exact e4.resolve_left (by omega)
   obtain rfl:=Option.some.inj hA;have wh:r.length=sz:=e5 r (List.mem_of_getElem? hr)
   obtain⟨q1,q2,q3,q4⟩:=sP hR hI h2 pg mT (l:=.rp [] z (.v s.nv)) fun G' db a7=>by
    simp only[aB];refine⟨⟨by rw[h7];rfl,by simp⟩,fun _=>.inr ⟨_,r,h7,by rw[hd,wh],?_⟩⟩;have qf:∀ {b:Nat},allow G sl.deps b->allow G' [] b:=fun hb=>uN a7 (fun z hz=>Pbu hz) hb
    refine .rows _ (ad.add (iv.toNat*sz+0)) 1 1 r.length [r] (fun _ j=>vs iv.toNat j) rfl (Oby _) (.inr rfl) (by simp) (fun i0 r0 nj j d0 hj=>?_) (fun i0 r0 nj j d0 hj=>?_)
    ·cases i0 with
     | zero =>
      simp only[Obn,Option.some.injEq]at nj;subst nj;obtain⟨k1,k2⟩:=e6 _ _ hr j d0 hj;refine⟨by rw[add_block];exact qf k1,?_⟩;rw[add_add];rw[show iv.toNat*sz+0+(0*r.length+j)=iv.toNat*sz+j by omega];exact k2
     |succ i0=>simp at nj
    ·cases i0 with
     | zero =>
      simp only[Obn,Option.some.injEq]at nj;subst nj;exact (e7 _ _ hr j d0 hj).mono fun b hb=>⟨qf hb,rfl⟩
     |succ i0=>simp at nj
   exact⟨q1,⟨q2.nr_,q2.free⟩,q3,rfl⟩
  ·simp[iZ]at h
 ·simp only[Option.some.injEq,Prod.mk.injEq]at h
  obtain⟨rfl,rfl,rfl⟩:=h;exact⟨⟨G,hR⟩,hI.succ,rfl,rfl⟩
 ·simp only[Option.some.injEq,Prod.mk.injEq]at h
  obtain⟨rfl,rfl,rfl⟩:=h;exact⟨⟨G,hR⟩,hI.succ,rfl,rfl⟩
 ·simp[iZ]at h
theorem sQ:∀ {ps:List Pos} {i:Nat} {s s':St} {ls:List Step} {xs:List aI} {G:Gh},iW E nr ps i s=some (ls,s',xs)->RI nr len i s->i+ps.length=len->R E.ntmps F s.get ρ a w G->aJ cf ρ none s.nv ls ->
  (∃ G',R E.ntmps F s'.get ρ a w G')/\s'.nt=s.nt/\s'.nr=s.nr/\s'.nv=s.nv+bD ls
 | [], i, s, s', ls, xs, G, h, hI, hl, hR, ba => by
  simp only[iW,Option.some.injEq,Prod.mk.injEq]at h;obtain⟨rfl,rfl,rfl⟩:=h;exact⟨⟨G,hR⟩,rfl,rfl,rfl⟩
 | p :: ps, i, s, s', ls, xs, G, h, hI, hl, hR, ba => by
  simp only[iW,bind,Obg]at h;obtain⟨⟨l1,s1,x1⟩,h1,⟨l2,s2,xs2⟩,h2,h3⟩:=h;simp only[Option.some.injEq,Prod.mk.injEq]at h3;obtain⟨rfl,rfl,rfl⟩:=h3;simp only[Pbm]at hl;obtain⟨nk,lz⟩:=aJ.append ba;obtain⟨⟨G1,qk⟩,hI1,h4,h5⟩:=Kaz h1 hI (by omega) hR nk;rw[<- h5]at lz;obtain⟨h6,h7,h8,h9⟩:=sQ h2 hI1 (by omega) qk lz;refine⟨h6,h7.trans h4,h8.trans (hI1.nr_.trans hI.nr_.symm),?_⟩;rw[h9,h5,dY,Nat.add_assoc]
theorem nK:∀ {ps:List Pos} {i:Nat} {s s':St} {ls:List Step} {xs:List aI},iW E nr ps i s=some (ls,s',xs)->xs.length=ps.length
 | [], i, s, s', ls, xs, h => by
  simp only[iW,Option.some.injEq,Prod.mk.injEq]at h;obtain⟨rfl,rfl,rfl⟩:=h;rfl
 | p :: ps, i, s, s', ls, xs, h => by
  simp only[iW,bind,Obg]at h;obtain⟨⟨l1,s1,x1⟩,h1,⟨l2,s2,xs2⟩,h2,h3⟩:=h;simp only[Option.some.injEq,Prod.mk.injEq]at h3;obtain⟨rfl,rfl,rfl⟩:=h3;simp[nK h2]
theorem kV {τ:St}:∀ {rs:List Nat} {s s':St} {G:Gh},gD τ rs s=some s'->R E.ntmps F s.get ρ a w G->∃ G',R E.ntmps F s'.get ρ a w G'
 | [], s, s', G, h, hR => by
  simp only[gD,Option.some.injEq]at h;subst h;exact⟨G,hR⟩
 | r :: rs, s, s', G, h, hR => by
  simp only[gD]at h;split at h
  ·rename_i x m v _ hk
   have dt:(dC [r]).eval s.get=some [(kR r,.root x m v .frozen)]:=by
    simp only[dC,aA,aO,Obm];rw[hk];rfl
   obtain⟨G',gv,-,-,-⟩:=hR.freeze dt;have hg:(s.puts [(kR r,.root x m v .frozen)]).get=upds s.get [(kR r,.root x m v .frozen)]:=vE (Ea5 dt);rw[<- hg]at gv;exact kV h gv
  ·exact kV h hR
theorem Ea4 {s:St}(h:lJ s.tr s.nr len=true):RI s.nr len 0 { s with nr:=s.nr+len }:=by
 refine⟨rfl,fun j _ hj=>?_⟩;unfold St.get;dsimp only;rw[vM h (s.nr+j) (by omega) (by omega)];cases rZ s.nt s.nb (s.nr+len) (kR (s.nr+j))<;>rfl
theorem Qai {s:St}(h:lJ s.tr s.nr len=true):({ s with nr:=s.nr+len }:St).get=s.get:=by
 funext k;unfold St.get;dsimp only;unfold rZ
 cases b0:Nat.beq (k % 3) 0 with
 |true=>rfl
 | false =>
  rw[cond_false,cond_false]
  cases b1:Nat.beq (k % 3) 1 with
  |true=>rfl
  | false =>
   rw[cond_false,cond_false];have n0:k % 3≠0:=fun e=>by rw[e]at b0;cases b0
   have n1:k % 3≠1:=fun e=>by rw[e]at b1;cases b1
   cases hb:Pbs (k / 3) s.nr with
   | true =>
    have:Pbs (k / 3) (s.nr+len)=true:=by simp only[Pbf]at hb ⊢;omega
    rw[this]
   | false =>
    cases cF:Pbs (k / 3) (s.nr+len) with
    |false=>rfl
    | true =>
     simp only[Pbf]at cF
     have ma:s.nr<=k / 3:=by
      rcases Ob2 (k / 3) s.nr with h1|h1
      ·rw[<- Pbf,hb]at h1;cases h1
      ·exact h1
     have:k=kR (k / 3):=by unfold kR;omega
     rw[cond_true,cond_false,this];exact vM h _ ma cF
theorem Oan {s0:St}{br:Nat}{a6:List Pos}{τ:St}{kind:Kind}{r:Tm St}(h:Fao E s0.nv s0.nr br a6 τ kind s=some r)(kn:wS E s0 br a6.length τ){ρ0 e:List D}(hρ:ρ=ρ0++e)(h0:ρ0.length=s0.nv)
  {o:Out St} (ho:Ec cf r ρ=some o) (hl:ρ.length=s.nv) (hi:Aak E s) :
  o.kind=kind/\o.vals.length=a6.length/\∀ a w G,R E.ntmps F s.get ρ a w G->∃ G',R E.ntmps F τ.get (ρ0++o.vals) a w G':=by
 unfold Fao at h;simp only[bind,Obg]at h;obtain⟨⟨ls,s1,xs⟩,h1,s2,h2,h3⟩:=h;dsimp only at h1 h2 h3;generalize hb:(lG E s0.nv xs s0.nr br s.nr a6.length τ s2&&lJ s.tr s.nr a6.length&&Nat.ble s0.nr s.nr&&dP s.nv ls&&xs.all (aX (s.nv+bD ls)))=b at h3
 cases b with
 |false=>simp[iZ]at h3
 | true =>
  rw[cond_true]at h3;obtain rfl:=Option.some.inj h3;simp only[Obh,Pbn]at hb;obtain⟨⟨⟨⟨oi,lp⟩,sY⟩,hb4⟩,hb5⟩:=hb;obtain⟨ds,h4,h5,h6⟩:=sK (g:=none) rfl (by rw[hl];exact hb4) ho;rw[fB]at h5;obtain rfl:=Option.some.inj h5;refine⟨rfl,by simp[Out.vals,nK h1],fun a w G hR=>?_⟩;have h6':=h6 [];rw[Pbc,hl]at h6'
  have qk:R E.ntmps F ({ s with nr:=s.nr+a6.length }:St).get (ρ++ds) a w G:=by
   rw[Qai lp];exact hR.ext hi.sc (by omega) ds
  obtain⟨⟨G1,xm⟩,h7,h8,h9⟩:=sQ (cf:=cf) h1 (Ea4 lp) (by simp) qk h6';obtain⟨G2,hR3⟩:=kV h2 xm;subst hρ;rw[Obs]at hR3;have:=hR3.fit h0 (nK h1) kn oi sY;rw[Obs];exact this
end
theorem oI (b c k:Nat):jU b c (jU b c k)=k:=by
 unfold jU
 cases h1:Nat.beq k b with
 | true =>
  simp only[Ob4]at h1;subst h1;rw[cond_true]
  cases h2:Nat.beq c k with
  |true=>simp only[Ob4]at h2;rw[cond_true];exact h2
  |false=>rw[cond_false,show Nat.beq c c=true by simp,cond_true]
 | false =>
  rw[cond_false]
  cases h2:Nat.beq k c with
  | true =>
   simp only[Ob4]at h2;subst h2;rw[cond_true,show Nat.beq b b=true by simp,cond_true]
  |false=>rw[cond_false,h1,h2,cond_false,cond_false]
theorem Kab {b c k K:Nat}(hk:k<K)(hb:K<=b)(hc:K<=c):jU b c k=k:=by
 unfold jU
 have h1:Nat.beq k b=false:=by cases h:Nat.beq k b with
  |false=>rfl
  |true=>simp only[Ob4]at h;omega
 have h2:Nat.beq k c=false:=by cases h:Nat.beq k c with
  |false=>rfl
  |true=>simp only[Ob4]at h;omega
 rw[h1,h2];rfl
theorem Xas {b c k n:Nat}(hb:b<n)(hc:c<n):jU b c k<n↔k<n:=by
 unfold jU
 cases h1:Nat.beq k b with
 |true=>simp only[Ob4]at h1;rw[cond_true];omega
 | false =>
  rw[cond_false]
  cases h2:Nat.beq k c with
  |true=>simp only[Ob4]at h2;rw[cond_true];omega
  |false=>rw[cond_false]
def swS (b c:Nat)(σ:Nat->Option aN):Nat->Option aN:=fun k=>(σ (kQ b c k)).map (lV b c)
def swO (b c:Nat):Ow->Ow
 |.box j=>.box (jU b c j)
 |o=>o
def swG (b c:Nat)(G:Gh):Gh:=⟨fun x=>swO b c (G.own x),G.hdr,fun j=>G.bx (jU b c j)⟩
theorem zJ (b c r:Nat):kQ b c (kR r)=kR r:=by
 unfold kQ;rw[show Nat.beq (kR r % 3) 1=false by unfold kR;rw[show (3*r+2) % 3=2 by omega];rfl];rfl
theorem Laj (b c j:Nat):kQ b c (kB j)=kB (jU b c j):=by
 unfold kQ;have e1:kB j % 3=1:=by unfold kB;omega
 have e2:kB j / 3=j:=by unfold kB;omega
 rw[e1,e2];rfl
theorem Iad {b c:Nat}{o:Ow}:swO b c o=.frz↔o=.frz:=by cases o<;>simp[swO]
theorem Iac {b c:Nat}{o:Ow}{r:Nat}{p:List Nat}:swO b c o=.slc r p↔o=.slc r p:=by cases o<;>simp[swO]
theorem Jah {b c:Nat}{y:aN}{x:aI}{m v:Nat}{st:RSt}:lV b c y=.root x m v st↔y=.root x m v st:=by cases y<;>simp[lV]
theorem Iab {b c:Nat}{σ:Nat->Option aN}{r:Nat}{x:aI}{m v:Nat}{st:RSt}:swS b c σ (kR r)=some (.root x m v st)↔σ (kR r)=some (.root x m v st):=by
 unfold swS;rw[zJ]
 cases σ (kR r) with
 |none=>simp
 |some y=>simp only[Pbj,Option.some.injEq];exact Jah
theorem Ca3 {b c:Nat}{σ:Nat->Option aN}{k:Nat}:(swS b c σ k).isSome=(σ (kQ b c k)).isSome:=by
 unfold swS;cases σ (kQ b c k)<;>rfl
section
variable {b c:Nat} {σ:Nat->Option aN} {ρ:List D} {G:Gh} {w:World}
theorem Oa7 {r k:Nat}:kJ (swS b c σ) r k↔kJ σ r k:=by
 unfold kJ;simp only[Iab]
theorem Oa8 {r k:Nat}:iG (swS b c σ) r k↔iG σ r k:=by
 unfold iG;simp only[Iab]
theorem Nag {r k m:Nat}:vX (swS b c σ) r k m↔vX σ r k m:=by
 unfold vX;simp only[Iab]
theorem Oa9 {deps:List (Nat×Nat)}{x:Nat}(h:allow G deps x):allow (swG b c G) deps x:=by
 rcases h with h|⟨r,k,p,hm,h⟩
 ·exact .inl (Iad.2 h)
 ·exact .inr ⟨r,k,p,hm,Iac.2 h⟩
theorem Abn {r:Nat}{p:List Nat}{m:Nat}{v:Value}{d:D}(h:Rp G.own w r p m v d):Rp (swG b c G).own w r p m v d:=by
 have:=h.mono (own':=(swG b c G).own) (w':=w) (r':=r) (q:=[]) (q':=[]) (fun x hx=>⟨Iad.2 hx,rfl⟩) p rfl (fun x t hx=>⟨Iac.2 hx,rfl⟩);simpa using this
theorem Abo {r:Nat}{q p:List Nat}{v u:Value}(h:wB G.own w r q v p u):wB (swG b c G).own w r q v p u :=
 wB.mono p q q v u (fun x t hx=>⟨Iac.2 hx,rfl⟩) h
theorem Cb7 {deps:List (Nat×Nat)}{v:Value}{d:D}{p:Pth}(h:Aaj σ ρ G w deps v d p):Aaj (swS b c σ) ρ (swG b c G) w deps v d p:=by
 cases p with
 |no=>trivial
 |view=>exact fun r k m e hl=>Abn (h r k m e (Nag.1 hl))
 |suf sz lo=>exact fun r k m e hl=>h r k m e (Nag.1 hl)
 | path p =>
  intro r k m e hl;obtain⟨h1,h2,h3⟩:=h r k m e (Nag.1 hl);exact⟨h1,Abn h2,Abo h3⟩
mutual
theorem Ha9:∀ (l:aM) (v:Value),aB σ ρ G w l v->aB (swS b c σ) ρ (swG b c G) w (l.swap b c) v
 |.dead,_,hl=>by simpa[aB,aM.swap] using hl
 |.sc x,v,hl=>by simpa[aB,aM.swap] using hl
 |.su g x,v,hl=>by simpa[aB,aM.swap] using hl
 | .ex r, v, hl => by
  simp only[aB,aM.swap]at hl ⊢;exact⟨hl.1,by rw[Ca3,zJ];exact hl.2.1,hl.2.2⟩
 | .sn deps p nie x, v, hl => by
  simp only[aB,aM.swap]at hl ⊢;refine⟨⟨hl.1.1,fun z hz=>Oa8.2 (hl.1.2 z hz)⟩,fun hv=>?_⟩;obtain⟨h1,h2,h3⟩:=hl.2 (fun z hz=>Oa7.1 (hv z hz));exact⟨h1.mono fun x hx=>⟨Oa9 hx,rfl⟩,h2,Cb7 h3⟩
 | .px k off, v, hl => by
  simp only[aB,aM.swap]at hl ⊢;refine⟨?_,?_⟩
  ·show v=.pointer (some ((G.bx (jU b c (jU b c k))).add off))
   rw[oI];exact hl.1
  ·rw[Ca3,Laj,oI];exact hl.2
 | .pe l sz i off, v, hl => by
  simp only[aB,aM.swap]at hl ⊢;obtain⟨a,n,c',k,iv,h1,h2⟩:=hl;exact⟨a,n,c',k,iv,Ha9 l _ h1,h2⟩
 | .rp deps sz x, v, hl => by
  simp only[aB,aM.swap]at hl ⊢;refine⟨⟨hl.1.1,fun z hz=>Oa8.2 (hl.1.2 z hz)⟩,fun hv=>?_⟩
  rcases hl.2 (fun z hz=>Oa7.1 (hv z hz)) with h1|⟨a,row,h1,h2,h3⟩
  ·exact .inl h1
  ·exact .inr ⟨a,row,h1,h2,h3.mono fun x hx=>⟨Oa9 hx,rfl⟩⟩
 |.pn,v,hl=>by simpa[aB,aM.swap] using hl
 | .clo f eN, v, hl => by
  simp only[aB,aM.swap]at hl ⊢;obtain⟨vs,h1,h2⟩:=hl;exact⟨vs,h1,xZ eN vs h2⟩
theorem xZ:∀ (ls:List aM) (vs:List Value),aG σ ρ G w ls vs->aG (swS b c σ) ρ (swG b c G) w (bO b c ls) vs
 |[],vs,hl=>by simpa[aG,bO] using hl
 | l :: ls, vs, hl => by
  simp only[aG,bO]at hl ⊢;obtain⟨u,us,e,h1,h2⟩:=hl;exact⟨u,us,e,Ha9 l u h1,xZ ls us h2⟩
end
theorem Zaw:∀ (ts:List (Bool×List aM)) (us:List Value),gU σ ρ G w ts us->gU (swS b c σ) ρ (swG b c G) w (ts.map fun t=>(t.1,bO b c t.2)) us
 |[],_,ht=>ht
 | (a, ls) :: r, us, ht => by
  obtain⟨u,cA,vs,e,h1,h2,h3⟩:=ht;exact⟨u,cA,vs,e,xZ ls vs h1,h2,Zaw r cA h3⟩
theorem Ibs {v:SV}{u:Value}(hv:bR σ ρ G w v u):bR (swS b c σ) ρ (swG b c G) w (Taa b c v) u:=by
 cases v with
 |dead=>trivial
 |one l=>exact Ha9 l u hv
 |agg ls=>obtain⟨vs,e,h1⟩:=hv;exact⟨vs,e,xZ ls vs h1⟩
 |tup ts=>obtain⟨us,e,h1⟩:=hv;exact⟨us,e,Zaw ts us h1⟩
theorem zA:∀ (ls:List aM) (j:Nat),(bO b c ls)[j]?=(ls[j]?).map (aM.swap b c)
 |[],j=>by simp[bO]
 |l::ls,0=>by simp[bO]
 |l::ls,j+1=>by simp[bO,zA ls j]
theorem wM:∀ (ls:List aM),(bO b c ls).length=ls.length
 |[]=>rfl
 |l::ls=>by simp[bO,wM ls]
end
def Bao (F:bC)(K:Nat):Prop:=∀ x j,x<F.w0.heap.size->F.own0 x=.box j->j<K
theorem R.swap {n:Nat}{F:bC}{σ:Nat->Option aN}{ρ:List D}{a:Act}{w:World}{G:Gh}(h:R n F σ ρ a w G){K:Nat}(hF:Bao F K){b c:Nat}(hb:K<=b)(hc:K<=c):R n F (swS b c σ) ρ a w (swG b c G):=by
 refine⟨h.tmps,h.defers,fun k y hk=>?_,⟨h.frame.os,h.frame.tape,h.frame.output,h.frame.size,fun x hx ho=>?_,fun x j hx ho=>?_,fun x hx=>Iad.2 (h.frame.fresh x hx)⟩,fun j ls hk hx ho=>?_⟩
 ·unfold swS at hk
  rw[Obr]at hk;obtain⟨z,hz,rfl⟩:=hk;have hr:=h.cont _ _ hz
  cases z with
  | slot g v =>
   obtain⟨t,e,h1⟩:=hr
   have ek:k=kT t:=by
    unfold kQ at e
    cases hm:Nat.beq (k % 3) 1 with
    |true=>rw[hm,cond_true]at e;exact absurd e.symm kD
    |false=>rw[hm,cond_false]at e;exact e
   exact⟨t,ek,fun hg=>Ibs (h1 hg)⟩
  | box ro ls =>
   obtain⟨j,e,h1,h2,h3⟩:=hr
   have ek:k=kB (jU b c j):=by
    unfold kQ at e
    cases hm:Nat.beq (k % 3) 1 with
    | true =>
     rw[hm,cond_true]at e;simp only[Ob4]at hm;have:=zL e;rw[<- this,oI];unfold kB;omega
    | false =>
     rw[hm,cond_false]at e;rw[e]at hm;have:kB j % 3=1:=by unfold kB;omega
     rw[this]at hm;cases hm
   refine⟨jU b c j,ek,?_,?_,fun i l hl=>?_⟩
   ·show (G.bx (jU b c (jU b c j))).spot=none
    rw[oI];exact h1
   ·show swO b c (G.own (G.bx (jU b c (jU b c j))).block)=_
    rw[oI,h2];cases ro<;>rfl
   ·rw[zA,Obr]at hl
    obtain⟨l0,lR,rfl⟩:=hl;obtain⟨v,h4,h5,h6⟩:=h3 i l0 lR;show ∃ v,w.cell? ((G.bx (jU b c (jU b c j))).add i)=some v/\w.frozen? ((G.bx (jU b c (jU b c j))).add i)=false/\_
    rw[oI];exact⟨v,h4,h5,Ha9 l0 v h6⟩
  | root x m aE st =>
   obtain⟨r,e,h1,h2⟩:=hr
   have ek:k=kR r:=by
    unfold kQ at e
    cases hm:Nat.beq (k % 3) 1 with
    |true=>rw[hm,cond_true]at e;exact absurd e dZ
    |false=>rw[hm,cond_false]at e;exact e
   refine⟨r,ek,by rw[Ca3,zJ];exact h1,?_⟩
   cases st with
   |live=>exact Abn h2
   |frozen=>exact⟨h2.1.mono fun x hx=>⟨Iad.2 hx,rfl⟩,fun x p hx=>h2.2 x p (Iac.1 hx)⟩
   |gone=>trivial
   |fwd r'=>exact⟨h2.1,by rw[Ca3,zJ];exact h2.2⟩
 ·obtain⟨h1,h2⟩:=h.frame.keep x hx ho
  refine⟨h1,?_⟩;show swO b c (G.own x)=_
  rw[h2]
  rcases ho with ho|ho<;>rw[ho]<;>rfl
 ·obtain⟨h1,h2⟩:=h.frame.boxes x j hx ho
  refine⟨?_,h2⟩;show swO b c (G.own x)=_
  rw[h1];show Ow.box (jU b c j)=_
  rw[Kab (hF x j hx ho) hb hc]
 ·have hj:=hF _ j hx ho
  have e:=Kab hj hb hc
  have jd:σ (kB j)=some (.box false ls)\/∃ l0,σ (kB j)=some (.box false l0)/\l0.length=ls.length:=by
   unfold swS at hk;rw[Laj,e,Obr]at hk;obtain⟨z,hz,hs⟩:=hk
   cases z with
   |slot=>simp[lV]at hs
   |root=>simp[lV]at hs
   | box ro l0 =>
    simp only[lV,aN.box.injEq]at hs;obtain⟨rfl,rfl⟩:=hs;exact .inr ⟨l0,hz,(wM l0).symm⟩
  have e2:(swG b c G).bx j=G.bx j:=by show G.bx (jU b c j)=_;rw[e]
  rw[e2]at hx ho ⊢
  rcases jd with jd|⟨l0,jd,hl⟩
  ·exact h.rng j ls jd hx ho
  ·rw[<- hl];exact h.rng j l0 jd hx ho
theorem Ga3 {f:Nat->Option aN}:∀ (L:List Nat) (t:Tr aN) (k:Nat),(Ka1 f L t).get k=if k∈L then f k else t.get k
 |[],t,k=>by simp[Ka1]
 | x :: L, t, k => by
  rw[Ka1,Ga3 L _ k];by_cases h:k∈L
  ·rw[if_pos h,if_pos (Obq _ h)]
  ·rw[if_neg h,Tr.get_set]
   by_cases e:k=x
   ·subst e;rw[if_pos rfl,if_pos Obu]
   ·rw[if_neg e,if_neg (by simp only[Pbg,not_or];exact⟨e,h⟩)]
theorem Ebq {nt nb nr k:Nat}:k∈(range 0 nt).map kT++(range 0 nb).map kB++(range 0 nr).map kR↔rZ nt nb nr k=true:=by
 unfold rZ;simp only[List.mem_append,List.mem_map,mem_range];constructor
 ·rintro ((⟨x,hx,rfl⟩|⟨x,hx,rfl⟩)|⟨x,hx,rfl⟩)
  ·rw[show kT x % 3=0 by unfold kT;omega,show kT x / 3=x by unfold kT;omega];simpa using hx.2
  ·rw[show kB x % 3=1 by unfold kB;omega,show kB x / 3=x by unfold kB;omega];simpa using hx.2
  ·rw[show kR x % 3=2 by unfold kR;omega,show kR x / 3=x by unfold kR;omega];simpa using hx.2
 ·have a2s:k % 3=0\/k % 3=1\/k % 3=2:=by omega
  rcases a2s with h|h|h<;>rw[h]<;>intro hk
  ·have jd:k / 3<nt:=by simpa using hk
   exact .inl (.inl ⟨k / 3,⟨Pby _,by omega⟩,by unfold kT;omega⟩)
  ·have jd:k / 3<nb:=by simpa using hk
   exact .inl (.inr ⟨k / 3,⟨Pby _,by omega⟩,by unfold kB;omega⟩)
  ·have jd:k / 3<nr:=by simpa using hk
   exact .inr ⟨k / 3,⟨Pby _,by omega⟩,by unfold kR;omega⟩
theorem Rav {nt nb nr b c k:Nat}(hb:b<nb)(hc:c<nb):rZ nt nb nr (kQ b c k)=rZ nt nb nr k:=by
 unfold kQ
 cases h:Nat.beq (k % 3) 1 with
 |false=>rfl
 | true =>
  rw[cond_true];simp only[Ob4]at h;unfold rZ;rw[show kB (jU b c (k / 3)) % 3=1 by unfold kB;omega,show kB (jU b c (k / 3)) / 3=jU b c (k / 3) by unfold kB;omega,h];show Pbs _ _=Pbs _ _
  have:=Xas (k:=k / 3) hb hc;cases h1:Pbs (jU b c (k / 3)) nb<;>cases h2:Pbs (k / 3) nb<;>first|rfl|skip
  ·simp only[Pbf]at h2
   have:=this.2 h2;rw[<- Pbf,h1]at this;cases this
  ·simp only[Pbf]at h1
   have:=this.1 h1;rw[<- Pbf,h2]at this;cases this
theorem Oa6 {s:St}{b c:Nat}(hb:b<s.nb)(hc:c<s.nb):(s.swap b c).get=swS b c s.get:=by
 funext k;have e0:(s.swap b c).get k=bif rZ s.nt s.nb s.nr k then (s.swap b c).tr.get k else none:=rfl;have e1:(s.swap b c).tr.get k=if k∈(range 0 s.nt).map kT++(range 0 s.nb).map kB++(range 0 s.nr).map kR then swS b c s.get k else s.tr.get k:=Ga3 _ _ k
 rw[e0,e1]
 cases h:rZ s.nt s.nb s.nr k with
 |true=>rw[cond_true,if_pos (Ebq.2 h)]
 | false =>
  rw[cond_false];unfold swS St.get;rw[Rav hb hc,h];rfl
theorem Hai {b c N:Nat}:∀ l:aM,(l.swap b c).inScope N=l.inScope N:=by
 intro l
 induction l using aM.rec (motive_2:=fun ls=>bB N (bO b c ls)=bB N ls) with
 |dead=>rfl
 |sc=>rfl
 |su=>rfl
 |ex=>rfl
 |sn=>rfl
 |px=>rfl
 |pe l sz i off ih=>simp only[aM.swap,aM.inScope,ih]
 |rp=>rfl
 |pn=>rfl
 |clo f eN ih=>simp only[aM.swap,aM.inScope,ih]
 |nil=>rfl
 |cons l ls h1 h2=>simp only[bO,bB,h1,h2]
theorem nL {b c N:Nat}:∀ ls:List aM,bB N (bO b c ls)=bB N ls
 |[]=>rfl
 |l::ls=>by simp only[bO,bB,Hai,nL ls]
theorem Sah {b c N:Nat}(y:aN):bP N (lV b c y)=bP N y:=by
 cases y with
 | slot g v =>
  simp only[lV,bP];congr 1
  cases v with
  |dead=>rfl
  |one l=>exact Hai l
  |agg ls=>exact nL ls
  | tup ts =>
   simp only[Taa,uX,List.all_map];congr 1;funext t;exact nL t.2
 |box ro ls=>exact nL ls
 |root=>rfl
theorem Aak.swap {E:Env}{s:St}(h:Aak E s){b c:Nat}(hb:b<s.nb)(hc:c<s.nb):Aak E (s.swap b c):=by
 refine⟨h.nt,?_⟩;rw[Oa6 hb hc];intro k y hk;unfold swS at hk;rw[Obr]at hk;obtain⟨z,hz,rfl⟩:=hk;rw[Sah];exact h.sc _ _ hz
theorem vF {E:Env}{F:bC}(hF:Bao F E.nbx){τ:St}:∀ (ts:List Nat) (s:St),Aak E s->Aak E (Na4 E τ ts s)/\(Na4 E τ ts s).nv=s.nv/\∀ {ρ:List D} {a:Act} {w:World} {G:Gh},R E.ntmps F s.get ρ a w G->∃ G',R E.ntmps F (Na4 E τ ts s).get ρ a w G'
 |[],s,hi=>⟨hi,rfl,fun hR=>⟨_,hR⟩⟩
 | t :: ts, s, hi => by
  unfold Na4;split
  ·rename_i b c _ _
   cases hg:(!(Nat.beq b c)&&Nat.ble E.nbx b&&Nat.ble E.nbx c&&Pbs b s.nb&&Pbs c s.nb) with
   |false=>rw[cond_false];exact vF hF ts s hi
   | true =>
    rw[cond_true];simp only[Obh,Pbn,Pbf]at hg;obtain⟨⟨⟨⟨-,h1⟩,h2⟩,h3⟩,h4⟩:=hg;obtain⟨k1,k2,k3⟩:=vF hF ts (s.swap b c) (hi.swap h3 h4);refine⟨k1,k2,fun hR=>?_⟩;have:=hR.swap hF h1 h2;rw[<- Oa6 h3 h4]at this;exact k3 this
  ·exact vF hF ts s hi
section
variable {E:Env} {F:bC} {cf:Nat->List D->Option (List D)} {ρ:List D} {s:St}
theorem Haq (hF:Bao F E.nbx){s0:St}{br:Nat}{a6:List Pos}{τ:St}{kind:Kind}{r:Tm St}(h:coerce E s0.nv s0.nr br a6 τ kind s=some r)(kn:wS E s0 br a6.length τ){ρ0 e:List D}(hρ:ρ=ρ0++e)(h0:ρ0.length=s0.nv)
  {o:Out St} (ho:Ec cf r ρ=some o) (hl:ρ.length=s.nv) (hi:Aak E s) :
  o.kind=kind/\o.vals.length=a6.length/\∀ a w G,R E.ntmps F s.get ρ a w G->∃ G',R E.ntmps F τ.get (ρ0++o.vals) a w G':=by
 obtain⟨h1,h2,h3⟩:=vF hF (τ:=τ) E.pxs s hi;obtain⟨h4,h5,h6⟩:=Oan (F:=F) h kn hρ h0 ho (hl.trans h2.symm) h1;refine⟨h4,h5,fun a w G hR=>?_⟩;obtain⟨G',gv⟩:=h3 hR;exact h6 a w G' gv
end
def Vad:Kind->Exit
 |.fall=>.normal
 |.exit id=>.exit id
 |.ret=>.ret
 |_=>.outgrown
def Ib0:Kind->Prop
 |.cont=>False
 |.yield _=>False
 |_=>True
structure Post (E:Env) (ρ:List D) (o:Out St):Prop where
 nice:Ib0 o.kind
 len:o.env.length=o.ext.nv
 inv:Aak E o.ext
 pre:∃ ds,o.env=ρ++ds
def Wp (P:Program)(E:Env)(F:bC)(c:Code)(s:St)(ρ:List D)(o:Out St):Prop :=
 ∀ a w G Q,R E.ntmps F s.get ρ a w G->(∀ a' w' G',R E.ntmps F o.ext.get o.env a' w' G'->Q (Vad o.kind) a' w')->c.wp P Q a w
theorem Post.trans {E:Env}{ρ ds:List D}{o:Out St}(h:Post E (ρ++ds) o):Post E ρ o:=by
 obtain⟨es,h1⟩:=h.pre;exact⟨h.nice,h.len,h.inv,ds++es,by rw[h1,Obs]⟩
theorem Hax {k:Kind}:nA k=true↔k=.fall:=by cases k<;>simp[nA]
section
variable {P:Program} {E:Env} {F:bC} {cf:Nat->List D->Option (List D)} {ρ:List D}
theorem kM {g:Option (aI×Bool)}{kind:Kind}{xs:List aI}{s:St}:∀ {ls:List Step} {ρ:List D} {o:Out St},Ec cf (mG g (.leaf kind xs s) ls) ρ=some o->o.kind=kind
 | [], ρ, o, h => by
  rw[mG,fB]at h;obtain rfl:=Option.some.inj h;rfl
 | .prim p ys n :: r, ρ, o, h => by
  rw[mG,Jat]at h;split at h
  ·simp only[Obg]at h
   obtain⟨ds,-,h⟩:=h;split at h
   ·exact kM h
   ·cases h
  ·exact kM h
 | .call f ys n olds :: r, ρ, o, h => by
  rw[mG,qZ]at h;split at h
  ·simp only[Obg]at h
   obtain⟨ds,-,h⟩:=h;split at h
   ·exact kM h
   ·cases h
  ·exact kM h
theorem Mao {n dT br:Nat}{a6:List Pos}{τ s:St}{kind:Kind}{r:Tm St}(h:Fao E n dT br a6 τ kind s=some r){ρ:List D}{o:Out St}(ho:Ec cf r ρ=some o):o.kind=kind:=by
 unfold Fao at h;simp only[bind,Obg]at h;obtain⟨⟨ls,s1,xs⟩,h1,s2,h2,h3⟩:=h;dsimp only at h3
 revert h3
 generalize (lG E n xs dT br s.nr a6.length τ s2&&lJ s.tr s.nr a6.length&&Nat.ble dT s.nr&&dP s.nv ls&&xs.all (aX (s.nv+bD ls)))=b;intro h3
 cases b with
 |false=>simp[iZ]at h3
 | true =>
  rw[cond_true]at h3;obtain rfl:=Option.some.inj h3;exact kM ho
theorem Fan {n dT br:Nat}{a6:List Pos}{τ s:St}{kind:Kind}{r:Tm St}(h:coerce E n dT br a6 τ kind s=some r){ρ:List D}{o:Out St}(ho:Ec cf r ρ=some o):o.kind=kind:=Mao h ho
theorem Yak {live:Nat}{s0:St}{i:Nat}{ij:Kind->Bool}{ends:List St}{t t':Tm St}{τ:St}(h:join E live s0 i ij ends t=some (t',τ)) :
  ∃ a6 fj,wS E s0 fj a6.length τ/\t.turn (.yield i) ij (coerce E s0.nv s0.nr fj a6 τ (.yield i))=some t':=by
 unfold join at h;dsimp only at h
 revert h
 generalize hb:Bar E s0 _ _ _=b;intro h
 cases b with
 |false=>simp[iZ]at h
 | true =>
  rw[cond_true,Obr]at h;obtain⟨t1,h1,h2⟩:=h;obtain⟨rfl,rfl⟩:=Prod.mk.inj h2;exact⟨_,_,wX hb,h1⟩
theorem Uaq (hF:Bao F E.nbx){live:Nat}{s0:St}{i:Nat}{ij:Kind->Bool}{ends:List St}{t t' k:Tm St}{τ:St}(h:join E live s0 i ij ends t=some (t',τ))(hc:ij .cont=false)(hy:∀ i,ij (.yield i)=false)
  {o:Out St} (ho:Ec cf (.bind i t' k) ρ=some o) (hl:ρ.length=s0.nv) (hP:∀ o1,Ec cf t ρ=some o1->Post E ρ o1) :
  ∃ o1,Ec cf t ρ=some o1/\((ij o1.kind=true/\∃ vals,Ec cf k (ρ++vals)=some o/\(ρ++vals).length=τ.nv/\Aak E τ/\∀ a w G,R E.ntmps F o1.ext.get o1.env a w G->∃ G',R E.ntmps F τ.get (ρ++vals) a w G')\/(ij o1.kind=false/\o=o1)):=by
 obtain⟨a6,fj,kn,ht⟩:=Yak h;simp only[oF,Obg]at ho;obtain⟨o',h1,h2⟩:=ho;obtain⟨o1,h3,h4⟩:=jV (fun s r hr ρ o ho=>Fan hr ho) hc hy ht h1;refine⟨o1,h3,?_⟩;have hp:=hP o1 h3
 rcases h4 with ⟨h5,h6,r,h7,h8⟩|⟨h5,h6⟩
 ·refine .inl ⟨h5,?_⟩
  rw[if_pos h6]at h2;obtain⟨ds,h9⟩:=hp.pre;obtain⟨b9,da,fk⟩:=Haq hF h7 kn h9 hl h8 hp.len hp.inv;exact⟨o'.vals,h2,by rw[Obv,hl,da,kn.nv],⟨kn.nt1,kn.inScope⟩,fk⟩
 ·refine .inr ⟨h5,?_⟩
  subst h6
  have:o'.kind≠.yield i:=fun e=>by
   have:=hp.nice;rw[e]at this;exact this
  rw[if_neg this]at h2;exact (Option.some.inj h2).symm
theorem Eaq {live:Nat}{s:St}{body:St->Option (Tm St)}:∀ {fuel:Nat} {a6:List Pos} {keys:List Nat} {fj:Nat} {seen:List St} {t:Tm St},Ear E live s body fuel a6 keys fj seen=some t ->
  ∃ a6 fj τ tb oo xs s1 s2,body τ=some tb/\wS E s fj a6.length τ/\iW E s.nr a6 0 { s with nr:=s.nr+a6.length }=some ([],s1,xs)/\gD τ (range 0 s.nr) s1=some s2 /\
   lG E s.nv xs s.nr fj s.nr a6.length τ s2=true/\lJ s.tr s.nr a6.length=true/\tb.turn .cont nA (coerce E s.nv s.nr fj a6 τ .cont)=some oo/\t=.loop xs oo
 |0,_,_,_,_,t,h=>by simp[Ear,iZ]at h
 | fuel + 1, a6, keys, fj, seen, t, h => by
  simp only[Ear]at h;split at h
  ·cases h
  ·rename_i tb hb
   revert h
   generalize hc:(Na3 a6 _&&_&&_)=b;intro h
   cases b with
   | false =>
    rw[cond_false]at h;exact Eaq h
   | true =>
    rw[cond_true]at h;simp only[bind,Obg]at h;obtain⟨⟨pre,s1,xs⟩,h1,s2,h2,h3⟩:=h;dsimp only at h1 h2 h3
    revert h3
    generalize hd:(lG E s.nv xs s.nr fj s.nr a6.length _ s2&&lJ s.tr s.nr a6.length&&pre.isEmpty&&Bar E s fj a6.length _)=b;intro h3
    cases b with
    |false=>simp[iZ]at h3
    | true =>
     rw[cond_true]at h3;simp only[Obg,Option.some.injEq]at h3;obtain⟨oo,h4,h5⟩:=h3;simp only[Obh,Qb4]at hd;obtain⟨⟨⟨gp,qi⟩,rfl⟩,hd4⟩:=hd;exact⟨a6,fj,_,tb,oo,xs,s1,s2,hb,wX hd4,h1,h2,gp,qi,h4,h5.symm⟩
theorem Lag {s:St}{body:St->Option (Tm St)}{H:List (Nat×Nat×Nat×Nat)×List Nat×Nat×List Nat}{t:Tm St}(h:Iaz E s body H=some t) :
  ∃ a6 fj τ tb oo xs s1 s2,body τ=some tb/\wS E s fj a6.length τ/\iW E s.nr a6 0 { s with nr:=s.nr+a6.length }=some ([],s1,xs)/\gD τ (range 0 s.nr) s1=some s2 /\
   lG E s.nv xs s.nr fj s.nr a6.length τ s2=true/\lJ s.tr s.nr a6.length=true/\tb.turn .cont nA (coerce E s.nv s.nr fj a6 τ .cont)=some oo/\t=.loop xs oo:=by
 unfold Iaz at h
 revert h
 generalize (H.1.map fun p=>(⟨p.1,p.2.1,Ebw p.2.2.1 p.2.2.2⟩:Pos))=a6;generalize s.nr+H.2.2.1=fj;intro h;dsimp only at h;split at h
 ·cases h
 ·rename_i tb hb
  simp only[bind,Obg]at h;obtain⟨⟨pre,s1,xs⟩,h1,s2,h2,h3⟩:=h;dsimp only at h1 h2 h3
  revert h3
  generalize hd:(lG E s.nv xs s.nr fj s.nr a6.length _ s2&&lJ s.tr s.nr a6.length&&pre.isEmpty&&Bar E s fj a6.length _)=b;intro h3
  cases b with
  |false=>simp[iZ]at h3
  | true =>
   rw[cond_true]at h3;simp only[Obg,Option.some.injEq]at h3;obtain⟨oo,h4,h5⟩:=h3;simp only[Obh,Qb4]at hd;obtain⟨⟨⟨gp,qi⟩,rfl⟩,hd4⟩:=hd;exact⟨a6,fj,_,tb,oo,xs,s1,s2,hb,wX hd4,h1,h2,gp,qi,h4,h5.symm⟩
theorem least {p:Nat->Prop}(h:∃ n,p n):∃ n,p n/\∀ m,p m->n<=m:=by
 obtain⟨n,hn⟩:=h
 induction n using Nat.strongRecOn with
 | _ n ih =>
  by_cases h:∃ m,m<n/\p m
  ·obtain⟨m,h1,h2⟩:=h
   exact ih m h1 h2
  ·refine⟨n,hn,fun m hm=>?_⟩
   rcases Ob2 m n with h1|h1
   ·exact absurd ⟨m,h1,hm⟩ h
   ·exact h1
open Classical in
theorem Jaz {c:Code}{Q:Exit->Act->World->Prop}(K:Nat->Act->World->Prop)
  (round:∀ n a w,K n a w->c.wp P (Exit.then (fun a' w'=>∃ m,m<n/\K m a' w') Q) a w) {n:Nat} {a:Act} {w:World} (h0:K n a w):(Code.loop c).wp P Q a w:=by
 refine wp_loop (fun a w=>∃ n,K n a w) (fun a w=>if h:∃ n,K n a w then (least h).choose else 0) ⟨n,h0⟩ fun a w h=>?_
 have h1:=round _ a w (least h).choose_spec.1;refine wp_mono h1 fun e a' w' hq=>?_
 cases e with
 | normal =>
  obtain⟨m,hm,hK⟩:=hq;have h':∃ n,K n a' w':=⟨m,hK⟩;refine⟨h',?_⟩;rw[dif_pos h',dif_pos h];exact Nat.lt_of_le_of_lt ((least h').choose_spec.2 m hK) hm
 |_=>exact hq
theorem Gaw (hF:Bao F E.nbx){s:St}{body:St->Option (Tm St)}{c:Code}
  (hbody:∀ {τ:St} {t:Tm St} {ρ:List D} {o:Out St},body τ=some t->Ec cf t ρ=some o->ρ.length=τ.nv->Aak E τ->Post E ρ o/\Wp P E F c τ ρ o)
  {t:Tm St} (h:∃ a6 fj τ tb oo xs s1 s2,body τ=some tb/\wS E s fj a6.length τ/\iW E s.nr a6 0 { s with nr:=s.nr+a6.length }=some ([],s1,xs)/\gD τ (range 0 s.nr) s1=some s2 /\
   lG E s.nv xs s.nr fj s.nr a6.length τ s2=true/\lJ s.tr s.nr a6.length=true/\tb.turn .cont nA (coerce E s.nv s.nr fj a6 τ .cont)=some oo/\t=.loop xs oo) {o:Out St} (ho:Ec cf t ρ=some o) (hl:ρ.length=s.nv) (hi:Aak E s):Post E ρ o/\Wp P E F (.loop c) s ρ o:=by
 obtain⟨a6,fj,τ,tb,oo,xs,s1,s2,h1,kn,h2,h3,h4,h5,h6,rfl⟩:=h;have a3s:Aak E τ:=⟨kn.nt1,kn.inScope⟩;have oX:=nK h2;rw[Jau]at ho
 have rK:∀ vs o',vs.length=a6.length->Ec cf oo (ρ++vs)=some o'->∃ o1,Ec cf tb (ρ++vs)=some o1/\Post E (ρ++vs) o1/\Wp P E F c τ (ρ++vs) o1 /\
   ((o1.kind=.fall/\o'.kind=.cont/\o'.vals.length=a6.length/\∀ a w G,R E.ntmps F o1.ext.get o1.env a w G->∃ G',R E.ntmps F τ.get (ρ++o'.vals) a w G')\/(o1.kind≠.fall/\o'=o1)):=by
  intro vs o' kf he;obtain⟨o1,h7,h8⟩:=jV (fun s r hr ρ o ho=>Fan hr ho) rfl (fun _=>rfl) h6 he;obtain⟨hp,hw⟩:=hbody h1 h7 (by rw[Obv,hl,kf,kn.nv]) a3s;refine⟨o1,h7,hp,hw,?_⟩
  rcases h8 with ⟨h9,b9,r,da,fk⟩|⟨h9,b9⟩
  ·obtain⟨ds,gS⟩:=hp.pre
   obtain⟨jv,k8,lv⟩:=Haq hF da kn (gS.trans (Obs ..)) hl fk hp.len hp.inv;exact .inl ⟨Hax.1 h9,jv,k8,lv⟩
  ·exact .inr ⟨(fun e=>by rw[e]at h9;cases h9),b9⟩
 refine⟨?_,fun a w G Q hR hQ=>?_⟩
 ·refine Wae (C:=fun vs o=>vs.length=a6.length->Post E ρ o) (fun vs o' he hk kf=>?_) (fun vs o' o2 he hk hC _ kf=>?_) ho (by simp[oX])
  ·obtain⟨o1,-,hp,-,h8⟩:=rK vs o' kf he
   rcases h8 with ⟨-,h9,-⟩|⟨-,h9⟩
   ·exact absurd h9 hk
   ·rw[h9];exact hp.trans
  ·obtain⟨o1,-,hp,-,h8⟩:=rK vs o' kf he
   rcases h8 with ⟨-,-,h9,-⟩|⟨-,h9⟩
   ·exact hC h9
   ·subst h9
    have:=hp.nice;rw[hk]at this;exact this.elim
 ·
  have qk:R E.ntmps F ({ s with nr:=s.nr+a6.length }:St).get ρ a w G:=by rw[Qai h5];exact hR
  obtain⟨⟨G1,xm⟩,-⟩:=sQ (cf:=cf) h2 (Ea4 h5) (by simp) qk trivial;obtain⟨G2,hR3⟩:=kV h3 xm;obtain⟨G3,hR4⟩:=R.fit (ρ0:=ρ) (e:=[]) (by rw[Pbc];exact hR3) hl oX kn h4 (Oby _);rw[Pbc]at hR4;have qo:=ho;unfold Lc at qo;obtain⟨N,hN⟩:=(fH (Jbg (cf:=cf) oo ρ (xs.map (·.val ρ)))).1 qo;refine Jaz (fun n a w=>∃ vs G,iter n (fun vs=>runT cf N oo (ρ++vs)) vs=some o/\vs.length=a6.length/\R E.ntmps F τ.get (ρ++vs) a w G) (fun n a w hK=>?_) (n:=N) ⟨_,G3,hN,by simp[oX],hR4⟩;obtain⟨vs,G,hn,kf,hRv⟩:=hK
  cases n with
  |zero=>cases hn
  | succ m =>
   simp only[iter,Obg]at hn;obtain⟨o',h7,h8⟩:=hn;obtain⟨o1,h9,hp,hw,b9⟩:=rK vs o' kf (Fa1.2 ⟨N,h7⟩);refine hw a w G _ hRv fun a' w' G' gv=>?_
   rcases b9 with ⟨da,fk,gS,jv⟩|⟨da,fk⟩
   ·rw[if_pos fk]at h8
    rw[da];obtain⟨G'',si⟩:=jv a' w' G' gv;exact⟨m,Nat.lt_succ_self m,o'.vals,G'',h8,gS,si⟩
   ·subst fk
    have hk:o'.kind≠.cont:=fun e=>by
     have:=hp.nice;rw[e]at this;exact this
    rw[if_neg hk]at h8;obtain rfl:=Option.some.inj h8;have:=hQ a' w' G' gv
    revert this da
    have:=hp.nice
    revert this
    cases o'.kind<;>intro h1 h2 h3<;>first|exact h1.elim|exact (h2 rfl).elim|exact h3
theorem nW (hF:Bao F E.nbx)(hti:sG P E.ti)(b7:xR P E F cf)(hm:P.follows .mixedOrders=true){rb:Nat}:∀ (c:Code) {ex:List (Nat×Nat)} {live:Nat} {s:St} {t:Tm St} {ρ:List D} {o:Out St},sxC E false rb c ex live s=some t ->
  Ec cf t ρ=some o->ρ.length=s.nv->Aak E s->Post E ρ o/\Wp P E F c s ρ o
 | .skip, ex, live, s, t, ρ, o, h, ho, hl, hi => by
  simp only[sxC,Option.some.injEq]at h;subst h;rw[fB]at ho;obtain rfl:=Option.some.inj ho;exact⟨⟨trivial,hl,hi,[],by simp⟩,fun a w G Q hR hQ=>wp_skip (hQ a w G hR)⟩
 | .label _, ex, live, s, t, ρ, o, h, ho, hl, hi => by
  simp only[sxC,Option.some.injEq]at h;subst h;rw[fB]at ho;obtain rfl:=Option.some.inj ho;exact⟨⟨trivial,hl,hi,[],by simp⟩,fun a w G Q hR hQ=>wp_label (hQ a w G hR)⟩
 | .ret, ex, live, s, t, ρ, o, h, ho, hl, hi => by
  simp only[sxC,Option.some.injEq]at h;subst h;rw[fB]at ho;obtain rfl:=Option.some.inj ho;exact⟨⟨trivial,hl,hi,[],by simp⟩,fun a w G Q hR hQ=>wp_ret (hQ a w G hR)⟩
 | .exit id, ex, live, s, t, ρ, o, h, ho, hl, hi => by
  simp only[sxC,Option.some.injEq]at h;subst h;rw[fB]at ho;obtain rfl:=Option.some.inj ho;exact⟨⟨trivial,hl,hi,[],by simp⟩,fun a w G Q hR hQ=>wp_exit (hQ a w G hR)⟩
 | .region jh ops draw, ex, live, s, t, ρ, o, h, ho, hl, hi => by
  simp only[sxC,Option.some.injEq]at h;subst h;obtain⟨⟨h1,h2,h3,h4⟩,h5⟩:=Kal hti b7 hm ho hl hi
  exact⟨⟨by rw[h1];trivial,h2,h3,h4⟩,fun a w G Q hR hQ=>h5 a w G Q hR fun a' w' G' gv=>by
   have:=hQ a' w' G' gv;rw[h1]at this;exact this⟩
 | .seq a b, ex, live, s, t, ρ, o, h, ho, hl, hi => by
  simp only[sxC,bind,Obg]at h;obtain⟨ta,hta,h⟩:=h;have yn:=fun {o1:Out St} (h1:Ec cf ta ρ=some o1)=>nW hF hti b7 hm a hta h1 hl hi
  have lk:∀ o1:Out St,Post E ρ o1->Wp P E F a s ρ o1->o1.kind≠.fall->Wp P E F (.seq a b) s ρ o1:=by
   intro o1 hp hw hk a' w G Q hR hQ;refine wp_seq (hw a' w G _ hR fun a1 w1 G1 qk=>?_);have:=hQ a1 w1 G1 qk
   revert this hk
   have:=hp.nice
   revert this
   cases o1.kind<;>intro h1 h2 h3<;>first|exact h1.elim|exact (h2 rfl).elim|exact h3
  cases tA:ta.no nA with
  | true =>
   rw[tA,cond_true,Option.some.injEq]at h;subst h;obtain⟨hp,hw⟩:=yn ho;exact⟨hp,lk o hp hw fun e=>by have:=tF tA ho;rw[e]at this;cases this⟩
  | false =>
   rw[tA,cond_false]at h
   have eJ:∀ {o1:Out St} {s2:St} {tb:Tm St} {ρ2:List D},Ec cf ta ρ=some o1->o1.kind=.fall->sxC E false rb b ex live s2=some tb->Ec cf tb ρ2=some o->ρ2.length=s2.nv->Aak E s2->(∃ ds,ρ2=ρ++ds) ->
     (∀ a w G,R E.ntmps F o1.ext.get o1.env a w G->∃ G',R E.ntmps F s2.get ρ2 a w G')->Post E ρ o/\Wp P E F (.seq a b) s ρ o:=by
    intro o1 s2 tb ρ2 h1 hk h2 h3 h4 h5 ⟨ds,h6⟩ h7;obtain⟨hp,hw⟩:=nW hF hti b7 hm b h2 h3 h4 h5;obtain⟨hp1,yy⟩:=yn h1;subst h6;refine⟨hp.trans,fun a' w G Q hR hQ=>wp_seq (yy a' w G _ hR fun a1 w1 G1 qk=>?_)⟩;rw[hk];obtain⟨G2,xm⟩:=h7 a1 w1 G1 qk;exact hw a1 w1 G2 Q xm hQ
   split at h
   ·obtain⟨o1,h1,h2⟩:=nO h ho
    rcases h2 with ⟨h3,tb,h4,h5⟩|⟨h3,h4⟩
    ·obtain⟨hp,-⟩:=yn h1
     exact eJ h1 h3 h4 h5 hp.len hp.inv hp.pre fun a w G hR=>⟨G,hR⟩
    ·subst h4
     obtain⟨hp,hw⟩:=yn h1;exact⟨hp,lk _ hp hw h3⟩
   ·simp only[Obg]at h
    obtain⟨⟨t',τ⟩,hj,k,hk,h⟩:=h;simp only[Option.some.injEq]at h;subst h;obtain⟨o1,h1,h2⟩:=Uaq hF hj rfl (fun _=>rfl) ho hl fun o1 h1=>(yn h1).1
    rcases h2 with ⟨h3,vals,h4,h5,h6,h7⟩|⟨h3,h4⟩
    ·exact eJ h1 (Hax.1 h3) hk h4 h5 h6 ⟨vals,rfl⟩ fun a w G hR=>h7 a w G hR
    ·subst h4
     obtain⟨hp,hw⟩:=yn h1;exact⟨hp,lk _ hp hw fun e=>by rw[e]at h3;cases h3⟩
 | .cond c a b, ex, live, s, t, ρ, o, h, ho, hl, hi => by
  simp only[sxC]at h
  have yz:∀ v,Vat c=some v->c=.const (.bool v):=by
   intro v hv;unfold Vat at hv;split at hv
   ·cases hv;rfl
   ·cases hv
  split at h
  ·rename_i hc
   obtain rfl:=yz _ hc;obtain⟨hp,hw⟩:=nW hF hti b7 hm a h ho hl hi;exact⟨hp,fun a' w G Q hR hQ=>wp_cond_true rfl (hw a' w G Q hR hQ)⟩
  ·rename_i hc
   obtain rfl:=yz _ hc;obtain⟨hp,hw⟩:=nW hF hti b7 hm b h ho hl hi;exact⟨hp,fun a' w G Q hR hQ=>wp_cond_false rfl (hw a' w G Q hR hQ)⟩
  rename_i hcn;clear hcn yz;split at h
  ·rename_i x tt hk
   cases hb:(aX s.nv x&&Pbs tt E.ntmps) with
   | false =>
    rw[hb]at h;simp only[Bool.not_false,cond_true,Option.some.injEq]at h;subst h;rw[iI]at ho;cases ho
   | true =>
    rw[hb]at h;simp only[Pb5,cond_false,bind,Obg,Option.some.injEq]at h;obtain⟨ta,hta,tb,htb,rfl⟩:=h;simp only[Obh,Pbf]at hb
    have hev:∀ a' w G,R E.ntmps F s.get ρ a' w G->Sc (a'.eval (.tmp tt)) (x.val ρ):=by
     intro a' w G hR;have:=hR.slot hk rfl;simp only[bR,aB,xS]at this;rw[if_pos hb.2]at this
     have e:a'.eval (.tmp tt)=a'.tmps.getD tt undef:=by
      simp[Act.eval,Pbh]
     rw[e];exact this
    rw[Cal]at ho;split at ho
    ·rename_i hx
     obtain⟨hp,hw⟩:=nW hF hti b7 hm a hta ho hl hi;refine⟨hp,fun a' w G Q hR hQ=>wp_cond_true ?_ (hw a' w G Q hR hQ)⟩;have:=hev a' w G hR;rw[hx]at this;exact this.bool_inv
    ·rename_i hx
     obtain⟨hp,hw⟩:=nW hF hti b7 hm b htb ho hl hi;refine⟨hp,fun a' w G Q hR hQ=>wp_cond_false ?_ (hw a' w G Q hR hQ)⟩;have:=hev a' w G hR;rw[hx]at this;exact this.bool_inv
    ·cases ho
  ·simp only[Option.some.injEq]at h
   subst h;rw[iI]at ho;cases ho
 | .block id b, ex, live, s, t, ρ, o, h, ho, hl, hi => by
  simp only[sxC,bind,Obg]at h;obtain⟨tb,htb,h⟩:=h;have ihb:=fun {o1:Out St} (h1:Ec cf tb ρ=some o1)=>nW hF hti b7 hm b htb h1 hl hi
  have lk:∀ o1:Out St,Post E ρ o1->Wp P E F b s ρ o1->mQ id o1.kind=false->Wp P E F (.block id b) s ρ o1:=by
   intro o1 hp hw hk a' w G Q hR hQ;refine wp_block (hw a' w G _ hR fun a1 w1 G1 qk=>?_);have:=hQ a1 w1 G1 qk
   revert this hk
   have:=hp.nice
   revert this
   cases o1.kind with
   | exit j =>
    intro h1 h2 h3;simp only[Vad,Exit.inBlock];rw[if_neg]
    ·exact h3
    ·intro e
     simp[mQ,e]at h2
   |fall=>exact fun h1 h2 h3=>h3
   |ret=>exact fun h1 h2 h3=>h3
   |cont=>exact fun h1 h2 h3=>h1.elim
   |yield i=>exact fun h1 h2 h3=>h1.elim
  cases tA:tb.no (mQ id) with
  | true =>
   rw[tA,cond_true,Option.some.injEq]at h;subst h;obtain⟨hp,hw⟩:=ihb ho;exact⟨hp,lk o hp hw (tF tA ho)⟩
  | false =>
   rw[tA,cond_false]at h
   have tq:∀ {o1:Out St} {o:Out St},Ec cf tb ρ=some o1->Maz id o1.kind=true->o.kind=.fall->(∀ a w G,R E.ntmps F o1.ext.get o1.env a w G->∃ G',R E.ntmps F o.ext.get o.env a w G')->Wp P E F (.block id b) s ρ o:=by
    intro o1 o h1 hk ho hg a' w G Q hR hQ;obtain⟨hp,hw⟩:=ihb h1;refine wp_block (hw a' w G _ hR fun a1 w1 G1 qk=>?_);obtain⟨G2,xm⟩:=hg a1 w1 G1 qk;have:=hQ a1 w1 G2 xm;rw[ho]at this
    revert hk
    cases o1.kind with
    | exit j =>
     intro hk;simp only[Maz,Ob4]at hk;simp only[Vad,Exit.inBlock];rw[if_pos hk.symm];exact this
    |fall=>exact fun _=>this
    |ret=>intro hk;cases hk
    |cont=>intro hk;cases hk
    |yield i=>intro hk;cases hk
   split at h
   ·obtain⟨o1,h1,h2⟩:=iM h ho
    obtain⟨hp,hw⟩:=ihb h1
    rcases h2 with ⟨h3,h4⟩|⟨h3,h4⟩
    ·subst h4
     refine⟨⟨trivial,hp.len,hp.inv,hp.pre⟩,tq h1 ?_ rfl fun a w G hR=>⟨G,hR⟩⟩
     revert h3
     cases o1.kind<;>simp[mQ,Maz]
    ·subst h4
     exact⟨hp,lk _ hp hw h3⟩
   ·simp only[Obg]at h
    obtain⟨⟨t',τ⟩,hj,h⟩:=h;simp only[Option.some.injEq]at h;subst h;obtain⟨o1,h1,h2⟩:=Uaq hF hj rfl (fun _=>rfl) ho hl fun o1 h1=>(ihb h1).1
    rcases h2 with ⟨h3,vals,h4,h5,h6,h7⟩|⟨h3,h4⟩
    ·rw[fB]at h4
     obtain rfl:=Option.some.inj h4;exact⟨⟨trivial,h5,h6,vals,rfl⟩,tq h1 h3 rfl fun a w G hR=>h7 a w G hR⟩
    ·subst h4
     obtain⟨hp,hw⟩:=ihb h1;refine⟨hp,lk _ hp hw ?_⟩
     revert h3
     cases o.kind<;>simp[mQ,Maz]
 | .loop b, ex, live, s, t, ρ, o, h, ho, hl, hi => by
  simp only[sxC]at h;split at h
  ·exact Gaw hF (fun h1 h2 h3 h4=>nW hF hti b7 hm b h1 h2 h3 h4) (Lag h) ho hl hi
  ·exact Gaw hF (fun h1 h2 h3 h4=>nW hF hti b7 hm b h1 h2 h3 h4) (Eaq h) ho hl hi
 | .scope _, ex, live, s, t, ρ, o, h, ho, hl, hi => by
  simp only[sxC,Option.some.injEq]at h;subst h;rw[iI]at ho;cases ho
 | .goto _, ex, live, s, t, ρ, o, h, ho, hl, hi => by
  simp only[sxC,Option.some.injEq]at h;subst h;rw[iI]at ho;cases ho
 | .rangeFunc _ _ _ _, ex, live, s, t, ρ, o, h, ho, hl, hi => by
  simp only[sxC,Option.some.injEq]at h;subst h;rw[iI]at ho;cases ho
 | .refuse _, ex, live, s, t, ρ, o, h, ho, hl, hi => by
  simp only[sxC,Option.some.injEq]at h;subst h;rw[iI]at ho;cases ho
end
end Go.Proofs.YtcbkmmhkccnamaaGreat.Rf
