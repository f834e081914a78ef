/- Terms for so program's functions, and nh they are right: part 5 of 10. -/
import Derived.Test.YtcbkmmhkccnamaaGreatRf4
import Derived.Orders
open Array renaming getElem?_eq_getElem → Acr, getD_eq_getD_getElem? → Acx, getElem?_toList → Bca
open Bool renaming and_eq_true → Zbo, not_eq_true' → Ach, or_eq_true → Ac1, not_true → Bc7, false_or → Bc8, or_true → Cc2
open List renaming mem_append_left → Zbp, getElem?_eq_getElem → Zbq, mem_append_right → Zbs, length_append → Zbt, getD_eq_getElem?_getD → Zbu, getElem?_cons_zero → Zbw, append_assoc → Zbx, mem_cons_of_mem → Zby, mem_singleton → Zb0, length_cons → Zb1, mem_cons_self → Zb5, getElem?_append_left → Zb9, all_eq_true → Acd, append_nil → Acf, mem_cons → Acu, nil_append → Ac0, not_mem_nil → Bcf, mem_map_of_mem → Bci, getElem?_set → Bcr, mem_range → Bcs, isEmpty_iff → Ccy, mem_filter → Cc6
open Nat renaming le_refl → Zb2, lt_or_ge → Aca, beq_eq → Acj, add_zero → Ack, zero_add → Acl, blt_eq → Acw, ble_eq → Ac2, blt → Ac8, zero_le → Bch, testBit → Bc6, le_succ → Ccp, le_add_right → Cc5
open Option renaming bind_eq_some_iff → Zbn, bind_some → Zbv, map_eq_some_iff → Zbz, map_some → Acz, getD_some → Bcn
set_option linter.unusedSimpArgs false
set_option linter.unusedVariables false
set_option linter.unnecessarySimpa false
set_option linter.unusedSectionVars false
namespace Go.Proofs.YtcbkmmhkccnamaaGreat.Rf
theorem mem_range {x:Nat}:∀ {n a:Nat},x∈range a n↔a<=x/\x<a+n
 |0,a=>by simp[range]
 | n + 1, a => by
  simp only[range,Acu,mem_range];omega
theorem tJ {b6 du r:Nat}(h:r<b6):Ua0 b6 du r=r:=by
 unfold Ua0
 have:Nat.ble b6 r=false:=by
  cases e:Nat.ble b6 r with
  |false=>rfl
  |true=>simp only[Ac2]at e;omega
 rw[this];rfl
theorem Oa3 {b6 du r:Nat}(h:b6<=r):Ua0 b6 du r=du+(r-b6):=by
 unfold Ua0;have:Nat.ble b6 r=true:=by simpa using h
 rw[this];rfl
def vD (eK du b6:Nat):Ow->Ow
 |.slc r p=>if r<eK then .slc r p else if du<=r then .slc (b6+(r-du)) p else .oth
 |o=>o
theorem Yai {eK du b6:Nat}{o:Ow}{r:Nat}{p:List Nat}(h0:eK<=b6)(h:vD eK du b6 o=.slc r p):o=.slc (Ua0 b6 du r) p:=by
 cases o with
 | slc s q =>
  simp only[vD]at h;split at h
  ·injection h with h1 h2
   subst h1 h2;rw[tJ (by omega)]
  ·split at h
   ·injection h with h1 h2
    subst h1 h2;rw[Oa3 (by omega)];congr 1;omega
   ·cases h
 |_=>simp only[vD]at h;cases h
theorem Iaw {eK du b6 r:Nat}{p:List Nat}(h0:eK<=b6)(hB:eK<=du)(hr:r<eK\/b6<=r):vD eK du b6 (.slc (Ua0 b6 du r) p)=.slc r p:=by
 simp only[vD]
 rcases hr with h|h
 ·rw[tJ (by omega),if_pos h]
 ·rw[Oa3 h,if_neg (by omega),if_pos (by omega)]
  congr 1;omega
structure Dbl (τ:St) (σ:Nat->Option aS) (gf ρ:List D) (G' G:Gh) (N n:Nat) (xs:List aK) (b6 du eK:Nat):Prop where
 at_:∀ x,bA N x=true->x.val gf=(Oa4 n xs x).val ρ
 le:eK<=b6
 leB:eK<=du
 hdr:∀ r,G'.hdr r=G.hdr (Ua0 b6 du r)
 own:∀ b,G'.own b=vD eK du b6 (G.own b)
 bx:G'.bx=G.bx
 valid:∀ r k,r<eK->lY τ.get r k->lY σ r k
 live:∀ r k m,r<eK->yZ τ.get r k m->yZ σ r k m
theorem Eac {τ:St}{eK:Nat}:∀ {deps:List (Nat×Nat)},Ram τ eK deps=true->∀ z∈deps,z.1<eK/\jB τ.get z.1 z.2
 |[],_,z,hz=>by simp at hz
 | (r, k) :: d, h, z, hz => by
  simp only[Ram,Zbo]at h
  rcases List.mem_cons.1 hz with rfl|hz
  ·refine⟨by simpa using h.1.1,?_⟩
   have h2:=h.1.2;split at h2
   ·rename_i x m v e;exact⟨_,_,_,_,e,fun hs=>by rcases hs with hs|hs<;>cases hs⟩
   ·rename_i x m v r' e;exact⟨_,_,_,_,e,fun hs=>by rcases hs with hs|hs<;>cases hs⟩
   ·rename_i x m v st uy hn2 e;exact⟨_,_,_,_,e,fun _=>by simpa using h2⟩
   ·cases h2
  ·exact Eac h.2 z hz
section
variable {τ:St} {σ:Nat->Option aS} {gf ρ:List D} {G' G:Gh} {w:World} {N n:Nat} {xs:List aK} {b6 du eK:Nat}
theorem Dbl.ownLow (h:Dbl τ σ gf ρ G' G N n xs b6 du eK){b r:Nat}{p:List Nat}(hr:r<eK)(hb:G.own b=.slc r p):G'.own b=.slc r p:=by
 rw[h.own,hb];have h1:Ua0 b6 du r=r:=tJ (by have:=h.le;omega);have h2:=Iaw (p:=p) h.le h.leB (.inl hr:r<eK\/b6<=r);rw[h1]at h2;exact h2
theorem Dbl.frz (h:Dbl τ σ gf ρ G' G N n xs b6 du eK){b:Nat}(hb:G.own b=.frz):G'.own b=.frz:=by
 rw[h.own,hb];rfl
theorem Dbl.allow (h:Dbl τ σ gf ρ G' G N n xs b6 du eK){deps:List (Nat×Nat)}(hd:∀ z∈deps,z.1<eK){b:Nat}(hb:Go.Proofs.YtcbkmmhkccnamaaGreat.Rf.allow G deps b):Go.Proofs.YtcbkmmhkccnamaaGreat.Rf.allow G' deps b:=by
 rcases hb with hb|⟨r,k,p,hm,hb⟩
 ·exact .inl (h.frz hb)
 ·exact .inr ⟨r,k,p,hm,h.ownLow (hd _ hm) hb⟩
theorem Dbl.path (h:Dbl τ σ gf ρ G' G N n xs b6 du eK){p:List (aK×Nat×Nat)}(hp:(p.all fun x=>bA N x.1)=true):bB gf p=bB ρ (p.map fun x=>(Oa4 n xs x.1,x.2)):=by
 unfold bB;rw[List.map_map];apply List.map_congr_left;intro x hx;rw[Acd]at hp;simp only[Function.comp,kY,h.at_ x.1 (hp x hx)]
mutual
theorem aB.fit (h:Dbl τ σ gf ρ G' G N n xs b6 du eK):∀ (l:aR) (v:Value),l.inScope N=true->l.wf τ eK=true->aB σ ρ G w (l.sub n xs b6 du) v->aB τ.get gf G' w l v
 |.dead,_,_,_,hl=>by simpa[aR.sub,aB] using hl
 | .sc x, v, hs, _, hl => by
  simp only[aR.inScope]at hs;simp only[aR.sub,aB]at hl ⊢;rw[h.at_ x hs];exact hl
 | .su g x, v, hs, _, hl => by
  simp only[aR.inScope,Zbo]at hs;obtain⟨y,b⟩:=g;simp only[aR.sub,aB]at hl ⊢;have hg:gOn gf (some (y,b))=gOn ρ (some (Oa4 n xs y,b)):=by simp only[gOn,h.at_ y hs.2]
  rw[h.at_ x hs.1,hg];exact hl
 | .ex r, v, _, hw, hl => by
  simp only[aR.wf]at hw;simp only[aR.sub,aB]at hl ⊢;exact⟨by rw[h.hdr];exact hl.1,hw,hl.2.2⟩
 | .sn deps p nie x, v, hs, hw, hl => by
  simp only[aR.inScope,Zbo]at hs;simp only[aR.wf]at hw;have hd:=Eac hw;simp only[aR.sub,aB]at hl ⊢;rw[h.at_ x hs.1];refine⟨⟨hl.1.1,fun z hz=>(hd z hz).2⟩,fun hv=>?_⟩;obtain⟨h1,h2,h3⟩:=hl.2 fun z hz=>h.valid _ _ (hd z hz).1 (hv z hz)
  refine⟨h1.mono fun b hb=>⟨h.allow (fun z hz=>(hd z hz).1) hb,rfl⟩,h2,?_⟩
  cases p with
  |no=>trivial
  | view =>
   intro r k m e gS;have hr:=(hd (r,k) (by simp[e])).1;have:=(h3 r k m e (h.live r k m hr gS)).mono (own':=G'.own) (w':=w) (q:=[]) (q':=[]) (r':=r) (fun b hb=>⟨h.frz hb,rfl⟩) [] rfl (fun b t hb=>⟨h.ownLow hr hb,rfl⟩);simpa using this
  | suf sz lo =>
   intro r k m e gS;have hr:=(hd (r,k) (by simp[e])).1;have h4:=h3 r k m e (h.live r k m hr gS)
   have h5:kY gf lo=kY ρ (Oa4 n xs lo):=by
    unfold kY;rw[h.at_ lo hs.2]
   rw[h5];rw[h.hdr,tJ (by have:=h.le;omega)];exact h4
  | path p =>
   intro r k m e gS;have hr:=(hd (r,k) (by simp[e])).1;obtain⟨h4,h5,h6⟩:=h3 r k m e (h.live r k m hr gS);rw[h.path hs.2];rw[List.length_map]at h4 h5;refine⟨h4,?_,?_⟩
   ·have:=h5.mono (own':=G'.own) (w':=w) (q:=[]) (q':=[]) (r':=r) (fun b hb=>⟨h.frz hb,rfl⟩) _ rfl (fun b t hb=>⟨h.ownLow hr hb,rfl⟩)
    rw[Ac0]at this;exact this
   ·rw[h.hdr,tJ (by have:=h.le;omega)]
    exact zI.mono _ _ _ _ _ (fun b t hb=>⟨h.ownLow hr hb,rfl⟩) h6
 | .px b off, v, _, hw, hl => by
  simp only[aR.wf]at hw;simp only[aR.sub,aB]at hl ⊢;exact⟨by rw[h.bx];exact hl.1,hw⟩
 | .pe l sz i off, v, hs, hw, hl => by
  simp only[aR.inScope,Zbo]at hs;simp only[aR.wf]at hw;simp only[aR.sub,aB]at hl ⊢;obtain⟨a,n,c,k,iv,h1,h2⟩:=hl;exact⟨a,n,c,k,iv,aB.fit h l _ hs.1 hw h1,by rw[h.at_ i hs.2];exact h2⟩
 | .rp deps sz x, v, hs, hw, hl => by
  simp only[aR.inScope]at hs;simp only[aR.wf]at hw;have hd:=Eac hw;simp only[aR.sub,aB]at hl ⊢;rw[h.at_ x hs];refine⟨⟨hl.1.1,fun z hz=>(hd z hz).2⟩,fun hv=>?_⟩
  rcases hl.2 fun z hz=>h.valid _ _ (hd z hz).1 (hv z hz) with h1|⟨a,row,h1,h2,h3⟩
  ·exact .inl h1
  ·exact .inr ⟨a,row,h1,h2,h3.mono fun b hb=>⟨h.allow (fun z hz=>(hd z hz).1) hb,rfl⟩⟩
 |.pn,v,_,_,hl=>by simpa[aR.sub,aB] using hl
 | .clo f fj, v, hs, hw, hl => by
  simp only[aR.inScope]at hs;simp only[aR.wf]at hw;simp only[aR.sub,aB]at hl ⊢;obtain⟨vs,h1,h2⟩:=hl;exact⟨vs,h1,aG.fit h fj vs hs hw h2⟩
theorem aG.fit (h:Dbl τ σ gf ρ G' G N n xs b6 du eK):∀ (ls:List aR) (vs:List Value),bE N ls=true->nO τ eK ls=true->aG σ ρ G w (iB n xs b6 du ls) vs->aG τ.get gf G' w ls vs
 |[],vs,_,_,hl=>by simpa[iB,aG] using hl
 | l :: ls, vs, hs, hw, hl => by
  simp only[bE,Zbo]at hs;simp only[nO,Zbo]at hw;simp only[iB,aG]at hl ⊢;obtain⟨u,us,e,h1,h2⟩:=hl;exact⟨u,us,e,aB.fit h l u hs.1 hw.1 h1,aG.fit h ls us hs.2 hw.2 h2⟩
end
theorem yR:∀ {d d':List (Nat×Nat)},xB d d'=true->d=d'
 |[],[],_=>rfl
 |[],_::_,h=>by simp[xB]at h
 |_::_,[],h=>by simp[xB]at h
 | (a, b) :: r, (a', b') :: r', h => by
  simp only[xB,Zbo,Acj]at h;rw[h.1.1,h.1.2,yR h.2]
theorem Pa6:∀ {d d':List (aK×Nat×Nat)},Lac d d'=true->d=d'
 |[],[],_=>rfl
 |[],_::_,h=>by simp[Lac]at h
 |_::_,[],h=>by simp[Lac]at h
 | (a, b, c) :: r, (a', b', c') :: r', h => by
  simp only[Lac,Zbo,Acj]at h;rw[aK.beq0_eq h.1.1.1,h.1.1.2,h.1.2,Pa6 h.2]
theorem Pth.beq0_eq {p q:Pth}(h:p.beq0 q=true):p=q:=by
 cases p<;>cases q<;>simp only[Pth.beq0]at h<;>first|rfl|cases h|skip
 ·rw[Pa6 h]
 ·simp only[Zbo,Acj]at h
  rw[h.1,aK.beq0_eq h.2]
mutual
theorem aR.beq0_eq:∀ {a b:aR},a.beq0 b=true->a=b
 |.dead,b,h=>by cases b<;>first | rfl | (simp[aR.beq0]at h)
 | .sc x, b, h => by
  cases b<;>simp only[aR.beq0]at h<;>first|cases h|skip
  rw[aK.beq0_eq h]
 | .su g x, b, h => by
  cases b<;>simp only[aR.beq0]at h<;>first|cases h|skip
  rename_i g' x';simp only[Zbo,beq_iff_eq]at h;obtain⟨y,u⟩:=g;obtain⟨y',u'⟩:=g';have h1:=aK.beq0_eq h.1.1;have h2:u=u':=h.1.2;dsimp only at h1;rw[h1,h2,aK.beq0_eq h.2]
 | .ex r, b, h => by
  cases b<;>simp only[aR.beq0]at h<;>first|cases h|skip
  simp only[Acj]at h;rw[h]
 | .sn d p e x, b, h => by
  cases b<;>simp only[aR.beq0]at h<;>first|cases h|skip
  simp only[Zbo,beq_iff_eq]at h;rw[yR h.1.1.1,Pth.beq0_eq h.1.1.2,h.1.2,aK.beq0_eq h.2]
 | .px c o, b, h => by
  cases b<;>simp only[aR.beq0]at h<;>first|cases h|skip
  simp only[Zbo,Acj]at h;rw[h.1,h.2]
 | .pe l s i o, b, h => by
  cases b<;>simp only[aR.beq0]at h<;>first|cases h|skip
  simp only[Zbo,Acj]at h;rw[aR.beq0_eq h.1.1.1,h.1.1.2,aK.beq0_eq h.1.2,h.2]
 | .rp d s x, b, h => by
  cases b<;>simp only[aR.beq0]at h<;>first|cases h|skip
  simp only[Zbo,Acj]at h;rw[yR h.1.1,h.1.2,aK.beq0_eq h.2]
 |.pn,b,h=>by cases b<;>first | rfl | (simp[aR.beq0]at h)
 | .clo f l, b, h => by
  cases b<;>simp only[aR.beq0]at h<;>first|cases h|skip
  simp only[Zbo,Acj]at h;rw[h.1,Caf h.2]
theorem Caf:∀ {a b:List aR},sF a b=true->a=b
 |[],b,h=>by cases b<;>first | rfl | (simp[sF]at h)
 | a :: r, b, h => by
  cases b<;>simp only[sF]at h<;>first|cases h|skip
  simp only[Zbo]at h;rw[aR.beq0_eq h.1,Caf h.2]
end
theorem wN {a b:aR}(h:yL a b=true){v:Value}(hb:aB σ ρ G w b v):aB σ ρ G w a v:=by
 unfold yL at h;split at h
 ·simp only[aB]
  exact hb.one h
 ·rename_i d x
  split at h
  ·rename_i d' p nie x'
   simp only[Zbo]at h;obtain rfl:=yR h.1;obtain rfl:=aK.beq0_eq h.2;simp only[aB]at hb ⊢;exact⟨hb.1,fun hv=>⟨(hb.2 hv).1,(fun e=>absurd e (by decide)),trivial⟩⟩
  ·cases h
 ·rw[aR.beq0_eq h];exact hb
theorem Cac:∀ {a b:List aR},dZ a b=true->∀ {vs:List Value},aG σ ρ G w b vs->aG σ ρ G w a vs
 |[],[],_,vs,hb=>hb
 |[],_::_,h,vs,hb=>by simp[dZ]at h
 |_::_,[],h,vs,hb=>by simp[dZ]at h
 | a :: r, b :: s, h, vs, hb => by
  simp only[dZ,Zbo]at h;simp only[aG]at hb ⊢;obtain⟨u,us,e,h1,h2⟩:=hb;exact⟨u,us,e,wN h.1 h1,Cac h.2 h2⟩
theorem Cad:∀ {a b:List aR},dZ a b=true->a.length=b.length
 |[],[],_=>rfl
 |[],_::_,h=>by simp[dZ]at h
 |_::_,[],h=>by simp[dZ]at h
 | a :: r, b :: s, h => by
  simp only[dZ,Zbo]at h;simp[Cad h.2]
theorem Cae:∀ {a b:List aR},dZ a b=true->∀ {j:Nat} {l:aR},a[j]?=some l->∃ m,b[j]?=some m/\yL l m=true
 |[],[],_,j,l,hj=>by simp at hj
 |[],_::_,h,_,_,_=>by simp[dZ]at h
 |_::_,[],h,_,_,_=>by simp[dZ]at h
 | a :: r, b :: s, h, j, l, hj => by
  simp only[dZ,Zbo]at h
  cases j with
  | zero =>
   simp only[Zbw,Option.some.injEq]at hj;subst hj;exact⟨b,rfl,h.1⟩
  |succ j=>exact Cae h.2 (by simpa using hj)
theorem Cab:∀ {ls:List aR} {j:Nat} {l:aR},ls[j]?=some l->(iB n xs b6 du ls)[j]?=some (l.sub n xs b6 du)
 |[],j,l,h=>by simp at h
 | m :: ls, 0, l, h => by
  simp only[Zbw,Option.some.injEq]at h;subst h;rfl
 | m :: ls, j + 1, l, h => by
  simp only[iB,List.getElem?_cons_succ]at h ⊢;exact Cab h
theorem Caa:∀ {ls:List aR},(iB n xs b6 du ls).length=ls.length
 |[]=>rfl
 |m::ls=>by simp[iB,Caa (ls:=ls)]
theorem Ea9:∀ {ls:List aR} {j:Nat} {l:aR},nO τ eK ls=true->ls[j]?=some l->l.wf τ eK=true
 |[],j,l,_,h=>by simp at h
 | m :: ls, 0, l, hs, h => by
  simp only[nO,Zbo]at hs;simp only[Zbw,Option.some.injEq]at h;rw[<- h];exact hs.1
 | m :: ls, j + 1, l, hs, h => by
  simp only[nO,Zbo]at hs;exact Ea9 hs.2 (by simpa using h)
end
theorem Aas {s:St}{k:Nat}{c:aS}(h:s.get k=some c):(∃ t,k=kT t/\t<s.nt)\/(∃ b,k=kB b/\b<s.nb)\/(∃ r,k=kR r/\r<s.nr):=by
 unfold St.get at h
 cases hk:vG s.nt s.nb s.nr k with
 |false=>rw[hk]at h;cases h
 | true =>
  unfold vG at hk
  cases b0:Nat.beq (k % 3) 0 with
  | true =>
   rw[b0,cond_true,Acw]at hk;simp only[Acj]at b0;exact .inl ⟨k / 3,by unfold kT;omega,hk⟩
  | false =>
   rw[b0,cond_false]at hk;have n0:k % 3≠0:=fun e=>by rw[e]at b0;cases b0
   cases b1:Nat.beq (k % 3) 1 with
   | true =>
    rw[b1,cond_true,Acw]at hk;simp only[Acj]at b1;exact .inr (.inl ⟨k / 3,by unfold kB;omega,hk⟩)
   | false =>
    rw[b1,cond_false,Acw]at hk;have n1:k % 3≠1:=fun e=>by rw[e]at b1;cases b1
    exact .inr (.inr ⟨k / 3,by unfold kR;omega,hk⟩)
theorem uB {n:Nat}{xs:List aK}{b6 du:Nat}{τ s:St}:∀ {ks:List Nat},Caq n xs b6 du τ s ks=true->∀ k∈ks,bX n xs b6 du (τ.get k) (s.get k)=true
 |[],_,k,hk=>by simp at hk
 | k' :: ks, h, k, hk => by
  simp only[Caq,Zbo]at h
  rcases List.mem_cons.1 hk with rfl|hk
  ·exact h.1
  ·exact uB h.2 k hk
theorem Car {n:Nat}{xs:List aK}{b6 du:Nat}{τ s:St}:∀ {ks:List Nat},Cas n xs b6 du τ s ks=true->∀ r∈ks,bX n xs b6 du (τ.get (kR r)) (s.get (kR (Ua0 b6 du r)))=true
 |[],_,k,hk=>by simp at hk
 | k' :: ks, h, k, hk => by
  simp only[Cas,Zbo]at h
  rcases List.mem_cons.1 hk with rfl|hk
  ·exact h.1
  ·exact Car h.2 k hk
theorem Dam {τ:St}{eK:Nat}:∀ {ks:List Nat},Ga0 τ eK ks=true->∀ k∈ks,sP τ eK k (τ.get k)=true
 |[],_,k,hk=>by simp at hk
 | k' :: ks, h, k, hk => by
  simp only[Ga0,Zbo]at h
  rcases List.mem_cons.1 hk with rfl|hk
  ·exact h.1
  ·exact Dam h.2 k hk
theorem Lal {τ:St}:∀ {ks:List Nat},Vaj τ ks=true->∀ k∈ks,τ.get k=none
 |[],_,k,hk=>by simp at hk
 | k' :: ks, h, k, hk => by
  simp only[Vaj,Zbo,Option.isNone_iff_eq_none]at h
  rcases List.mem_cons.1 hk with rfl|hk
  ·exact h.1
  ·exact Lal h.2 k hk
structure zZ (E:Env) (s0:St) (b6 len:Nat) (τ:St):Prop where
 nv:τ.nv=s0.nv+len
 nt1:E.ntmps<=τ.nt
 nt2:τ.nt<=E.ntmps+E.ngh
 nr:τ.nr=b6+len
 le:s0.nr<=b6
 none:∀ r,s0.nr<=r->r<b6->τ.get (kR r)=none
 wf:∀ k c,τ.get k=some c->sP τ s0.nr k (some c)=true
theorem Aad {E:Env}{s0:St}{b6 len:Nat}{τ:St}(h:Eav E s0 b6 len τ=true):zZ E s0 b6 len τ:=by
 simp only[Eav,Zbo,Acj,Ac2]at h;obtain⟨⟨⟨⟨⟨⟨h1,h2⟩,h3⟩,h4⟩,h5⟩,h6⟩,h7⟩:=h
 have mc:∀ r,s0.nr<=r->r<b6->τ.get (kR r)=Option.none:=fun r ha hb =>
  Lal h6 _ (List.mem_map.2 ⟨r,mem_range.2 ⟨ha,by omega⟩,rfl⟩)
 refine⟨h1,h2,h3,h4,h5,mc,fun k c hk=>?_⟩
 have:k∈(range 0 τ.nt).map kT++(range 0 τ.nb).map kB++((range 0 s0.nr++range b6 len).map kR):=by
  rcases Aas hk with ⟨t,rfl,ht⟩|⟨b,rfl,hb⟩|⟨r,rfl,hr⟩
  ·exact Zbp _ (Zbp _ (List.mem_map.2 ⟨t,mem_range.2 ⟨by omega,by omega⟩,rfl⟩))
  ·exact Zbp _ (Zbs _ (List.mem_map.2 ⟨b,mem_range.2 ⟨by omega,by omega⟩,rfl⟩))
  ·refine Zbs _ (List.mem_map.2 ⟨r,?_,rfl⟩)
   rcases Aca r s0.nr with h8|h8
   ·exact Zbp _ (mem_range.2 ⟨by omega,by omega⟩)
   ·rcases Aca r b6 with h9|h9
    ·rw[mc r h8 h9]at hk;cases hk
    ·exact Zbs _ (mem_range.2 ⟨h9,by omega⟩)
 have:=Dam h7 k this;rw[hk]at this;exact this
theorem uI {τ:St}{eK k:Nat}{c:aS}(h:sP τ eK k (some c)=true):bW τ.nv c=true:=by
 simp only[sP,Zbo]at h;exact h.1
theorem zZ.inScope {E:Env}{s0:St}{b6 len:Nat}{τ:St}(h:zZ E s0 b6 len τ):Aaa τ.get τ.nv:=fun k c hk=>uI (h.wf k c hk)
theorem Na3 {n:Nat}{xs:List aK}{b6 du:Nat}{x:aK}{m v:Nat}{st:RSt}{c:Option aS}(h:bX n xs b6 du (some (.root x m v st)) c=true) :
  st=.gone\/∃ x',c=some (.root x' m v st)/\Oa4 n xs x=x':=by
 cases st with
 |gone=>exact .inl rfl
 | _ =>
  right
  cases c with
  |none=>simp[bX]at h
  | some c =>
   cases c with
   | root x' m' v' ve =>
    simp only[bX,Zbo,Acj,Bas,decide_eq_true_eq]at h;exact⟨x',by rw[h.1.1.1,h.1.1.2,h.1.2],aK.beq0_eq h.2⟩
   |_=>simp[bX]at h
theorem Raq {n:Nat}{xs:List aK}{b6 du:Nat}{l:aR}{c:Option aS}(h:bX n xs b6 du (some (.slot none (.one l))) c=true) :
  ∃ b,c=some (.slot none (.one b))/\yL (l.sub n xs b6 du) b=true:=by
 cases c with
 |none=>simp[bX]at h
 | some c =>
  cases c with
  | slot g v =>
   cases g with
   |some g=>simp[bX]at h
   |none=>cases v<;>first | exact⟨_,rfl,by simpa[bX] using h⟩ | simp[bX]at h
  |_=>simp[bX]at h
theorem Rar {n:Nat}{xs:List aK}{b6 du:Nat}{l:List aR}{c:Option aS}(h:bX n xs b6 du (some (.slot none (.agg l))) c=true) :
  ∃ b,c=some (.slot none (.agg b))/\dZ (iB n xs b6 du l) b=true:=by
 cases c with
 |none=>simp[bX]at h
 | some c =>
  cases c with
  | slot g v =>
   cases g with
   |some g=>simp[bX]at h
   |none=>cases v<;>first | exact⟨_,rfl,by simpa[bX] using h⟩ | simp[bX]at h
  |_=>simp[bX]at h
theorem Fat {n:Nat}{xs:List aK}{b6 du:Nat}{ro:Bool}{l:List aR}{c:Option aS}(h:bX n xs b6 du (some (.box ro l)) c=true) :
  ∃ b,c=some (.box ro b)/\dZ (iB n xs b6 du l) b=true:=by
 cases c with
 |none=>simp[bX]at h
 | some c =>
  cases c with
  | box la b =>
   simp only[bX,Zbo,beq_iff_eq]at h;exact⟨b,by rw[h.1],h.2⟩
  |_=>simp[bX]at h
theorem Iby (t:Nat):kT t % 3=0:=by unfold kT;omega
theorem Qam (t:Nat):kB t % 3=1:=by unfold kB;omega
theorem Qal (t:Nat):kR t % 3=2:=by unfold kR;omega
theorem Nai {s:St}{k:Nat}{c:aS}(h:s.get k=some c)(hm:Nat.beq (k % 3) 0=true):∃ t,k=kT t/\t<s.nt:=by
 rw[Acj]at hm
 rcases Aas h with h|⟨b,rfl,hb⟩|⟨r,rfl,hr⟩
 ·exact h
 ·rw[Qam]at hm;omega
 ·rw[Qal]at hm;omega
theorem Kbd {s:St}{k:Nat}{c:aS}(h:s.get k=some c)(hm:Nat.beq (k % 3) 1=true):∃ t,k=kB t/\t<s.nb:=by
 rw[Acj]at hm
 rcases Aas h with ⟨b,rfl,hb⟩|h|⟨r,rfl,hr⟩
 ·rw[Iby]at hm;omega
 ·exact h
 ·rw[Qal]at hm;omega
theorem Gbt {s:St}{k:Nat}{c:aS}(h:s.get k=some c)(hm:Nat.beq (k % 3) 2=true):∃ t,k=kR t/\t<s.nr:=by
 rw[Acj]at hm
 rcases Aas h with ⟨b,rfl,hb⟩|⟨r,rfl,hr⟩|h
 ·rw[Iby]at hm;omega
 ·rw[Qam]at hm;omega
 ·exact h
theorem R.fit {E:Env}{F:bG}{τ s s0:St}{ρ0 e:List D}{a:Act}{w:World}{G:Gh}{xs:List aK}{b6 du len:Nat}
  (hR:R E.ntmps F s.get (ρ0++e) a w G) (hn:ρ0.length=s0.nv) (mS:xs.length=len) (lf:zZ E s0 b6 len τ)
  (fp:nE E s0.nv xs s0.nr b6 du len τ s=true) (hle:s0.nr<=du):∃ G',R E.ntmps F τ.get (ρ0++xs.map (·.val (ρ0++e))) a w G':=by
 simp only[nE,Zbo]at fp;obtain⟨hf1,hf2⟩:=fp
 have lb:∀ t,t<τ.nt->bX s0.nv xs b6 du (τ.get (kT t)) (s.get (kT t))=true:=fun t ht =>
  uB hf1 _ (Zbp _ (List.mem_map.2 ⟨t,mem_range.2 ⟨by omega,by have:=lf.nt2;omega⟩,rfl⟩))
 have qk:∀ b,b<τ.nb->bX s0.nv xs b6 du (τ.get (kB b)) (s.get (kB b))=true:=fun b hb =>
  uB hf1 _ (Zbs _ (List.mem_map.2 ⟨b,mem_range.2 ⟨by omega,by omega⟩,rfl⟩))
 have eV:∀ r,r<s0.nr\/(b6<=r/\r<b6+len)->bX s0.nv xs b6 du (τ.get (kR r)) (s.get (kR (Ua0 b6 du r)))=true:=fun r hr =>
  Car hf2 r (by
   rcases hr with hr|hr
   ·exact Zbp _ (mem_range.2 ⟨by omega,by omega⟩)
   ·exact Zbs _ (mem_range.2 hr))
 have hrk:∀ r c,τ.get (kR r)=some c->r<s0.nr\/(b6<=r/\r<b6+len):=by
  intro r c hk
  rcases Aas hk with ⟨t,e,_⟩|⟨t,e,_⟩|⟨r',e,hr⟩
  ·exact absurd e.symm iM
  ·exact absurd e.symm fB
  ·obtain rfl:=eT e
   rw[lf.nr]at hr
   rcases Aca r s0.nr with h1|h1
   ·exact .inl h1
   ·rcases Aca r b6 with h2|h2
    ·rw[lf.none r h1 h2]at hk;cases hk
    ·exact .inr ⟨h2,hr⟩
 have oi:∀ r x m v st,τ.get (kR r)=some (.root x m v st)->st=.live\/st=.frozen->∃ x',s.get (kR (Ua0 b6 du r))=some (.root x' m v st)/\Oa4 s0.nv xs x=x':=by
  intro r x m v st hk aE;have h1:=eV r (hrk r _ hk);rw[hk]at h1
  rcases Na3 h1 with h2|h2
  ·rw[h2]at aE
   rcases aE with h|h<;>cases h
  ·exact h2
 let ρs:=ρ0++e
 let G':Gh:={ own:=fun b=>vD s0.nr du b6 (G.own b),hdr:=fun r=>G.hdr (Ua0 b6 du r),bx:=G.bx }
 have il:∀ x,bA τ.nv x=true->x.val (ρ0++xs.map (·.val ρs))=(Oa4 s0.nv xs x).val ρs:=by
  intro x hx
  cases x with
  |c d=>rfl
  | v i =>
   simp only[bA,Acw]at hx;rw[lf.nv]at hx;simp only[Oa4]
   cases hb:Ac8 i s0.nv with
   | true =>
    simp only[Acw]at hb;simp only[cond_true,aK.val,Zbu,ρs];rw[Zb9 (by omega),Zb9 (by omega)]
   | false =>
    have lB:s0.nv<=i:=by
     rcases Aca i s0.nv with h|h
     ·rw[<- Acw,hb]at h;cases h
     ·exact h
    simp only[cond_false];have hlt:i-s0.nv<xs.length:=by omega
    rw[Zbu,Zbq hlt,Bcn];simp only[aK.val,Zbu];rw[List.getElem?_append_right (by omega),List.getElem?_map,hn,Zbq hlt];rfl
 have H:Dbl τ s.get (ρ0++xs.map (·.val ρs)) ρs G' G τ.nv s0.nv xs b6 du s0.nr:=by
  refine⟨il,lf.le,hle,fun _=>rfl,fun _=>rfl,rfl,fun r k hr hv=>?_,fun r k m hr hv=>?_⟩
  ·obtain⟨x,m,st,hk,aE⟩:=hv
   obtain⟨x',h1,-⟩:=oi r x m k st hk aE;rw[tJ (by have:=lf.le;omega)]at h1;exact⟨x',m,st,h1,aE⟩
  ·obtain⟨x,hk⟩:=hv
   obtain⟨x',h1,-⟩:=oi r x m k .live hk (.inl rfl);rw[tJ (by have:=lf.le;omega)]at h1;exact⟨x',h1⟩
 refine⟨G',hR.tmps,hR.defers,fun k c hk=>?_,?_,fun b ls hk hb ho=>?_⟩
 ·have ln:=lf.wf k c hk
  have jq:=uI ln
  cases c with
  | slot g v =>
   cases g with
   |some g=>simp[sP]at ln
   | none =>
    cases v with
    | dead =>
     simp only[sP,Zbo]at ln;obtain⟨t,rfl,ht⟩:=Nai hk ln.2;exact⟨t,rfl,fun _=>trivial⟩
    | one l =>
     simp only[sP,Zbo]at ln;obtain⟨t,rfl,ht⟩:=Nai hk ln.2.1;refine⟨t,rfl,fun _=>?_⟩;have h1:=lb t ht;rw[hk]at h1;obtain⟨b,h2,h3⟩:=Raq h1;have h4:aB s.get ρs G w b _:=hR.slot h2 rfl;simp only[bW,xX,Zbo]at jq;exact aB.fit H l _ jq.2 ln.2.2 (wN h3 h4)
    | agg ls =>
     simp only[sP,Zbo]at ln;obtain⟨t,rfl,ht⟩:=Nai hk ln.2.1;refine⟨t,rfl,fun _=>?_⟩;have h1:=lb t ht;rw[hk]at h1;obtain⟨b,h2,h3⟩:=Rar h1;obtain⟨vs,h4,h5⟩:bY s.get ρs G w (.agg b) _:=hR.slot h2 rfl;simp only[bW,xX,Zbo]at jq;exact⟨vs,h4,aG.fit H ls _ jq.2 ln.2.2 (Cac h3 h5)⟩
    |tup ts=>simp[sP]at ln
  | box ro ls =>
   simp only[sP,Zbo]at ln;obtain⟨b,rfl,hb⟩:=Kbd hk ln.2.1;have h1:=qk b hb;rw[hk]at h1;obtain⟨bs,h2,h3⟩:=Fat h1;obtain⟨h4,h5,h6⟩:=hR.box h2;refine⟨b,rfl,h4,?_,fun j l hj=>?_⟩
   ·show vD _ _ _ _=_
    rw[h5];cases ro<;>rfl
   ·obtain⟨m,h7,h8⟩:=Cae h3 (Cab hj)
    obtain⟨v,h9,cQ,dz⟩:=h6 j m h7;simp only[bW]at jq;exact⟨v,h9,cQ,aB.fit H l v (nA jq hj) (Ea9 ln.2.2 hj) (wN h8 dz)⟩
  | root x m bc st =>
   have hm:Nat.beq (k % 3) 2=true:=by
    cases st<;>simp only[sP,Zbo]at ln<;>first|exact ln.2|(exact absurd ln.2 (by decide))
   obtain⟨r,rfl,hr⟩:=Gbt hk hm;have vd:=hrk r _ hk;refine⟨r,rfl,by rw[hk];rfl,?_⟩;simp only[bW]at jq;have a6f:r<s0.nr\/b6<=r:=vd.imp id (·.1)
   cases st with
   | live =>
    obtain⟨x',h1,h2⟩:=oi r x m bc .live hk (.inl rfl);have h3:=hR.root h1;simp only[bP]at h3 ⊢;rw[il x jq,h2]
    have:=h3.mono (own':=G'.own) (w':=w) (q:=[]) (q':=[]) (r':=r) (fun b hb=>⟨H.frz hb,rfl⟩) [] rfl (fun b t hb=>⟨by
     show vD _ _ _ _=_
     rw[hb];exact Iaw lf.le hle a6f,rfl⟩)
    simpa using this
   | frozen =>
    obtain⟨x',h1,h2⟩:=oi r x m bc .frozen hk (.inr rfl);obtain⟨h3,h4⟩:=hR.root h1;simp only[bP];rw[il x jq,h2];refine⟨h3.mono fun b hb=>⟨H.frz hb,rfl⟩,fun b p hb=>?_⟩;exact h4 b p (Yai lf.le hb)
   |gone=>trivial
   |fwd r'=>simp[sP]at ln
 ·refine⟨hR.frame.os,hR.frame.tape,hR.frame.output,hR.frame.size,fun b hb ho=>?_,fun b j hb ho=>?_,fun b hb=>?_⟩
  ·obtain⟨h1,h2⟩:=hR.frame.keep b hb ho
   refine⟨h1,?_⟩;show vD _ _ _ _=_
   rw[h2]
   rcases ho with ho|ho<;>rw[ho]<;>rfl
  ·obtain⟨h1,h2⟩:=hR.frame.boxes b j hb ho
   refine⟨?_,h2⟩;show vD _ _ _ _=_
   rw[h1];rfl
  ·show vD _ _ _ _=_
   rw[hR.frame.fresh b hb];rfl
 ·have h1:=qk b (by
   rcases Aas hk with ⟨t,e,_⟩|⟨t,e,ht⟩|⟨r',e,hr⟩
   ·exact absurd e.symm lQ
   ·obtain rfl:=Caj e;exact ht
   ·exact absurd e fB)
  rw[hk]at h1;obtain⟨bs,h2,h3⟩:=Fat h1;have h4:=hR.rng b bs h2 hb ho;rw[h4,<- Cad h3,Caa]
def Abp (draw:Bool)(s:St)(r:bN):St:={ (s.puts r.upd) with nv:=s.nv+bH r.lets,nb:=s.nb+1,nr:=Ta9 draw s.nr r.upd }
inductive Oaj (E:Env) (draw:Bool) (jy:Nat) (ops:List Oper):Nat->List Oper->St->List OpI->St->Prop
 |nil (i:Nat) (s:St):Oaj E draw jy ops i [] s [] s
 | cons {i : Nat} {o : Oper} {os : List Oper} {s : St} {g : Option (aK × Bool)} {r : bN} {log : List Nat} {is : List OpI} {s' : St} (mv dq : Bool)
   (h1:(lH E ops mv dq s.nv s.nb s.nr o).run s.get=some ((g,r),log)) (h2:Gbj s g r=true)
   (h3:Oaj E draw jy ops (i+1) os (Abp draw s r) is s'):Oaj E draw jy ops i (o::os) s (⟨g,r,log,s.nb,s.nr⟩::is) s'
theorem Ga9 {E:Env}{draw:Bool}{jy:Nat}{ops:List Oper}:∀ {os:List Oper} {i:Nat} {s:St} {acc is:List OpI} {s':St},Zaj E draw jy ops i os s acc=.inl (is,s') ->
  ∃ js,is=acc.reverse++js/\Oaj E draw jy ops i os s js s'
 | [], i, s, acc, is, s', h => by
  simp only[Zaj,Sum.inl.injEq,Prod.mk.injEq]at h;obtain⟨rfl,rfl⟩:=h;exact⟨[],by simp,.nil i s⟩
 | o :: os, i, s, acc, is, s', h => by
  simp only[Zaj]at h;split at h
  ·rename_i g r log bh
   cases kf:Gbj s g r with
   |false=>rw[kf]at h;simp at h
   | true =>
    rw[kf]at h;simp only[Bc7,cond_false]at h;obtain⟨js,h1,h2⟩:=Ga9 h;exact⟨⟨g,r,log,s.nb,s.nr⟩::js,by rw[h1];simp,.cons _ _ bh kf h2⟩
  ·cases h
structure Dag (E:Env) (s:St):Prop where
 nt:E.ntmps<=s.nt
 sc:Aaa s.get s.nv
def Oai (cf:Nat->List D->Option (List D))(ρ:List D):Nat->List OpI->Prop
 |_,[]=>True
 |nv,a::r=>aN cf ρ a.g nv a.res.lets/\Oai cf ρ (nv+bH a.res.lets) r
def Aa6 (P:Program)(E:Env)(F:bG)(cf:Nat->List D->Option (List D)):Prop :=
 ∀ (σ:Nat->Option aS) (ρ:List D) (a:Act) (w:World) (G:Gh) (g:Option (aK×Bool)) (o:Oper) (Q:Exit->Act->World->Prop) (mv dq:Bool) (nv nb nr:Nat) (res:bN) (f:Operand) (args:Array Operand) (argTypes:Array TypeId),
  R E.ntmps F σ ρ a w G->fD E.ntmps o->Dah σ nb nr->o.op=.call { callee:=.value f,args,argTypes } ->
  (qD E mv dq nv nb nr g o).eval σ=some res->res.upd.all (fun x=>zB E.ntmps nb nr x.1)=true->aN cf ρ g nv res.lets->gT P E F σ ρ a w g o Q res.upd
section
variable {P:Program} {E:Env} {F:bG} {cf:Nat->List D->Option (List D)} {draw:Bool}
theorem Lak {s:St}{g:Option (aK×Bool)}{r:bN}(h:Gbj s g r=true) :
  oW s.nv g=true/\eF s.nv r.lets=true/\r.upd.all (fun x=>bW (s.nv+bH r.lets) x.2)=true:=by
 simp only[Gbj,Zbo]at h;exact⟨h.1.1.2,h.1.2,h.2⟩
theorem Naa {ops:List Oper}{mv dq:Bool}{s:St}{o:Oper}{g:Option (aK×Bool)}{r:bN}{log:List Nat}(hi:E.ntmps<=s.nt)
  (h1:(lH E ops mv dq s.nv s.nb s.nr o).run s.get=some ((g,r),log)) (h2:Gbj s g r=true):(Abp draw s r).get=upds s.get r.upd:=by
 funext k;exact Gbi h2 hi (jT (RdM.run_eval h1)).2.2.2 draw _ k
theorem Dag.next {ops:List Oper}{mv dq:Bool}{s:St}{o:Oper}{g:Option (aK×Bool)}{r:bN}{log:List Nat}(hi:Dag E s)
  (h1:(lH E ops mv dq s.nv s.nb s.nr o).run s.get=some ((g,r),log)) (h2:Gbj s g r=true):Dag E (Abp draw s r):=by
 refine⟨?_,?_⟩
 ·show E.ntmps<=(s.puts r.upd).nt
  rw[(iV r.upd s).2.2.2];exact hi.nt
 ·rw[Naa hi.nt h1 h2]
  exact hi.sc.upds (Cc5 ..) (Lak h2).2.2
theorem Xaa {jy:Nat}{ops:List Oper}{i:Nat}{os:List Oper}{s s':St}{is:List OpI}(hc:Oaj E draw jy ops i os s is s') :
  ∀ {s'':St} {ρ:List D} {o:Out St},s''.nv=s'.nv->ρ.length=s.nv->Ec cf (Hac (.leaf .fall [] s'') is) ρ=some o ->
  o.kind=.fall/\o.ext=s''/\o.env.length=s'.nv/\(∃ ds,o.env=ρ++ds)/\∀ ext,Oai cf (o.env++ext) s.nv is:=by
 induction hc with
 | nil i s =>
  intro s'' ρ o hv hl h;simp only[Hac,fO,Option.some.injEq]at h;subst h;exact⟨rfl,rfl,hl,⟨[],by simp⟩,fun _=>trivial⟩
 | cons mv dq h1 h2 h3 ih =>
  rename_i i o' os s g r log is s';intro s'' ρ o hv hl h;simp only[Hac]at h;obtain⟨hg,hs,-⟩:=Lak h2;obtain⟨ds,h4,h5,h6⟩:=vM (by rw[hl];exact hg) (by rw[hl];exact hs) h;obtain⟨h7,h8,h9,⟨es,cQ⟩,dz⟩:=ih hv (by rw[Zbt,h4,hl];rfl) h5;refine⟨h7,h8,h9,⟨ds++es,by rw[cQ,Zbx]⟩,fun ext=>⟨?_,dz ext⟩⟩;have:=h6 (es++ext);rw[hl]at this;rw[cQ];simpa[Zbx] using this
theorem Cb7 {jy:Nat}{ops:List Oper}{i:Nat}{os:List Oper}{s s':St}{is:List OpI}(hc:Oaj E draw jy ops i os s is s')(hi:Dag E s):Dag E s':=by
 induction hc with
 |nil i s=>exact hi
 |cons mv dq h1 h2 h3 ih=>exact ih (hi.next h1 h2)
theorem Dag.trim {lo:Nat}{d:Bool}{s:St}(h:Dag E s):Dag E (trimS d lo s) :=
 ⟨by rw[xV.2.2];exact h.nt,by rw[Oar,xV.1];exact h.sc⟩
theorem Cb8 {jy:Nat}{ops:List Oper}{i:Nat}{os:List Oper}{s s':St}{is:List OpI}(hc:Oaj E draw jy ops i os s is s'):∀ o∈os,fD E.ntmps o:=by
 induction hc with
 |nil i s=>simp
 | cons mv dq h1 h2 h3 ih =>
  intro o ho
  rcases List.mem_cons.1 ho with rfl|ho
  ·exact (jT (RdM.run_eval h1)).2.1
  ·exact ih o ho
theorem Sbq (hti:vJ P E.ti)(cJ:Aa6 P E F cf){ops:Array Oper}(oB:∀ o∈ops.toList,fD E.ntmps o){mv dq:Bool}{s:St}{o:Oper}{g:Option (aK×Bool)}{r:bN}{ρ:List D}{a:Act}{w:World}{G:Gh}{Q:Exit->Act->World->Prop}
  {σ:Nat->Option aS} (hf:Dah σ s.nb s.nr)
  (hR:R E.ntmps F σ ρ a w G) (h1:(lH E ops.toList mv dq s.nv s.nb s.nr o).eval σ=some (g,r)) (aE:aN cf ρ g s.nv r.lets):Lbq P E F σ ρ ops o Q r.upd a w:=by
 refine Bai hR hti oB hf h1 aE fun f args argTypes ho=>?_
 obtain⟨h2,h3,h4,h5⟩:=jT h1;rw[Kau ho]at h4;exact cJ σ ρ a w G g o Q mv dq s.nv s.nb s.nr r f args argTypes hR h3 hf ho h4 h5 aE
theorem Cb6 (hti:vJ P E.ti)(cJ:Aa6 P E F cf){jy:Nat}{ops:Array Oper}(oB:∀ o∈ops.toList,fD E.ntmps o){Q:Exit->Act->World->Prop}{i:Nat}{os:List Oper}{s s':St}{is:List OpI}(hc:Oaj E draw jy ops.toList i os s is s') :
  ∀ {ρ:List D} {a:Act} {w:World} {G:Gh},ops.toList.drop i=os->R E.ntmps F s.get ρ a w G->Dag E s->Oai cf ρ s.nv is ->
  (∀ a' w' G',R E.ntmps F s'.get ρ a' w' G'->Q .normal a' w')->wpOps P ops Q (List.range' i os.length) a w:=by
 induction hc with
 | nil i s =>
  intro ρ a w G hdr hR hi aE hQ;exact hQ a w G hR
 | cons mv dq h1 h2 h3 ih =>
  rename_i i o os s g r log is s';intro ρ a w G hdr hR hi aE hQ
  have mN:ops[i]?=some o:=by
   rw[<- Bca];have:(ops.toList.drop i)[0]?=some o:=by rw[hdr];rfl
   rwa[List.getElem?_drop,Ack]at this
  rw[Zb1,List.range'_succ,wpOps_cons];unfold wpOp;rw[mN];have fa:=Sbq (Q:=Q) hti cJ oB Qa3 hR (RdM.run_eval h1) aE.1
  have yh:∀ a w,Nx E.ntmps F s.get ρ r.upd a w->wpOps P ops Q (List.range' (i+1) os.length) a w:=by
   intro a' w' ⟨G',ie⟩;rw[<- Naa hi.nt h1 h2]at ie;exact ih (by rw[<- List.drop_drop,hdr];rfl) ie (hi.next h1 h2) aE.2 hQ
  unfold Lbq at fa;dsimp only;split
  ·rename_i hw
   rw[if_pos hw]at fa;exact .inl (Oper.wp_mono yh fa)
  ·rename_i hw
   rw[if_neg hw]at fa;exact yh _ _ fa
end
theorem oL {a b:List Nat}(h:meets a b=false){k:Nat}(ha:k∈a):k∉b:=by
 intro hb
 have:meets a b=true:=by
  unfold meets;rw[List.any_eq_true];exact⟨k,ha,mI.2 hb⟩
 rw[h]at this;cases this
theorem Ga2 {acc:List Nat}:∀ {es:List Edge} {m b:Nat},Bc6 (Aab acc es m) b=true->Bc6 m b=true\/∃ e∈es,Region.binds .any e=true/\(b=e.on\/Bc6 (acc.getD e.on 0) b=true)
 |[],m,b,h=>.inl h
 | e :: es, m, b, h => by
  have h':Bc6 (Aab acc es (bif Region.binds .any e then (m ||| 2 ^ e.on) ||| acc.getD e.on 0 else m)) b=true:=h
  rcases Ga2 (es:=es) h' with h1|⟨e',he',h1⟩
  ·cases hb:Region.binds .any e with
   |false=>rw[hb,cond_false]at h1;exact .inl h1
   | true =>
    rw[hb,cond_true]at h1;simp only[Nat.testBit_or,Ac1,Nat.testBit_two_pow,decide_eq_true_eq]at h1
    rcases h1 with (h1|h1)|h1
    ·exact .inl h1
    ·exact .inr ⟨e,Zb5,hb,.inl h1.symm⟩
    ·exact .inr ⟨e,Zb5,hb,.inr h1⟩
  ·exact .inr ⟨e',Zby _ he',h1⟩
theorem Ga1:∀ {os:List Oper} {acc:List Nat} {i w:Nat},acc[i]?=some w->(waits os acc)[i]?=some w
 |[],_,_,_,h=>h
 | o :: os, acc, i, w, h => by
  refine Ga1 (os:=os) ?_;rw[Zb9 (List.getElem?_eq_some_iff.1 h).1];exact h
theorem Oao:∀ {os:List Oper} {acc:List Nat} {p w:Nat} {o:Oper},os[p]?=some o->(waits os acc)[acc.length+p]?=some w->∀ b,Bc6 w b=true ->
  ∃ e∈o.after.toList,Region.binds .any e=true/\(b=e.on\/∃ w',(waits os acc)[e.on]?=some w'/\Bc6 w' b=true)
 |[],acc,p,w,o,ho,_,_,_=>by simp at ho
 | o' :: os, acc, 0, w, o, ho, hw, b, hb => by
  simp only[Zbw,Option.some.injEq]at ho;subst ho;have h1:(acc++[Aab acc o'.after.toList 0])[acc.length]?=some (Aab acc o'.after.toList 0):=by simp
  have h2:=Ga1 (os:=os) h1;simp only[waits,Ack]at hw;rw[h2]at hw;obtain rfl:=Option.some.inj hw
  rcases Ga2 hb with h3|⟨e,he,h4,h5⟩
  ·simp at h3
  ·refine⟨e,he,h4,h5.imp id fun h6=>?_⟩
   rw[Zbu]at h6
   cases ha:acc[e.on]? with
   |none=>rw[ha]at h6;simp at h6
   | some w' =>
    rw[ha,Bcn]at h6;have hlt:=(List.getElem?_eq_some_iff.1 ha).1;exact⟨w',Ga1 (os:=os) (by rw[Zb9 hlt];exact ha),h6⟩
 | o' :: os, acc, p + 1, w, o, ho, hw, b, hb => by
  have:=Oao (os:=os) (acc:=acc++[Aab acc o'.after.toList 0]) (p:=p) (w:=w) (o:=o) (by simpa using ho) (by
   simp only[Zbt,List.length_singleton];simp only[waits]at hw;rw[<- hw];congr 1
   omega) b hb
  exact this
theorem Fai {a:OpI}{i:Nat}:∀ {bs:List OpI} {ws:List Nat},Cao a i bs ws=true->∀ {q:Nat} {b:OpI},bs[q]?=some b->∃ w,ws[q]?=some w/\(Bc6 w i=true\/qU a b=true)
 |[],_,_,q,b,h=>by simp at h
 |_::_,[],h,_,_,_=>by simp[Cao]at h
 | b :: bs, w :: ws, h, q, b', hq => by
  simp only[Cao,Zbo,Ac1]at h
  cases q with
  | zero =>
   simp only[Zbw,Option.some.injEq]at hq;subst hq;exact⟨w,rfl,h.1⟩
  |succ q=>exact Fai h.2 (by simpa using hq)
theorem Ba3:∀ {is:List OpI} {ws:List Nat} {i:Nat},wG is ws i=true->∀ {p q:Nat} {a b:OpI},p<q->is[p]?=some a->is[q]?=some b ->
  ∃ w,ws[q]?=some w/\(Bc6 w (i+p)=true\/qU a b=true)
 |[],_,_,_,p,q,a,b,_,hp,_=>by simp at hp
 | x :: is, ws, i, h, p, q, a, b, hpq, hp, hq => by
  simp only[wG,Zbo]at h
  cases q with
  |zero=>omega
  | succ q =>
   cases p with
   | zero =>
    simp only[Zbw,Option.some.injEq]at hp;subst hp;obtain⟨w,h1,h2⟩:=Fai h.1 (q:=q) (by simpa using hq);exact⟨w,by rw[List.getElem?_tail]at h1;exact h1,h2⟩
   | succ p =>
    obtain⟨w,h1,h2⟩:=Ba3 h.2 (p:=p) (q:=q) (by omega) (by simpa using hp) (by simpa using hq);exact⟨w,by rw[List.getElem?_tail]at h1;exact h1,by rw[show i+(p+1)=i+1+p by omega];exact h2⟩
theorem Faq:∀ {os:List Oper} {i:Nat},Caz os i=true->∀ {p:Nat} {o:Oper},os[p]?=some o->∀ e∈o.after.toList,Region.binds .any e=true->e.on<i+p
 |[],_,_,p,o,h,_,_,_=>by simp at h
 | x :: os, i, h, p, o, hp, e, he, hb => by
  simp only[Caz,Zbo,Acd,Ac1,Ach,Acw]at h
  cases p with
  | zero =>
   simp only[Zbw,Option.some.injEq]at hp;subst hp
   rcases h.1 e he with h1|h1
   ·rw[hb]at h1;cases h1
   ·omega
  | succ p =>
   have:=Faq h.2 (p:=p) (by simpa using hp) e he hb;omega
def sig (D:Nat->Bool):Nat->List OpI->(Nat->Option aS)->Nat->Option aS
 |_,[],σ=>σ
 |i,a::r,σ=>sig D (i+1) r (bif D i then upds σ a.res.upd else σ)
def Wr (a:OpI)(k:Nat):Prop:=∃ c,(k,c)∈a.res.upd
theorem Mah {a:OpI}{σ:Nat->Option aS}{k:Nat}(h:¬ Wr a k):upds σ a.res.upd k=σ k:=eP _ _ _ fun c hc=>h ⟨c,hc⟩
theorem Bak {D D':Nat->Bool}{k:Nat}:∀ {is:List OpI} {i:Nat} {σ dT:Nat->Option aS},(∀ p a,is[p]?=some a->Wr a k->D (i+p)=D' (i+p))->σ k=dT k->sig D i is σ k=sig D' i is dT k
 |[],i,σ,dT,_,h=>h
 | a :: r, i, σ, dT, hd, h => by
  simp only[sig];refine Bak (fun p b hb hw=>?_) ?_
  ·have:=hd (p+1) b (by simpa using hb) hw
   rw[show i+(p+1)=i+1+p by omega]at this;exact this
  ·by_cases hw:Wr a k
   ·have:=hd 0 a rfl hw
    rw[Ack]at this;rw[this]
    cases D' i with
    |false=>exact h
    |true=>exact rM _ _ _ _ h
   ·have e:∀ (x:Bool) (τ:Nat->Option aS),(bif x then upds τ a.res.upd else τ) k=τ k:=by
     intro x τ
     cases x with
     |false=>rfl
     |true=>exact Mah hw
    rw[e,e];exact h
theorem vS {D:Nat->Bool}{k:Nat}:∀ {is:List OpI} {i:Nat} {σ:Nat->Option aS},(∀ p a,is[p]?=some a->Wr a k->D (i+p)=false)->sig D i is σ k=σ k
 |[],i,σ,_=>rfl
 | a :: r, i, σ, hd => by
  simp only[sig]
  rw[vS fun p b hb hw=>by
   have:=hd (p+1) b (by simpa using hb) hw;rw[show i+(p+1)=i+1+p by omega]at this;exact this]
  by_cases hw:Wr a k
  ·have:=hd 0 a rfl hw
   rw[Ack]at this;rw[this];rfl
  ·cases D i with
   |false=>rfl
   |true=>exact Mah hw
theorem Ua6 {D:Nat->Bool}{k:Nat}:∀ {is:List OpI} {i p:Nat} {a:OpI} {σ τ:Nat->Option aS},is[p]?=some a->D (i+p)=true->Wr a k->(∀ q b,p<q->is[q]?=some b->Wr b k->D (i+q)=false) ->
  sig D i is σ k=upds τ a.res.upd k
 |[],i,p,a,σ,τ,hp,_,_,_=>by simp at hp
 | x :: r, i, 0, a, σ, τ, hp, hD, hw, hq => by
  simp only[Zbw,Option.some.injEq]at hp;subst hp;rw[Ack]at hD;simp only[sig]
  rw[vS fun q b hb hwb=>by
   have:=hq (q+1) b (by omega) (by simpa using hb) hwb;rw[show i+(q+1)=i+1+q by omega]at this;exact this,hD,cond_true]
  exact Gaa _ _ _ _ hw
 | x :: r, i, p + 1, a, σ, τ, hp, hD, hw, hq => by
  simp only[sig];refine Ua6 (p:=p) (by simpa using hp) (by rw[show i+1+p=i+(p+1) by omega];exact hD) hw fun q b hpq hb hwb=>?_
  have:=hq (q+1) b (by omega) (by simpa using hb) hwb;rw[show i+(q+1)=i+1+q by omega]at this;exact this
section
variable {P:Program} {E:Env} {F:bG} {cf:Nat->List D->Option (List D)}
theorem Ua5 {D:Nat->Bool}{is:List OpI}{i:Nat}{σ:Nat->Option aS}(h:∀ q,i<=q->D q=false):sig D i is σ=σ :=
 funext fun k=>vS fun p a _ _=>h _ (Cc5 ..)
structure At (E:Env) (ops:List Oper) (cf:Nat->List D->Option (List D)) (ρ:List D) (σ0:Nat->Option aS) (i0:Nat) (is:List OpI) (p:Nat) (o:Oper) (a:OpI) (s0:St):Prop where
 run:∃ mv dq nv,(lH E ops mv dq nv a.nb a.nr o).run (sig (fun q=>decide (q<i0+p)) i0 is σ0)=some ((a.g,a.res),a.log)/\aN cf ρ a.g nv a.res.lets
 nb:a.nb=s0.nb+p
 nr:a.nr=s0.nr+bU*p
theorem Hb6 {jy:Nat}{ops:List Oper}{i:Nat}{os:List Oper}{s s':St}{is:List OpI}(hc:Oaj E true jy ops i os s is s') :
  ∀ {ρ:List D},Dag E s->Oai cf ρ s.nv is->is.length=os.length/\s'.get=sig (fun _=>true) i is s.get/\∀ p o,os[p]?=some o->∃ a,is[p]?=some a/\At E ops cf ρ s.get i is p o a s:=by
 induction hc with
 |nil i s=>exact fun _ _=>⟨rfl,rfl,by simp⟩
 | cons mv dq h1 h2 h3 ih =>
  rename_i i o os s g r log is s';intro ρ hi aE;obtain⟨h4,h5,h6⟩:=ih (hi.next h1 h2) aE.2;have hg:=Naa (draw:=true) hi.nt h1 h2;refine⟨by simp[h4],?_,fun p o' hp=>?_⟩
  ·rw[h5,hg];rfl
  ·cases p with
   | zero =>
    simp only[Zbw,Option.some.injEq]at hp;subst hp;refine⟨_,rfl,⟨mv,dq,s.nv,?_,aE.1⟩,rfl,rfl⟩;rw[Ack,Ua5 fun q hq=>by simpa using hq];exact h1
   | succ p =>
    obtain⟨a,h7,h8⟩:=h6 p o' (by simpa using hp);refine⟨a,by simpa using h7,?_,?_,?_⟩
    ·obtain⟨mv',a1u,nv',h9,cQ⟩:=h8.run
     refine⟨mv',a1u,nv',?_,cQ⟩;simp only[sig];have:(decide (i<i+(p+1)):Bool)=true:=by simp
     rw[this,cond_true,<- hg,show i+(p+1)=i+1+p by omega];exact h9
    ·rw[h8.nb];show s.nb+1+p=_;omega
    ·rw[h8.nr]
     show s.nr+bU+bU*p=_
     rw[Nat.mul_succ];omega
theorem Vav {a:OpI}{n nb nr k:Nat}(h:a.res.upd.all (fun x=>zB n nb nr x.1)=true)(hw:Wr a k):zB n nb nr k=true:=by
 obtain⟨c,hc⟩:=hw;rw[Acd]at h;exact h _ hc
theorem Bbb {n nb nr b:Nat}(h:zB n nb nr (kB b)=true):b<=nb:=by
 unfold zB at h;rw[Qam]at h;have:kB b / 3=b:=by unfold kB;omega
 rw[this]at h;simpa using h
theorem Da5 {n nb nr r:Nat}(h:zB n nb nr (kR r)=true):r<nr+bU:=by
 unfold zB at h;rw[Qal]at h;have:kR r / 3=r:=by unfold kR;omega
 rw[this]at h;simpa using h
structure Jbd (E:Env) (ops:Array Oper) (cf:Nat->List D->Option (List D)) (ρ:List D) (s:St) (is:List OpI):Prop where
 len:is.length=ops.size
 at_:∀ p o,ops.toList[p]?=some o->∃ a,is[p]?=some a/\At E ops.toList cf ρ s.get 0 is p o a s
 free:∀ p q a b,p<q->is[p]?=some a->is[q]?=some b->(∃ w,(waits ops.toList [])[q]?=some w/\Bc6 w p=true)\/qU a b=true
 low:∀ p o,ops.toList[p]?=some o->∀ e∈o.after.toList,Region.binds .any e=true->e.on<p
 dst:∀ o∈ops.toList,fD E.ntmps o
def dn (l:Array Bool)(q:Nat):Bool:=l.getD q false
def Closed (ops:Array Oper)(l:Array Bool):Prop:=∀ q w p,dn l q=true->(waits ops.toList [])[q]?=some w->Bc6 w p=true->dn l p=true
theorem apart_spec {a b:OpI}(h:qU a b=true):(∀ k,Wr a k->k∉b.log)/\(∀ k,Wr a k->¬ Wr b k)/\(∀ k,k∈a.log->¬ Wr b k)/\∀ k,Wr b k->Nap a k=false:=by
 simp only[qU,Zbo,Ach]at h;obtain⟨⟨⟨h1,h2⟩,h3⟩,h4⟩:=h
 have key:∀ {x:OpI} {k:Nat},Wr x k↔k∈x.res.upd.map (·.1):=by
  intro x k;simp only[List.mem_map];constructor
  ·rintro⟨c,hc⟩;exact⟨_,hc,rfl⟩
  ·rintro⟨⟨k',c⟩,hc,rfl⟩;exact⟨c,hc⟩
 refine⟨fun k hk=>oL h1 (key.1 hk),fun k hk hb=>oL h2 (key.1 hk) (key.1 hb),fun k hk hb=>oL h3 hk (key.1 hb),fun k hk=>?_⟩;rw[List.any_eq_false]at h4;simpa using h4 k (key.1 hk)
theorem Ta5:∀ {l:List Bool} {i:Nat},l[i]?=some false->(l.set i true).count false+1=l.count false
 |[],i,h=>by simp at h
 | b :: l, 0, h => by
  simp only[Zbw,Option.some.injEq]at h;subst h;simp
 | b :: l, i + 1, h => by
  have:=Ta5 (l:=l) (i:=i) (by simpa using h);simp only[List.set_cons_succ,List.count_cons];omega
theorem Ka7 {ops:Array Oper}{l:Array Bool}{i:Nat}(hl:l.size=ops.size)(h:i∈Region.ready .any ops l) :
  ∃ o,ops[i]?=some o/\l[i]?=some false/\∀ e∈o.after.toList,Region.binds .any e=true->dn l e.on=true:=by
 unfold Region.ready at h;rw[Cc6,Bcs]at h;obtain⟨h1,h2⟩:=h;simp only[Zbo,Ach]at h2;have ho:ops[i]?=some ops[i]:=Acr h1;rw[ho,Acz,Bcn]at h2;refine⟨_,ho,?_,fun e he hb=>?_⟩
 ·have h3:=h2.1
  rw[Acx]at h3;have hlt:i<l.size:=by omega
  rw[Acr hlt,Bcn]at h3;rw[Acr hlt,h3]
 ·have h3:=h2.2
  rw[<- Array.all_toList,Acd]at h3;have:=h3 e he;rw[hb]at this;simpa[dn] using this
theorem ready_nil {ops:Array Oper}{l:Array Bool}(hl:l.size=ops.size)(a0l:∀ p o,ops.toList[p]?=some o->∀ e∈o.after.toList,Region.binds .any e=true->e.on<p)
  (h:Region.ready .any ops l=[]):∀ q,q<ops.size->dn l q=true:=by
 intro q
 induction q using Nat.strongRecOn with
 | _ q ih =>
  intro hq
  cases hd:dn l q with
  |true=>rfl
  | false =>
   exfalso;have ho:ops[q]?=some ops[q]:=Acr hq
   have:q∈Region.ready .any ops l:=by
    unfold Region.ready;rw[Cc6,Bcs];refine⟨hq,?_⟩;simp only[Zbo,Ach];refine⟨?_,?_⟩
    ·have hlt:q<l.size:=by omega
     unfold dn at hd;rw[Acx,Acr hlt,Bcn]at hd ⊢;exact hd
    ·rw[ho,Acz,Bcn,<- Array.all_toList,Acd]
     intro e he
     cases hb:Region.binds .any e with
     |false=>rfl
     | true =>
      have hlt:=a0l q _ (by rw[Bca];exact ho) e he hb;have:=ih e.on hlt (by omega);simpa[dn] using this
   rw[h]at this;simp at this
theorem Wac {l:Array Bool}{i:Nat}(hi:i<l.size)(q:Nat):dn (l.setIfInBounds i true) q=(decide (q=i)||dn l q):=by
 unfold dn;rw[Acx,Acx,Array.getElem?_setIfInBounds];by_cases h:i=q
 ·subst h
  simp[hi]
 ·rw[if_neg h]
  have:(decide (q=i):Bool)=false:=by simp;exact fun e=>h e.symm
  rw[this,Bc8]
theorem Hbf (hti:vJ P E.ti)(cJ:Aa6 P E F cf){ops:Array Oper}{s:St}{is:List OpI}{ρ:List D}(hd:Jbd E ops cf ρ s is){Q:Exit->Act->World->Prop}
  (hQ:∀ a' w' G',R E.ntmps F (sig (fun _=>true) 0 is s.get) ρ a' w' G'->Q .normal a' w') :
  ∀ (fuel:Nat) (l:Array Bool) (a:Act) (w:World) (G:Gh),l.size=ops.size->l.toList.count false<=fuel->Closed ops l->R E.ntmps F (sig (dn l) 0 is s.get) ρ a w G ->
  wpAny P .any ops Q fuel l a w:=by
 have ym:∀ (l:Array Bool) (a:Act) (w:World) (G:Gh),l.size=ops.size->R E.ntmps F (sig (dn l) 0 is s.get) ρ a w G->Region.ready .any ops l=[]->Q .normal a w:=by
  intro l a w G hl hR hr;have cP:=ready_nil hl hd.low hr;refine hQ a w G ?_
  have:sig (fun _=>true) 0 is s.get=sig (dn l) 0 is s.get:=by
   funext k;refine Bak (fun p a hp _=>?_) rfl;have hlt:=(List.getElem?_eq_some_iff.1 hp).1;rw[hd.len]at hlt;rw[cP _ (by omega)]
  rw[this];exact hR
 intro fuel
 induction fuel with
 | zero =>
  intro l a w G hl sj hL hR
  have eR:Region.ready .any ops l=[]:=by
   cases hr:Region.ready .any ops l with
   |nil=>rfl
   | cons i r =>
    exfalso;obtain⟨o,h1,h2,h3⟩:=Ka7 hl (by rw[hr];exact Zb5:i∈Region.ready .any ops l);rw[<- Bca]at h2;have:=Ta5 h2;omega
  exact⟨eR,ym l a w G hl hR eR⟩
 | succ fuel ih =>
  intro l a w G hl sj hL hR;refine⟨ym l a w G hl hR,fun i hi=>?_⟩;obtain⟨o,ho,zg,tG⟩:=Ka7 hl hi;have hoL:ops.toList[i]?=some o:=by rw[Bca];exact ho
  have lg:i<l.size:=by
   rw[<- Bca]at zg;have:=(List.getElem?_eq_some_iff.1 zg).1;simpa using this
  obtain⟨ai,hai,il⟩:=hd.at_ i o hoL;obtain⟨mv,dq,nv,bh,aE⟩:=il.run
  have u4:dn l i=false:=by
   unfold dn;rw[Acx,zg];rfl
  have xg:∀ w p,(waits ops.toList [])[i]?=some w->Bc6 w p=true->dn l p=true:=by
   intro w' p hw hb;obtain⟨e,he,hbe,h1⟩:=Oao (acc:=[]) (p:=i) hoL (by simpa using hw) p hb
   rcases h1 with h1|⟨w'',h1,h2⟩
   ·rw[h1];exact tG e he hbe
   ·exact hL e.on w'' p (tG e he hbe) h1 h2
  have vk:∀ p b,p<i->is[p]?=some b->dn l p=false->qU b ai=true:=by
   intro p b hpi hb qy
   rcases hd.free p i b ai hpi hb hai with ⟨w',h1,h2⟩|h
   ·rw[xg w' p h1 h2]at qy;cases qy
   ·exact h
  have lq:∀ q b,i<q->is[q]?=some b->dn l q=true->qU ai b=true:=by
   intro q b hiq hb yz
   rcases hd.free i q ai b hiq hai hb with ⟨w',h1,h2⟩|h
   ·rw[hL q w' i yz h1 h2]at u4;cases u4
   ·exact h
  have a2s:∀ k∈ai.log,sig (dn l) 0 is s.get k=sig (fun q=>decide (q<0+i)) 0 is s.get k:=by
   intro k hk;refine Bak (fun p b hb hw=>?_) rfl;rw[Acl,Acl]
   rcases Nat.lt_trichotomy p i with h|h|h
   ·have e:(decide (p<i):Bool)=true:=by simpa using h
    rw[e]
    cases hdp:dn l p with
    |true=>rfl
    |false=>exact absurd hk ((apart_spec (vk p b h hb hdp)).1 k hw)
   ·subst h
    rw[u4];simp
   ·have e:(decide (p<i):Bool)=false:=by simp;omega
    rw[e]
    cases hdp:dn l p with
    |false=>rfl
    |true=>exact absurd hw ((apart_spec (lq p b h hb hdp)).2.2.1 k hk)
  have yk:=RdM.run_eval (RdM.run_same bh a2s)
  have k7:∀ (p:Nat) (b:OpI),is[p]?=some b->∃ nv' ,b.res.upd.all (fun x=>zB E.ntmps (s.nb+p) (s.nr+bU*p) x.1)=true/\nv'=nv:=by
   intro p b hb;have hlt:=(List.getElem?_eq_some_iff.1 hb).1
   have kb:ops.toList[p]?=some ops.toList[p]!:=by
    rw[List.getElem!_eq_getElem?_getD,Zbq (by simpa[<- hd.len] using hlt)];rfl
   obtain⟨b',de,y8⟩:=hd.at_ p _ kb;rw[hb]at de;obtain rfl:=Option.some.inj de;obtain⟨mv',a1u,nv',hr',-⟩:=y8.run;have:=(jT (RdM.run_eval hr')).2.2.2;rw[y8.nb,y8.nr]at this;exact⟨nv,this,rfl⟩
  have qS:Dah (sig (dn l) 0 is s.get) ai.nb ai.nr:=by
   have hf:=Qa3 (s:=s);refine⟨?_,fun j hj1 jn=>?_⟩
   ·rw[vS fun p b hb hw=>?_]
    ·rw[il.nb]
     unfold St.get vG kB;have e:(3*(s.nb+i)+1) % 3=1:=by omega
     have e2:(3*(s.nb+i)+1) / 3=s.nb+i:=by omega
     rw[e,e2]
     have:Ac8 (s.nb+i) s.nb=false:=by
      cases hb:Ac8 (s.nb+i) s.nb with
      |false=>rfl
      |true=>simp only[Acw]at hb;omega
     rw[this];rfl
    ·rw[Acl]
     obtain⟨_,hk,-⟩:=k7 p b hb;have h1:=Bbb (Vav hk hw);rw[il.nb]at h1
     rcases Nat.lt_trichotomy p i with h|h|h
     ·omega
     ·rw[h];exact u4
     ·cases hdp:dn l p with
      |false=>rfl
      | true =>
       have:=(apart_spec (lq p b h hb hdp)).2.2.2 _ hw;unfold Nap at this;rw[Qam]at this;have e2:kB ai.nb / 3=ai.nb:=by unfold kB;omega
       rw[e2]at this;simp at this
   ·rw[vS fun p b hb hw=>?_]
    ·unfold St.get vG kR
     have e:(3*j+2) % 3=2:=by omega
     have e2:(3*j+2) / 3=j:=by omega
     rw[e,e2]
     have:Ac8 j s.nr=false:=by
      cases hb:Ac8 j s.nr with
      |false=>rfl
      |true=>simp only[Acw]at hb;rw[il.nr]at hj1;omega
     rw[this];rfl
    ·rw[Acl]
     obtain⟨_,hk,-⟩:=k7 p b hb;have h1:=Da5 (Vav hk hw)
     rcases Nat.lt_trichotomy p i with h|h|h
     ·rw[il.nr]at hj1
      have:bU*(p+1)<=bU*i:=Nat.mul_le_mul_left _ h;rw[Nat.mul_succ]at this;omega
     ·rw[h];exact u4
     ·cases hdp:dn l p with
      |false=>rfl
      | true =>
       have:=(apart_spec (lq p b h hb hdp)).2.2.2 _ hw;unfold Nap at this;rw[Qal]at this;have e2:kR j / 3=j:=by unfold kR;omega
       rw[e2]at this;have e3:Nat.ble ai.nr j=true:=by simpa using hj1
       have e4:Ac8 j (ai.nr+bU)=true:=by simpa using jn
       rw[e3,e4]at this;simp at this
  have fa:Lbq P E F (sig (dn l) 0 is s.get) ρ ops o Q ai.res.upd a w:=by
   refine Bai hR hti hd.dst qS yk aE fun f args argTypes wq=>?_
   obtain⟨h2,h3,h4,h5⟩:=jT yk;rw[Kau wq]at h4;exact cJ _ ρ a w G ai.g o Q mv dq nv _ _ ai.res f args argTypes hR h3 qS wq h4 h5 aE
  have a3d:sig (dn (l.setIfInBounds i true)) 0 is s.get=upds (sig (dn l) 0 is s.get) ai.res.upd:=by
   funext k;by_cases hw:Wr ai k
   ·refine Ua6 hai (by rw[Acl,Wac lg];simp) hw fun q b hiq hb hwb=>?_
    rw[Acl,Wac lg];have e:(decide (q=i):Bool)=false:=by simp;omega
    rw[e,Bc8]
    cases yz:dn l q with
    |false=>rfl
    |true=>exact absurd hwb ((apart_spec (lq q b hiq hb yz)).2.1 k hw)
   ·rw[Mah hw]
    refine Bak (fun p b hb hwb=>?_) rfl;rw[Acl,Wac lg]
    have e:(decide (p=i):Bool)=false:=by
     simp;intro e;subst e;rw[hai]at hb;obtain rfl:=Option.some.inj hb;exact hw hwb
    rw[e,Bc8]
  have a7y:Closed ops (l.setIfInBounds i true):=by
   intro q w' p yz hw hb;rw[Wac lg]at yz ⊢;by_cases e:q=i
   ·subst e
    rw[xg w' p hw hb,Cc2]
   ·have e':(decide (q=i):Bool)=false:=by simp[e]
    rw[e',Bc8]at yz;rw[hL q w' p yz hw hb,Cc2]
  have yh:∀ a w,Nx E.ntmps F (sig (dn l) 0 is s.get) ρ ai.res.upd a w->wpAny P .any ops Q fuel (l.setIfInBounds i true) a w:=by
   intro a' w' ⟨G',ie⟩;rw[<- a3d]at ie;refine ih _ a' w' G' (by simp[hl]) ?_ a7y ie;rw[Array.toList_setIfInBounds];rw[<- Bca]at zg;have:=Ta5 zg;omega
  unfold wpOp;rw[ho];unfold Lbq at fa;dsimp only;split
  ·rename_i hw
   rw[if_pos hw]at fa;exact .inl (Oper.wp_mono yh fa)
  ·rename_i hw
   rw[if_neg hw]at fa;exact yh _ _ fa
end
section
variable {P:Program} {E:Env} {F:bG} {cf:Nat->List D->Option (List D)} {n:Nat} {σ:Nat->Option aS} {ρ:List D} {a:Act} {w:World} {G:Gh}
theorem R.world {w':World}(h:R n F σ ρ a w G)(hh:w'.heap=w.heap)(ho:w'.os=w.os)(ht:w'.tape=w.tape)(hp:w'.output=w.output):R n F σ ρ a w' G:=by
 have ej:Fr σ G w (upds σ []) G w':=by
  refine⟨fun b hb _=>⟨hb,by rw[hh]⟩,fun r k _ h=>h,fun r k h=>h,fun r k b p _ _ h=>⟨.inl h,by rw[hh]⟩,fun r k m _ h=>⟨h,fun b p h=>h⟩,fun _ _=>rfl,fun _ _=>rfl,fun k h=>h,fun _ _ _ _ _ _ _ h=>h⟩
 exact h.upd [] ej h.tmps h.defers ⟨ho.trans h.frame.os,ht.trans h.frame.tape,hp.trans h.frame.output,by rw[hh];exact h.frame.size,
  fun b hb hf=>by rw[hh];exact h.frame.keep b hb hf,fun b j hb hj=>by rw[hh];exact h.frame.boxes b j hb hj,fun b hb=>h.frame.fresh b (by rw[<- hh];exact hb)⟩
  (fun t _=>rfl) (fun b ro ls _ _=>⟨rfl,by rw[hh]⟩) (fun b ls hb=>by simp at hb) (fun k c hk=>by simp at hk)
theorem Paj (hti:vJ P E.ti)(cJ:Aa6 P E F cf)(hm:P.follows .mixedOrders=true){jy:Nat}{ops:Array Oper}{draw:Bool}{s:St}{o:Out St}
  (h:Ec cf (Mai E false jy ops.toList draw s) ρ=some o) (hl:ρ.length=s.nv) (hi:Dag E s) :
  (o.kind=.fall/\o.env.length=o.ext.nv/\Dag E o.ext/\∃ ds,o.env=ρ++ds) /\
  ∀ a w G Q,R E.ntmps F s.get ρ a w G->(∀ a' w' G',R E.ntmps F o.ext.get o.env a' w' G'->Q .normal a' w')->(Code.region jy ops draw).wp P Q a w:=by
 unfold Mai at h;split at h
 case h_2=>simp only[cond_false,jD]at h;cases h
 rename_i is s' a8p;obtain⟨js,hjs,hc⟩:=Ga9 a8p;simp only[List.reverse_nil,Ac0]at hjs;subst hjs;have oB:=Cb8 hc
 cases hb:(!draw||(Caz ops.toList 0&&wG is (waits ops.toList []) 0)) with
 |false=>rw[hb]at h;simp only[cond_false,jD]at h;cases h
 | true =>
  rw[hb,cond_true]at h;obtain⟨h1,h2,h3,⟨ds,h4⟩,h5⟩:=Xaa hc xV.1 hl h;have uw:=h5 [];rw[Acf]at uw;refine⟨⟨h1,by rw[h2,xV.1];exact h3,by rw[h2];exact (Cb7 hc hi).trim,ds,h4⟩,fun a w G Q hR hQ=>?_⟩;rw[h2,Oar]at hQ;have ie:R E.ntmps F s.get o.env a w G:=by rw[h4];exact hR.ext hi.sc (by omega) ds
  cases draw with
  | false =>
   refine wp_region ?_;rw[List.range_eq_range'];have:=Cb6 hti cJ (ops:=ops) oB hc (by simp) ie hi uw hQ;simpa using this
  | true =>
   simp only[Bc7,Bc8,Zbo]at hb;obtain⟨hlen,vq,il⟩:=Hb6 (ρ:=o.env) (cf:=cf) hc hi uw;have a1l:is.length=ops.size:=by rw[hlen];simp
   have hd:Jbd E ops cf o.env s is:=by
    refine⟨a1l,il,fun p q x y hpq hp hq=>?_,fun p o' hp e he hbe=>?_,oB⟩
    ·obtain⟨w',h6,h7⟩:=Ba3 hb.2 hpq hp hq
     rw[Acl]at h7;exact h7.imp (fun h7=>⟨w',h6,h7⟩) id
    ·have:=Faq hb.1 hp e he hbe
     omega
   refine wp_region_any hm ?_;refine Hbf hti cJ hd (fun a' w' G' tg=>hQ a' w' G' (by rw[vq];exact tg)) ops.size _ a _ G (by simp) ?_ ?_ ?_
   ·simp only[Array.toList_replicate,List.count_replicate_self,Zb2]
   ·intro q w' p hq
    unfold dn at hq;rw[Acx,Array.getElem?_replicate]at hq;split at hq<;>simp at hq
   ·rw[Ua5 fun q _=>by
     unfold dn;rw[Acx,Array.getElem?_replicate];split<;>rfl]
    exact ie.world rfl rfl rfl rfl
end
theorem Cai {s:St}{k:Nat}{c:aS}(h:s.get k=some c):vG s.nt s.nb s.nr k=true:=by
 unfold St.get at h
 cases e:vG s.nt s.nb s.nr k with
 |true=>rfl
 |false=>rw[e]at h;cases h
theorem Qak {nt nb nr r:Nat}(h:r<nr):vG nt nb nr (kR r)=true:=by
 unfold vG;rw[Qal];have:kR r / 3=r:=by unfold kR;omega
 rw[this];simpa using h
theorem yE {s:St}{u:List (Nat×aS)}(h:∀ k c,(k,c)∈u->vG s.nt s.nb s.nr k=true):(s.puts u).get=upds s.get u:=by
 funext k;obtain⟨e1,e2,e3,e4⟩:=iV u s;unfold St.get;rw[e2,e3,e4,Ma5];by_cases hm:∃ c,(k,c)∈u
 ·obtain⟨c,hc⟩:=hm
  rw[h k c hc,cond_true];exact Gaa _ _ _ _ ⟨c,hc⟩
 ·have hn:∀ c,(k,c)∉u:=fun c hc=>hm ⟨c,hc⟩
  rw[eP _ _ _ hn,eP _ _ _ hn]
def Lap (σ:Nat->Option aS)(k j:Nat):Option aR :=
 match σ k with
 |some (.slot none (.one a))=>if j=0 then some a else none
 |some (.slot none (.agg ls))=>ls[j]?
 |some (.box _ ls)=>ls[j]?
 |_=>none
theorem Ab2 {k j:Nat}{s:St}:wO k j s=(Lap s.get k j).getD .dead:=by
 unfold wO Lap;split
 ·rename_i v hk
  rw[hk]
  cases v with
  |dead=>simp[tH]
  | one a =>
   simp only[tH]
   cases j with
   |zero=>rfl
   |succ j=>simp
  |agg ls=>simp[tH,Zbu]
  |tup ts=>simp[tH]
 ·rename_i ro ls hk
  rw[hk];simp[Zbu]
 ·rename_i h1 h2
  cases hs:s.get k with
  |none=>rfl
  | some c =>
   cases c with
   | slot g v =>
    cases g with
    |none=>exact absurd hs (h1 v)
    |some g=>rfl
   |box ro ls=>exact absurd hs (h2 ro ls)
   |root=>rfl
theorem jI {k j:Nat}{s:St}{l:aR}(h:wO k j s=l)(hl:l≠.dead):Lap s.get k j=some l:=by
 rw[Ab2]at h
 cases e:Lap s.get k j with
 |none=>rw[e]at h;exact absurd h.symm hl
 |some l'=>rw[e,Bcn]at h;rw[h]
section
variable {E:Env} {F:bG} {n:Nat} {σ:Nat->Option aS} {ρ:List D} {a:Act} {w:World} {G G':Gh}
inductive ValAt (n:Nat) (gh:Nat->Value) (a:Act) (w:World) (bx:Nat->Addr):aS->Nat->Nat->Value->Prop
 |one (t:Nat) (l:aR):ValAt n gh a w bx (.slot none (.one l)) (kT t) 0 (Aa7 n a gh t)
 |agg (t:Nat) (ls:List aR) (vs:List Value) (j:Nat) (v:Value) (h:Aa7 n a gh t=.agg vs.toArray) (hv:vs[j]?=some v):ValAt n gh a w bx (.slot none (.agg ls)) (kT t) j v
 |box (b j:Nat) (ro:Bool) (ls:List aR) (v:Value) (h:w.cell? ((bx b).add j)=some v):ValAt n gh a w bx (.box ro ls) (kB b) j v
theorem R.valAt (h:R n F σ ρ a w G){k j:Nat}{l:aR}(hl:Lap σ k j=some l):∃ v c,σ k=some c/\ValAt n F.gh a w G.bx c k j v/\aB σ ρ G w l v:=by
 unfold Lap at hl;split at hl
 ·rename_i l' hk
  obtain⟨t,rfl,h1⟩:=h.cont _ _ hk;split at hl
  ·rename_i hj
   subst hj;obtain rfl:=Option.some.inj hl;exact⟨_,_,hk,.one t l',h1 rfl⟩
  ·cases hl
 ·rename_i ls hk
  obtain⟨t,rfl,h1⟩:=h.cont _ _ hk;obtain⟨vs,h2,h3⟩:bY σ ρ G w (.agg ls) _:=h1 rfl;obtain⟨v,h4,h5⟩:=h3.get hl;exact⟨v,_,hk,.agg t ls vs j v h2 h4,h5⟩
 ·rename_i ro ls hk
  obtain⟨b,rfl,h1,h2,h3⟩:=h.cont _ _ hk;obtain⟨v,h4,h5,h6⟩:=h3 j l hl;exact⟨v,_,hk,.box b j ro ls v h4,h6⟩
 ·cases hl
theorem Fr.nonroot (σ:Nat->Option aS)(G:Gh)(w:World)(u:List (Nat×aS))(hu:∀ k c,(k,c)∈u->∀ r,k≠kR r):Fr σ G w (upds σ u) G w:=by
 have hr:∀ r,upds σ u (kR r)=σ (kR r):=fun r=>eP _ _ _ fun c hc=>hu _ _ hc r rfl
 refine⟨fun b h _=>⟨h,rfl⟩,fun r k _ h=>?_,fun r k h=>?_,fun r k b p _ _ h=>⟨.inl h,rfl⟩,fun r k m _ h=>⟨?_,fun b p h=>h⟩,fun _ _=>rfl,fun _ _=>rfl,fun k h=>dX _ _ _ (.inl h),fun _ _ _ _ _ _ _ h=>h⟩
 ·obtain⟨x,m,st,e,h⟩:=h
  exact⟨x,m,st,by rw[<- hr];exact e,h⟩
 ·obtain⟨x,m,bc,st,e,h⟩:=h
  exact⟨x,m,bc,st,by rw[hr];exact e,h⟩
 ·obtain⟨x,e⟩:=h
  exact⟨x,by rw[<- hr];exact e⟩
theorem Fa0 {α:Type}{x y:List α}(h:x.toArray=y.toArray):x=y:=by
 have:=congrArg Array.toList h;simpa using this
structure Ibi (s s':St):Prop where
 nr:s'.nr=s.nr
 nt:s'.nt=s.nt
 root:∀ r,s'.get (kR r)=s.get (kR r)
theorem R.putAt {s:St}(h:R n F s.get ρ a w G){k j:Nat}{l:aR}{c0:aS}(hk:s.get k=some c0){v:Value}(hv:ValAt n F.gh a w G.bx c0 k j v)(hl:aB s.get ρ G w l v) :
  R n F (Go.Proofs.YtcbkmmhkccnamaaGreat.Rf.putAt k j l s).get ρ a w G/\Ibi s (Go.Proofs.YtcbkmmhkccnamaaGreat.Rf.putAt k j l s)/\(Go.Proofs.YtcbkmmhkccnamaaGreat.Rf.putAt k j l s).nv=s.nv:=by
 have lE:∀ c,Vb2 j l c0=some c->(∀ r,k≠kR r)->(∃ t,(k=kT t/\∃ sv,c=.slot none sv/\bY (upds s.get [(k,c)]) ρ G w sv (Aa7 n a F.gh t))\/(k=kB t/\∃ ro ls,c=.box ro ls/\Mad (upds s.get [(k,c)]) ρ G w t ro ls))->(∀ b ls,k=kB b->c=.box false ls->∃ ji,c0=.box false ji/\ls.length=ji.length) ->
   R n F (Go.Proofs.YtcbkmmhkccnamaaGreat.Rf.putAt k j l s).get ρ a w G/\Ibi s (Go.Proofs.YtcbkmmhkccnamaaGreat.Rf.putAt k j l s)/\(Go.Proofs.YtcbkmmhkccnamaaGreat.Rf.putAt k j l s).nv=s.nv:=by
  intro c hc l8 hcr hbl
  have e:Go.Proofs.YtcbkmmhkccnamaaGreat.Rf.putAt k j l s=s.puts [(k,c)]:=by
   unfold Go.Proofs.YtcbkmmhkccnamaaGreat.Rf.putAt;rw[hk,Zbv,hc];rfl
  have hg:(s.puts [(k,c)]).get=upds s.get [(k,c)]:=yE fun k' c' hm=>by
   simp only[Zb0,Prod.mk.injEq]at hm;rw[hm.1];exact Cai hk
  obtain⟨e1,e2,e3,e4⟩:=iV [(k,c)] s
  have db:∀ k' c',(k',c')∈[(k,c)]->k'=k/\c'=c:=by
   intro k' c' hm;simpa using hm
  rw[e];refine⟨?_,⟨e3,e4,fun r=>?_⟩,e1⟩
  ·rw[hg]
   have ej:=Fr.nonroot s.get G w [(k,c)] fun k' c' hm r=>by rw[(db _ _ hm).1];exact l8 r
   refine h.upd _ ej h.tmps h.defers h.frame (fun _ _=>rfl) (fun _ _ _ _ _=>⟨rfl,rfl⟩) (fun b ls hm hb ho=>?_) (fun k' c' hm _=>?_)
   ·obtain⟨e5,e6⟩:=db _ _ hm
    obtain⟨ji,h1,h2⟩:=hbl b ls e5.symm e6.symm;rw[h1]at hk;rw[h2];exact h.rng b ji (by rw[e5];exact hk) hb ho
   ·obtain⟨rfl,rfl⟩:=db _ _ hm
    obtain⟨t,⟨e7,sv,e8,h8⟩|⟨e7,ro,ls,e8,h8⟩⟩:=hcr
    ·subst e8
     exact⟨t,e7,fun _=>h8⟩
    ·subst e8
     exact⟨t,e7,h8⟩
  ·rw[hg]
   exact eP _ _ _ fun c' hm=>l8 r (db _ _ hm).1.symm
 have ej:∀ c,(∀ r,k≠kR r)->Fr s.get G w (upds s.get [(k,c)]) G w:=fun c l8=>Fr.nonroot s.get G w [(k,c)] fun k' c' hm r=>by
  simp only[Zb0,Prod.mk.injEq]at hm;rw[hm.1];exact l8 r
 cases hv with
 | one t l0 =>
  exact lE (.slot none (.one l)) rfl (fun r=>iM) ⟨t,.inl ⟨rfl,_,rfl,aB.mono (ej _ fun r=>iM) l _ hl⟩⟩ (fun b ls e=>absurd e lQ)
 | agg t ls vs _ _ h2 hvj =>
  have h1:=h.slot hk rfl;obtain⟨sA,vz,h3⟩:bY s.get ρ G w (.agg ls) _:=h1;rw[h2]at vz
  injection vz with e
  have e:=Fa0 e;subst e;have hf:=ej (.slot none (.agg (ls.set j l))) fun r=>iM
  refine lE (.slot none (.agg (ls.set j l))) rfl (fun r=>iM) ⟨t,.inl ⟨rfl,_,rfl,vs,h2,?_⟩⟩ (fun b ls e=>absurd e lQ);refine aG.of_get (by simp[h3.len]) fun i l' v' hi zy=>?_
  rw[Bcr]at hi;split at hi
  ·rename_i th
   subst th;split at hi
   ·obtain rfl:=Option.some.inj hi
    rw[zy]at hvj;obtain rfl:=Option.some.inj hvj;exact aB.mono hf _ _ hl
   ·cases hi
  ·obtain⟨u,hu,hu2⟩:=h3.get hi
   rw[zy]at hu;obtain rfl:=Option.some.inj hu;exact aB.mono hf _ _ hu2
 | box b _ ro ls _ hb =>
  obtain⟨h1,h2,h3⟩:=h.box hk;have hf:=ej (.box ro (ls.set j l)) fun r=>fB
  refine lE (.box ro (ls.set j l)) rfl (fun r=>fB) ⟨b,.inr ⟨rfl,_,_,rfl,h1,h2,fun i l' hi=>?_⟩⟩ (fun b' jv e e'=>?_)
  ·rw[Bcr]at hi
   split at hi
   ·rename_i th
    subst th;split at hi
    ·rename_i hlt
     obtain rfl:=Option.some.inj hi;obtain⟨v0,h4,h5,h6⟩:=h3 _ _ (Zbq hlt);rw[h4]at hb;obtain rfl:=Option.some.inj hb;exact⟨v0,h4,h5,aB.mono hf _ _ hl⟩
    ·cases hi
   ·obtain⟨u,h4,h5,h6⟩:=h3 i l' hi
    exact⟨u,h4,h5,aB.mono hf _ _ h6⟩
  ·injection e' with e1 e2
   subst e1 e2;exact⟨ls,rfl,by simp⟩
end
section
variable {E:Env} {F:bG} {σ:Nat->Option aS} {ρ:List D} {a:Act} {w:World} {G G':Gh}
def Vb4:Oper:={ (default:Oper) with dst:=none }
theorem R.roots (h:R E.ntmps F σ ρ a w G){ur:List (Nat×aS)}{f:Nat->List Nat->Ow}
  (hu:∀ k c,(k,c)∈ur->∃ r,k=kR r) (az:∀ b,G'.own b=mP f (G.own b))
  (y3:∀ b r p,G.own b=.slc r p->(∀ c,(kR r,c)∉ur)->f r p=.slc r p)
  (hch:∀ r c,(kR r,c)∈ur->upds σ ur (kR r)=some c->Chg σ G w G' w r c)
  (pw:∀ r x m k,σ (kR r)=some (.root x m k .frozen)->∀ s p q,f s p=.slc r q->s=r/\p=q)
  (sR:∀ r,(σ (kR r)).isSome->G'.hdr r=G.hdr r) (gb:G'.bx=G.bx)
  (eV:∀ r c,(kR r,c)∈ur->upds σ ur (kR r)=some c->∃ x m bc st,c=.root x m bc st/\bP (upds σ ur) ρ G' w r x m st):R E.ntmps F (upds σ ur) ρ a w G':=by
 have h0:dS Vb4 none .dead=[]:=rfl
 have:=h.own (o:=Vb4) (g:=none) (sv:=.dead) (v:=undef) (ur:=ur) (f:=f) (wr:=fun _=>False) (G':=G') (w':=w) (fun d hd=>by cases hd) hu (fun b _=>az b)
  (fun b hb=>by rw[az,h.frame.fresh b hb];rfl) ⟨rfl,rfl,rfl,Zb2 _⟩ (fun b hb=>.inl (by rw[az,h.frame.fresh b hb];rfl)) (fun _ _ _=>rfl) (fun b hb=>hb.elim) y3
  (by rw[h0,Ac0];exact hch) pw sR gb (fun _ _=>trivial) (by rw[h0,Ac0];exact fun _=>eV)
 rw[h0,Ac0]at this;exact this
def mvF (r rN m:Nat)(s:Nat)(p:List Nat):Ow:=if s=r then (if p.length<m then .slc rN p else .frz) else .slc s p
theorem R.moveRoot (h:R E.ntmps F σ ρ a w G){r rN m m' v:Nat}{x x0:aK}(hr:σ (kR r)=some (.root x0 m' v .live))(hN:σ (kR rN)=none)(hm:m<=m'){u:Value}
  (fg:Rp G.own w r [] m' u (x.val ρ)) {st:RSt} (aE:st=.gone\/(st=.fwd rN/\u=G.hdr r)) :
  ∃ G',R E.ntmps F (upds σ [(kR r,.root (.c .hole) 0 0 st),(kR rN,.root x m 0 .live)]) ρ a w G'/\G'.hdr rN=u/\G'.bx=G.bx:=by
 have cL:r≠rN:=fun e=>by rw[e,hN]at hr;cases hr
 let G':Gh:={ own:=fun b=>mP (mvF r rN m) (G.own b),hdr:=fun s=>if s=rN then u else G.hdr s,bx:=G.bx }
 have e1:upds σ [(kR r,aS.root (.c .hole) 0 0 st),(kR rN,.root x m 0 .live)] (kR r)=some (.root (.c .hole) 0 0 st):=by
  simp only[upds,Ua7];rw[if_neg fun e=>cL (eT e)];simp
 have e2:upds σ [(kR r,aS.root (.c .hole) 0 0 st),(kR rN,.root x m 0 .live)] (kR rN)=some (.root x m 0 .live):=by
  simp[upds,Ua7]
 have db:∀ s c,(kR s,c)∈[(kR r,aS.root (.c .hole) 0 0 st),(kR rN,.root x m 0 .live)]->s=r\/s=rN:=by
  intro s c hc;simp only[Acu,Prod.mk.injEq,Bcf,or_false]at hc;exact hc.imp (fun e=>eT e.1) (fun e=>eT e.1)
 refine⟨G',h.roots (f:=mvF r rN m) ?_ (fun b=>rfl) ?_ ?_ ?_ ?_ rfl ?_,by simp[G'],rfl⟩
 ·intro k c hc
  simp only[Acu,Prod.mk.injEq,Bcf,or_false]at hc
  rcases hc with ⟨e,-⟩|⟨e,-⟩<;>exact⟨_,e⟩
 ·intro b s p hb hn
  unfold mvF;rw[if_neg fun e=>hn _ (by rw[e];exact Zb5)]
 ·intro s c hc gy
  rcases db s c hc with rfl|rfl
  ·rw[e1]at gy
   obtain rfl:=Option.some.inj gy;refine .inr (.inr (.inl ⟨_,_,_,_,rfl,?_,?_⟩))<;>rcases aE with e|⟨e,-⟩<;>rw[e]<;>simp
  ·rw[e2]at gy
   obtain rfl:=Option.some.inj gy;exact .inl ⟨hN,_,_,_,_,rfl⟩
 ·intro r0 x1 m1 k1 hk s p q hf
  unfold mvF at hf;split at hf
  ·split at hf
   ·injection hf with f1 f2
    rw[<- f1,hN]at hk;cases hk
   ·cases hf
  ·injection hf with f1 f2
   exact⟨f1,f2⟩
 ·intro s hs
  show (if s=rN then u else G.hdr s)=_
  rw[if_neg];intro e;rw[e,hN]at hs;cases hs
 ·intro s c hc gy
  rcases db s c hc with rfl|rfl
  ·rw[e1]at gy
   obtain rfl:=Option.some.inj gy;refine⟨_,_,_,_,rfl,?_⟩
   rcases aE with e|⟨e,hu⟩
   ·subst e;trivial
   ·subst e
    refine⟨?_,by rw[e2];rfl⟩;show (if s=rN then u else G.hdr s)=(if rN=rN then u else G.hdr rN)
    rw[if_neg cL,if_pos rfl,hu]
  ·rw[e2]at gy
   obtain rfl:=Option.some.inj gy;refine⟨_,_,_,_,rfl,?_⟩;show Rp G'.own w s [] m (if s=s then u else G.hdr s) (x.val ρ)
   rw[if_pos rfl]
   have hw:=fg.weaken (own':=fun b=>mP (fun s' p=>if s'=r then (if p.length<m then .slc r p else .frz) else .slc s' p) (G.own b)) (fun b hb=>by rw[hb];rfl) m hm (fun b t hb=>by
    rw[hb];simp only[mP,if_pos rfl,Ac0]
    rfl)
   have:=hw.mono (own':=G'.own) (w':=w) (q:=[]) (q':=[]) (r':=s) (fun b hb=>⟨?_,rfl⟩) [] rfl (fun b t hb=>⟨?_,rfl⟩)
   ·simpa using this
   ·show mP _ (G.own b)=_
    cases e:G.own b with
    | slc s' p =>
     rw[e]at hb;simp only[mP]at hb ⊢;unfold mvF;split at hb
     ·rename_i ju
      rw[if_pos ju];split at hb
      ·cases hb
      ·rename_i hl;rw[if_neg hl]
     ·cases hb
    |_=>rw[e]at hb;simpa[mP] using hb
   ·show mP _ (G.own b)=_
    cases e:G.own b with
    | slc s' p =>
     rw[e]at hb;simp only[mP]at hb ⊢;unfold mvF;split at hb
     ·rename_i ju
      rw[if_pos ju];split at hb
      ·rename_i hl
       rw[if_pos hl]
       injection hb with f1 f2
       rw[f2]
      ·cases hb
     ·rename_i ju
      injection hb with f1 f2
      exact absurd f1 ju
    |_=>rw[e]at hb;simp[mP]at hb
theorem R.nilRoot (h:R E.ntmps F σ ρ a w G){rN m z:Nat}(hN:σ (kR rN)=none) :
  ∃ G',R E.ntmps F (upds σ [(kR rN,.root (.c (.rows z [])) m 0 .live)]) ρ a w G'/\G'.hdr rN=.slice none 0 0/\G'.bx=G.bx:=by
 let G':Gh:={ own:=G.own,hdr:=fun s=>if s=rN then .slice none 0 0 else G.hdr s,bx:=G.bx }
 have e2:upds σ [(kR rN,aS.root (.c (.rows z [])) m 0 .live)] (kR rN)=some (.root (.c (.rows z [])) m 0 .live):=by
  simp[upds,Ua7]
 have db:∀ s c,(kR s,c)∈[(kR rN,aS.root (.c (.rows z [])) m 0 .live)]->s=rN:=by
  intro s c hc;simp only[Acu,Prod.mk.injEq,Bcf,or_false]at hc;exact eT hc.1
 refine⟨G',h.roots (f:=fun s p=>.slc s p) ?_ (fun b=>?_) (fun _ _ _ _ _=>rfl) ?_ (fun _ _ _ _ _ s p q hf=>?_) ?_ rfl ?_,by simp[G'],rfl⟩
 ·intro k c hc
  simp only[Acu,Prod.mk.injEq,Bcf,or_false]at hc;exact⟨_,hc.1⟩
 ·show G.own b=_
  cases G.own b<;>rfl
 ·intro s c hc gy
  obtain rfl:=db s c hc;rw[e2]at gy;obtain rfl:=Option.some.inj gy;exact .inl ⟨hN,_,_,_,_,rfl⟩
 ·injection hf with f1 f2
  exact⟨f1,f2⟩
 ·intro s hs
  show (if s=rN then _ else G.hdr s)=_
  rw[if_neg];intro e;rw[e,hN]at hs;cases hs
 ·intro s c hc gy
  obtain rfl:=db s c hc;rw[e2]at gy;obtain rfl:=Option.some.inj gy;refine⟨_,_,_,_,rfl,?_⟩;show Rp G.own w s [] m (if s=s then _ else G.hdr s) (.rows z [])
  rw[if_pos rfl]
  cases m with
  |zero=>exact .fz (.rows none ⟨0,0,none⟩ 0 0 z [] (fun _ _=>undef) rfl (Zb2 _) (.inl rfl) (by simp) (by simp) (by simp))
  |succ m=>exact .sl none ⟨0,0,none⟩ 0 0 z [] (fun _ _=>undef) rfl (Zb2 _) (.inr ⟨rfl,rfl⟩) (by simp) (fun e=>by cases e) (by simp) (by simp)
def fzF (rs:List Nat)(s:Nat)(p:List Nat):Ow:=if s∈rs then .frz else .slc s p
theorem R.freeze (h:R E.ntmps F σ ρ a w G){rs:List Nat}{fr:List (Nat×aS)}(ej:(dQ rs).eval σ=some fr) :
  ∃ G',R E.ntmps F (upds σ fr) ρ a w G'/\(∀ b,G'.own b=mP (fzF rs) (G.own b))/\G'.hdr=G.hdr/\G'.bx=G.bx:=by
 obtain⟨h1,h2⟩:=gH ej
 let G':Gh:={ own:=fun b=>mP (fzF rs) (G.own b),hdr:=G.hdr,bx:=G.bx }
 have a5u:∀ b r p,G.own b=.slc r p->r∈rs->∃ c,(kR r,c)∈fr:=by
  intro b r p hb hr
  rcases h1 r hr with ⟨x,m,bc,-,h4⟩|⟨x,m,bc,h4⟩
  ·exact⟨_,h4⟩
  ·exact absurd hb ((h.root h4).2 b p)
 have dm:∀ r c,(kR r,c)∈fr->∃ x m bc,c=.root x m bc .frozen/\σ (kR r)=some (.root x m bc .live)/\r∈rs:=by
  intro r c hc;obtain⟨s,hs,x,m,bc,e,e',h3⟩:=h2 _ _ hc;obtain rfl:=eT e;exact⟨x,m,bc,e',h3,hs⟩
 have y9:∀ r x m bc,σ (kR r)=some (.root x m bc .live)->r∈rs->Rd (fun b=>G'.own b=.frz) w (G.hdr r) (x.val ρ):=by
  intro r x m bc hk hr;have h3:=h.root hk;simp only[bP]at h3;refine h3.rd.mono fun b hb=>⟨?_,rfl⟩
  show mP _ _=_
  rcases hb with hb|⟨q,hb⟩
  ·rw[hb];rfl
  ·rw[hb];simp only[mP,fzF];rw[if_pos hr]
 refine⟨G',h.roots (f:=fzF rs) ?_ (fun b=>rfl) ?_ ?_ ?_ (fun _ _=>rfl) rfl ?_,fun b=>rfl,rfl,rfl⟩
 ·intro k c hc
  obtain⟨s,-,x,m,bc,e,-⟩:=h2 _ _ hc;exact⟨s,e⟩
 ·intro b r p hb hn
  unfold fzF;rw[if_neg];intro hr;obtain⟨c,hc⟩:=a5u b r p hb hr;exact hn c hc
 ·intro r c hc _
  obtain⟨x,m,bc,rfl,h3,h4⟩:=dm r c hc;refine .inr (.inr (.inr ⟨x,m,bc,h3,rfl,fun b p hb=>⟨?_,rfl⟩⟩));show mP _ _=_
  rw[hb];simp only[mP,fzF];rw[if_pos h4]
 ·intro r x m k hk s p q hf
  unfold fzF at hf;split at hf
  ·cases hf
  ·injection hf with f1 f2
   exact⟨f1,f2⟩
 ·intro r c hc _
  obtain⟨x,m,bc,rfl,h3,h4⟩:=dm r c hc;refine⟨_,_,_,_,rfl,y9 r x m bc h3 h4,fun b p hb=>?_⟩;have hb:mP (fzF rs) (G.own b)=.slc r p:=hb
  cases e:G.own b with
  | slc s q =>
   rw[e]at hb;simp only[mP,fzF]at hb;split at hb
   ·cases hb
   ·rename_i hs
    injection hb with f1 f2
    rw[f1]at hs;exact hs h4
  |_=>rw[e]at hb;simp[mP]at hb
theorem xK {rs:List Nat}{deps:List (Nat×Nat)}(az:∀ b,G'.own b=mP (fzF rs) (G.own b))(hd:∀ z∈deps,z.1∈rs){b:Nat}(hb:allow G deps b):allow G' [] b:=by
 refine .inl ?_;rw[az]
 rcases hb with hb|⟨r,k,p,hm,hb⟩
 ·rw[hb];rfl
 ·rw[hb]
  simp only[mP,fzF];rw[if_pos (hd _ hm)]
theorem Ias {s:St}{rs:List Nat}{fr:List (Nat×aS)}(ej:(dQ rs).eval s.get=some fr):∀ k c,(k,c)∈fr->vG s.nt s.nb s.nr k=true:=by
 intro k c hc;obtain⟨r,-,x,m,bc,rfl,-,h3⟩:=(gH ej).2 k c hc;exact Cai h3
end
structure RI (nr len i:Nat) (s:St):Prop where
 nr_:s.nr=nr+len
 free:∀ j,i<=j->j<len->s.get (kR (nr+j))=none
section
variable {E:Env} {F:bG} {ρ:List D} {a:Act} {w:World} {G:Gh} {cf:Nat->List D->Option (List D)} {nr len i:Nat} {s s':St}
theorem RI.succ (h:RI nr len i s):RI nr len (i+1) s:=⟨h.nr_,fun j h1 h2=>h.free j (by omega) h2⟩
theorem RI.keeps (h:RI nr len i s)(hk:Ibi s s'):RI nr len i s':=⟨hk.nr.trans h.nr_,fun j h1 h2=>by rw[hk.root];exact h.free j h1 h2⟩
theorem RI.puts (h:RI nr len i s){u:List (Nat×aS)}{i':Nat}(hi:i<=i')(hg:(s.puts u).get=upds s.get u)(hu:∀ j,i'<=j->j<len->∀ c,(kR (nr+j),c)∉u):RI nr len i' (s.puts u) :=
 ⟨(iV u s).2.2.1.trans h.nr_,fun j h1 h2=>by rw[hg,eP _ _ _ (hu j h1 h2)];exact h.free j (by omega) h2⟩
theorem Bav {u:List (Nat×aS)}{G':Gh}(hg:(s.puts u).get=upds s.get u)(ie:R E.ntmps F (upds s.get u) ρ a w G')(gb:G'.bx=G.bx){k j:Nat}{c0:aS}(hk:s.get k=some c0)
  {v:Value} (hv:ValAt E.ntmps F.gh a w G.bx c0 k j v) (hu:∀ c,(k,c)∉u) {l:aR} (hl:aB (upds s.get u) ρ G' w l v) :
  R E.ntmps F (putAt k j l (s.puts u)).get ρ a w G'/\Ibi (s.puts u) (putAt k j l (s.puts u))/\(putAt k j l (s.puts u)).nv=s.nv:=by
 rw[<- hg]at ie hl;have jt:(s.puts u).get k=some c0:=by rw[hg,eP _ _ _ hu];exact hk
 obtain⟨h1,h2,h3⟩:=ie.putAt jt (by rw[gb];exact hv) hl;exact⟨h1,h2,h3.trans (iV u s).1⟩
theorem xU {n:Nat}{gh:Nat->Value}{bx:Nat->Addr}{c0:aS}{k j:Nat}{v:Value}(h:ValAt n gh a w bx c0 k j v):∀ r,k≠kR r:=by
 intro r
 cases h with
 |one=>exact iM
 |agg=>exact iM
 |box=>exact fB
theorem vV (hR:R E.ntmps F s.get ρ a w G)(hI:RI nr len i s){rs:List Nat}{fr:List (Nat×aS)}(ej:(dQ rs).eval s.get=some fr){k j:Nat}{c0:aS}(hk:s.get k=some c0)
  {v:Value} (hv:ValAt E.ntmps F.gh a w G.bx c0 k j v) {l:aR} (hl:∀ G' dT,(∀ b,G'.own b=mP (fzF rs) (G.own b))->aB dT ρ G' w l v) :
  (∃ G',R E.ntmps F (putAt k j l (s.puts fr)).get ρ a w G')/\RI nr len (i+1) (putAt k j l (s.puts fr))/\(putAt k j l (s.puts fr)).nt=s.nt/\(putAt k j l (s.puts fr)).nv=s.nv:=by
 obtain⟨G',ie,h1,h2,h3⟩:=hR.freeze ej;have hg:(s.puts fr).get=upds s.get fr:=yE (Ias ej);have hfk:=(gH ej).2
 obtain⟨h4,h5,h6⟩:=Bav hg ie h3 hk hv (fun c hc=>by
  obtain⟨r,-,x,m,bc,e,-⟩:=hfk _ _ hc;exact xU hv r e) (hl G' _ h1)
 refine⟨⟨G',h4⟩,RI.keeps (hI.succ.puts (Zb2 _) hg fun q p8 np c hc=>?_) h5,h5.nt.trans (iV fr s).2.2.2,h6⟩;obtain⟨r,-,x,m,bc,e,-,h7⟩:=hfk _ _ hc;rw[<- e,hI.free q (by omega) np]at h7;cases h7
theorem Paz {p:Pos}{ls:List Step}{x:aK}(h:Ma2 E p nr i s=some (ls,s',x))(hI:RI nr len i s)(hi:i<len)(hR:R E.ntmps F s.get ρ a w G)(aE:aN cf ρ none s.nv ls) :
  (∃ G',R E.ntmps F s'.get ρ a w G')/\RI nr len (i+1) s'/\s'.nt=s.nt/\s'.nv=s.nv+bH ls:=by
 have tz:=hI.free i (Zb2 _) hi;have hkN:vG s.nt s.nb s.nr (kR (nr+i))=true:=Qak (by rw[hI.nr_];omega);unfold Ma2 at h;dsimp only at h;split at h
 ·
  simp only[Option.some.injEq,Prod.mk.injEq]at h;obtain⟨rfl,rfl,rfl⟩:=h;exact⟨⟨G,hR⟩,hI.succ,rfl,rfl⟩
 ·
  rename_i al r hf hl;split at h
  ·rename_i x0 m0 v0 r' hk
   cases hb:Nat.beq r' (nr+al) with
   |false=>rw[hb]at h;simp[kD]at h
   | true =>
    rw[hb,cond_true]at h;simp only[Option.some.injEq,Prod.mk.injEq]at h;obtain⟨rfl,rfl,rfl⟩:=h;simp only[Acj]at hb;obtain⟨v,c,ox,oy,gS⟩:=hR.valAt (jI hl (by simp));simp only[aB]at gS;have vd:=hR.root hk;simp only[bP]at vd
    obtain⟨h1,h2,h3⟩:=hR.putAt ox oy (l:=.ex (nr+al)) (by
     simp only[aB];rw[<- hb];exact⟨gS.1.trans vd.1,vd.2,gS.2.2⟩)
    exact⟨⟨G,h1⟩,(hI.keeps h2).succ,h2.nt,h3⟩
  ·simp[kD]at h
 ·
  simp only[Option.some.injEq,Prod.mk.injEq]at h;obtain⟨rfl,rfl,rfl⟩:=h;exact⟨⟨G,hR⟩,hI.succ,rfl,rfl⟩
 ·
  rename_i m r hf hl;split at h
  ·rename_i x0 m' v0 hk
   cases hb:Nat.ble m m' with
   |false=>rw[hb]at h;simp[kD]at h
   | true =>
    rw[hb,cond_true]at h;simp only[Option.some.injEq,Prod.mk.injEq]at h;obtain⟨rfl,rfl,rfl⟩:=h;simp only[Ac2]at hb;obtain⟨v,c,ox,oy,gS⟩:=hR.valAt (jI hl (by simp));simp only[aB]at gS;have vd:=hR.root hk;simp only[bP]at vd;obtain⟨G',ie,h1,h2⟩:=hR.moveRoot hk tz hb vd (.inr ⟨rfl,rfl⟩)
    have hg:=yE (s:=s) (u:=[(kR r,.root (.c .hole) 0 0 (.fwd (nr+i))),(kR (nr+i),.root x0 m 0 .live)]) (fun k c hc=>by
     simp only[Acu,Prod.mk.injEq,Bcf,or_false]at hc
     rcases hc with ⟨e,-⟩|⟨e,-⟩<;>rw[e]
     ·exact Cai hk
     ·exact hkN)
    obtain⟨h3,h4,h5⟩:=Bav (j:=p.j) hg ie h2 ox oy (fun c hc=>by
     simp only[Acu,Prod.mk.injEq,Bcf,or_false]at hc
     rcases hc with ⟨e,-⟩|⟨e,-⟩<;>exact xU oy _ e) (l:=.ex (nr+i)) (by
     simp only[aB];exact⟨by rw[h1];exact gS.1,dX _ _ _ (.inr ⟨.root x0 m 0 .live,by simp⟩),gS.2.2⟩)
    refine⟨⟨G',h3⟩,RI.keeps (hI.puts (Ccp i) hg fun q p8 np c hc=>?_) h4,h4.nt.trans (iV _ s).2.2.2,h5⟩;simp only[Acu,Prod.mk.injEq,Bcf,or_false]at hc
    rcases hc with ⟨e,-⟩|⟨e,-⟩
    ·rw[<- e,hI.free q (by omega) np]at hk;cases hk
    ·have:=eT e;omega
  ·simp[kD]at h
 ·
  rename_i m nie z hf hl;simp only[Option.some.injEq,Prod.mk.injEq]at h;obtain⟨rfl,rfl,rfl⟩:=h;obtain⟨v,c,ox,oy,gS⟩:=hR.valAt (jI hl (by simp));simp only[aB]at gS;have hv0:v=.slice none 0 0:=(gS.2 (by simp)).2.1 trivial z rfl;obtain⟨G',ie,h1,h2⟩:=hR.nilRoot (m:=m) (z:=z) tz
  have hg:=yE (s:=s) (u:=[(kR (nr+i),.root (.c (.rows z [])) m 0 .live)]) (fun k c hc=>by
   simp only[Acu,Prod.mk.injEq,Bcf,or_false]at hc;rw[hc.1];exact hkN)
  obtain⟨h3,h4,h5⟩:=Bav (j:=p.j) hg ie h2 ox oy (fun c hc=>by
   simp only[Acu,Prod.mk.injEq,Bcf,or_false]at hc
   exact xU oy _ hc.1) (l:=.ex (nr+i)) (by
   simp only[aB];exact⟨by rw[h1];exact hv0,dX _ _ _ (.inr ⟨.root (.c (.rows z [])) m 0 .live,by simp⟩),gS.1.1⟩)
  refine⟨⟨G',h3⟩,RI.keeps (hI.puts (Ccp i) hg fun q p8 np c hc=>?_) h4,h4.nt.trans (iV _ s).2.2.2,h5⟩;simp only[Acu,Prod.mk.injEq,Bcf,or_false]at hc;have:=eT hc.1;omega
 ·
  rename_i m r k nie x0 hf hl;split at h
  ·rename_i x1 m' v0 hk
   cases hb:(Nat.ble m m'&&Nat.beq v0 k) with
   |false=>rw[hb]at h;simp[kD]at h
   | true =>
    rw[hb,cond_true]at h;simp only[Option.some.injEq,Prod.mk.injEq]at h;obtain⟨rfl,rfl,rfl⟩:=h;simp only[Zbo,Ac2,Acj]at hb;obtain⟨hb,rfl⟩:=hb;obtain⟨v,c,ox,oy,gS⟩:=hR.valAt (jI hl (by simp));simp only[aB]at gS
    obtain⟨-,-,h0⟩:=gS.2 fun z hz=>by
     simp only[Zb0]at hz;subst hz;exact⟨x1,m',.live,hk,.inl rfl⟩
    have fg:=h0 r v0 m' rfl ⟨x1,hk⟩;obtain⟨G',ie,h1,h2⟩:=hR.moveRoot hk tz hb fg (.inl rfl)
    have hg:=yE (s:=s) (u:=[(kR r,.root (.c .hole) 0 0 .gone),(kR (nr+i),.root x0 m 0 .live)]) (fun k c hc=>by
     simp only[Acu,Prod.mk.injEq,Bcf,or_false]at hc
     rcases hc with ⟨e,-⟩|⟨e,-⟩<;>rw[e]
     ·exact Cai hk
     ·exact hkN)
    obtain⟨h3,h4,h5⟩:=Bav (j:=p.j) hg ie h2 ox oy (fun c hc=>by
     simp only[Acu,Prod.mk.injEq,Bcf,or_false]at hc
     rcases hc with ⟨e,-⟩|⟨e,-⟩<;>exact xU oy _ e) (l:=.ex (nr+i)) (by
     simp only[aB];exact⟨h1.symm,dX _ _ _ (.inr ⟨.root x0 m 0 .live,by simp⟩),gS.1.1⟩)
    refine⟨⟨G',h3⟩,RI.keeps (hI.puts (Ccp i) hg fun q p8 np c hc=>?_) h4,h4.nt.trans (iV _ s).2.2.2,h5⟩;simp only[Acu,Prod.mk.injEq,Bcf,or_false]at hc
    rcases hc with ⟨e,-⟩|⟨e,-⟩
    ·rw[<- e,hI.free q (by omega) np]at hk;cases hk
    ·have:=eT e;omega
  ·simp[kD]at h
 ·
  rename_i hf;split at h
  ·rename_i x0 fr gE
   simp only[Option.some.injEq,Prod.mk.injEq]at h;obtain⟨rfl,rfl,rfl⟩:=h;simp only[aA,Zbn,aF,Option.some.injEq,Prod.mk.injEq]at gE;obtain⟨sl,h1,fr',h2,rfl,rfl⟩:=gE;obtain⟨v,c,ox,oy,gS⟩:=hR.valAt (jI (k:=p.k) (j:=p.j) rfl (by intro e;rw[e]at h1;cases h1));have hs:=dU hR h1 gS;have lh:v.oneCell'=true:=gS.one (by cases fm:wO p.k p.j s<;>first|rfl|(rw[fm]at h1;cases h1));refine vV hR hI h2 ox oy fun G' dT az=>?_
   simp only[aB];exact⟨⟨lh,by simp⟩,fun _=>⟨hs.rd.mono fun b hb=>⟨xK az (fun z hz=>Bci hz) hb,rfl⟩,fun e=>absurd e (by decide),trivial⟩⟩
  ·simp[kD]at h
 ·
  rename_i z hf hl;simp only[Option.some.injEq,Prod.mk.injEq]at h;obtain⟨rfl,rfl,rfl⟩:=h;obtain⟨v,c,ox,oy,gS⟩:=hR.valAt (jI hl (by simp));simp only[aB]at gS
  obtain⟨h1,h2,h3⟩:=hR.putAt ox oy (l:=.rp [] z (.c (.rows z []))) (by
   simp only[aB];exact⟨⟨by rw[gS];rfl,by simp⟩,fun _=>.inl ⟨gS,z,rfl⟩⟩)
  exact⟨⟨G,h1⟩,(hI.keeps h2).succ,h2.nt,h3⟩
 ·
  rename_i z deps z' x0 hf hl;split at h
  ·rename_i fr gE
   simp only[Option.some.injEq,Prod.mk.injEq]at h;obtain⟨rfl,rfl,rfl⟩:=h;simp only[aA,Zbn]at gE;obtain⟨ds,h1,h2⟩:=gE;obtain⟨v,c,ox,oy,gS⟩:=hR.valAt (jI hl (by simp));simp only[aB]at gS;obtain⟨h3,h4,h5⟩:=iY h1;refine vV hR hI h2 ox oy fun G' dT az=>?_
   simp only[aB];refine⟨⟨gS.1.1,by simp⟩,fun _=>?_⟩
   rcases gS.2 h3 with h6|⟨ad,row,h6,h7,h8⟩
   ·exact .inl h6
   ·exact .inr ⟨ad,row,h6,h7,(h8.drop hR h5).mono fun b hb=>⟨xK az (fun z hz=>Bci hz) hb,rfl⟩⟩
  ·simp[kD]at h
 ·
  rename_i z l z' ix hf hl;split at h
  ·rename_i x0 fr gE
   simp only[Option.some.injEq,Prod.mk.injEq]at h;obtain⟨rfl,rfl,rfl⟩:=h;simp only[aA,Zbn,aF,Option.some.injEq,Prod.mk.injEq]at gE;obtain⟨sl,h1,fr',h2,rfl,rfl⟩:=gE;obtain⟨v,c,ox,oy,gS⟩:=hR.valAt (jI hl (by simp));simp only[aB]at gS;obtain⟨ad,n,cp,ik,iv,h3,h4,h5,h6,h7⟩:=gS;have hs:=dU hR h1 h3;obtain⟨d,bh,hd⟩:=fP aE rfl;simp only[List.map_cons,List.map_nil,h4]at bh
   have fL:∃ sz rs r,sl.x.val ρ=.rows sz rs/\sz=z'/\rs[iv.toNat]?=some r/\d=.rows z' [r]:=by
    cases hx:sl.x.val ρ with
    | rows sz rs =>
     rw[hx]at bh;simp only[aT.run]at bh;split at bh
     ·rename_i hc
      split at bh
      ·rename_i r hr
       simp only[Option.some.injEq,List.cons.injEq,and_true]at bh;exact⟨sz,rs,r,rfl,hc.1,hr,bh.symm⟩
      ·cases bh
     ·cases bh
    |_=>rw[hx]at bh;simp[aT.run]at bh
   obtain⟨sz,rs,r,hx,rfl,hr,rfl⟩:=fL;have gE:=hs.rd;rw[hx]at gE;obtain⟨A',b,n',c',vs,e1,e2,e3,e4,e5,e6,e7⟩:=gE.inv
   injection e1 with e1 e1' e1''
   have hlt:iv.toNat<rs.length:=(List.getElem?_eq_some_iff.1 hr).1;have hA:some ad=some b:=by rw[e1];exact e4.resolve_left (by omega)
   obtain rfl:=Option.some.inj hA;have qo:r.length=sz:=e5 r (List.mem_of_getElem? hr)
   obtain⟨q1,q2,q3,q4⟩:=vV hR hI h2 ox oy (l:=.rp [] z (.v s.nv)) fun G' dT az=>by
    simp only[aB];refine⟨⟨by rw[h7];rfl,by simp⟩,fun _=>.inr ⟨_,r,h7,by rw[hd,qo],?_⟩⟩;have pr:∀ {b:Nat},allow G sl.deps b->allow G' [] b:=fun hb=>xK az (fun z hz=>Bci hz) hb
    refine .rows _ (ad.add (iv.toNat*sz+0)) 1 1 r.length [r] (fun _ j=>vs iv.toNat j) rfl (Zb2 _) (.inr rfl) (by simp) (fun i0 r0 nq j d0 hj=>?_) (fun i0 r0 nq j d0 hj=>?_)
    ·cases i0 with
     | zero =>
      simp only[Zbw,Option.some.injEq]at nq;subst nq;obtain⟨k1,k2⟩:=e6 _ _ hr j d0 hj;refine⟨by rw[add_block];exact pr k1,?_⟩;rw[add_add];rw[show iv.toNat*sz+0+(0*r.length+j)=iv.toNat*sz+j by omega];exact k2
     |succ i0=>simp at nq
    ·cases i0 with
     | zero =>
      simp only[Zbw,Option.some.injEq]at nq;subst nq;exact (e7 _ _ hr j d0 hj).mono fun b hb=>⟨pr hb,rfl⟩
     |succ i0=>simp at nq
   exact⟨q1,⟨q2.nr_,q2.free⟩,q3,rfl⟩
  ·simp[kD]at h
 ·simp only[Option.some.injEq,Prod.mk.injEq]at h
  obtain⟨rfl,rfl,rfl⟩:=h;exact⟨⟨G,hR⟩,hI.succ,rfl,rfl⟩
 ·simp only[Option.some.injEq,Prod.mk.injEq]at h
  obtain⟨rfl,rfl,rfl⟩:=h;exact⟨⟨G,hR⟩,hI.succ,rfl,rfl⟩
 ·simp[kD]at h
theorem vW:∀ {ps:List Pos} {i:Nat} {s s':St} {ls:List Step} {xs:List aK} {G:Gh},jX E nr ps i s=some (ls,s',xs)->RI nr len i s->i+ps.length=len->R E.ntmps F s.get ρ a w G->aN cf ρ none s.nv ls ->
  (∃ G',R E.ntmps F s'.get ρ a w G')/\s'.nt=s.nt/\s'.nr=s.nr/\s'.nv=s.nv+bH ls
 | [], i, s, s', ls, xs, G, h, hI, hl, hR, aE => by
  simp only[jX,Option.some.injEq,Prod.mk.injEq]at h;obtain⟨rfl,rfl,rfl⟩:=h;exact⟨⟨G,hR⟩,rfl,rfl,rfl⟩
 | p :: ps, i, s, s', ls, xs, G, h, hI, hl, hR, aE => by
  simp only[jX,bind,Zbn]at h;obtain⟨⟨l1,s1,x1⟩,h1,⟨l2,s2,xs2⟩,h2,h3⟩:=h;simp only[Option.some.injEq,Prod.mk.injEq]at h3;obtain⟨rfl,rfl,rfl⟩:=h3;simp only[Zb1]at hl;obtain⟨ov,k8⟩:=aN.append aE;obtain⟨⟨G1,sh⟩,hI1,h4,h5⟩:=Paz h1 hI (by omega) hR ov;rw[<- h5]at k8;obtain⟨h6,h7,h8,h9⟩:=vW h2 hI1 (by omega) sh k8;refine⟨h6,h7.trans h4,h8.trans (hI1.nr_.trans hI.nr_.symm),?_⟩;rw[h9,h5,fA,Nat.add_assoc]
theorem qF:∀ {ps:List Pos} {i:Nat} {s s':St} {ls:List Step} {xs:List aK},jX E nr ps i s=some (ls,s',xs)->xs.length=ps.length
 | [], i, s, s', ls, xs, h => by
  simp only[jX,Option.some.injEq,Prod.mk.injEq]at h;obtain⟨rfl,rfl,rfl⟩:=h;rfl
 | p :: ps, i, s, s', ls, xs, h => by
  simp only[jX,bind,Zbn]at h;obtain⟨⟨l1,s1,x1⟩,h1,⟨l2,s2,xs2⟩,h2,h3⟩:=h;simp only[Option.some.injEq,Prod.mk.injEq]at h3;obtain⟨rfl,rfl,rfl⟩:=h3;simp[qF h2]
theorem mK {τ:St}:∀ {rs:List Nat} {s s':St} {G:Gh},iA τ rs s=some s'->R E.ntmps F s.get ρ a w G->∃ G',R E.ntmps F s'.get ρ a w G'
 | [], s, s', G, h, hR => by
  simp only[iA,Option.some.injEq]at h;subst h;exact⟨G,hR⟩
 | r :: rs, s, s', G, h, hR => by
  simp only[iA]at h;split at h
  ·rename_i x m v _ hk
   have ej:(dQ [r]).eval s.get=some [(kR r,.root x m v .frozen)]:=by
    simp only[dQ,aA,aU,Zbv];rw[hk];rfl
   obtain⟨G',ie,-,-,-⟩:=hR.freeze ej;have hg:(s.puts [(kR r,.root x m v .frozen)]).get=upds s.get [(kR r,.root x m v .frozen)]:=yE (Ias ej);rw[<- hg]at ie;exact mK h ie
  ·exact mK h hR
theorem Iar {s:St}(h:nJ s.tr s.nr len=true):RI s.nr len 0 { s with nr:=s.nr+len }:=by
 refine⟨rfl,fun j _ hj=>?_⟩;unfold St.get;dsimp only;rw[yO h (s.nr+j) (by omega) (by omega)];cases vG s.nt s.nb (s.nr+len) (kR (s.nr+j))<;>rfl
theorem Wal {s:St}(h:nJ s.tr s.nr len=true):({ s with nr:=s.nr+len }:St).get=s.get:=by
 funext k;unfold St.get;dsimp only;unfold vG
 cases b0:Nat.beq (k % 3) 0 with
 |true=>rfl
 | false =>
  rw[cond_false,cond_false]
  cases b1:Nat.beq (k % 3) 1 with
  |true=>rfl
  | false =>
   rw[cond_false,cond_false];have n0:k % 3≠0:=fun e=>by rw[e]at b0;cases b0
   have n1:k % 3≠1:=fun e=>by rw[e]at b1;cases b1
   cases hb:Ac8 (k / 3) s.nr with
   | true =>
    have:Ac8 (k / 3) (s.nr+len)=true:=by simp only[Acw]at hb ⊢;omega
    rw[this]
   | false =>
    cases de:Ac8 (k / 3) (s.nr+len) with
    |false=>rfl
    | true =>
     simp only[Acw]at de
     have lB:s.nr<=k / 3:=by
      rcases Aca (k / 3) s.nr with h1|h1
      ·rw[<- Acw,hb]at h1;cases h1
      ·exact h1
     have:k=kR (k / 3):=by unfold kR;omega
     rw[cond_true,cond_false,this];exact yO h _ lB de
theorem Ta4 {s0:St}{b6:Nat}{a8:List Pos}{τ:St}{kind:Kind}{r:Tm St}(h:Jag E s0.nv s0.nr b6 a8 τ kind s=some r)(lf:zZ E s0 b6 a8.length τ){ρ0 e:List D}(hρ:ρ=ρ0++e)(h0:ρ0.length=s0.nv)
  {o:Out St} (ho:Ec cf r ρ=some o) (hl:ρ.length=s.nv) (hi:Dag E s) :
  o.kind=kind/\o.vals.length=a8.length/\∀ a w G,R E.ntmps F s.get ρ a w G->∃ G',R E.ntmps F τ.get (ρ0++o.vals) a w G':=by
 unfold Jag at h;simp only[bind,Zbn]at h;obtain⟨⟨ls,s1,xs⟩,h1,s2,h2,h3⟩:=h;dsimp only at h1 h2 h3;generalize hb:(nE E s0.nv xs s0.nr b6 s.nr a8.length τ s2&&nJ s.tr s.nr a8.length&&Nat.ble s0.nr s.nr&&eF s.nv ls&&xs.all (bA (s.nv+bH ls)))=b at h3
 cases b with
 |false=>simp[kD]at h3
 | true =>
  rw[cond_true]at h3;obtain rfl:=Option.some.inj h3;simp only[Zbo,Ac2]at hb;obtain⟨⟨⟨⟨qc,im⟩,te⟩,hb4⟩,hb5⟩:=hb;obtain⟨ds,h4,h5,h6⟩:=vM (g:=none) rfl (by rw[hl];exact hb4) ho;rw[fO]at h5;obtain rfl:=Option.some.inj h5;refine⟨rfl,by simp[Out.vals,qF h1],fun a w G hR=>?_⟩;have h6':=h6 [];rw[Acf,hl]at h6'
  have sh:R E.ntmps F ({ s with nr:=s.nr+a8.length }:St).get (ρ++ds) a w G:=by
   rw[Wal im];exact hR.ext hi.sc (by omega) ds
  obtain⟨⟨G1,z8⟩,h7,h8,h9⟩:=vW (cf:=cf) h1 (Iar im) (by simp) sh h6';obtain⟨G2,hR3⟩:=mK h2 z8;subst hρ;rw[Zbx]at hR3;have:=hR3.fit h0 (qF h1) lf qc te;rw[Zbx];exact this
end
theorem rR (b c k:Nat):lC b c (lC b c k)=k:=by
 unfold lC
 cases h1:Nat.beq k b with
 | true =>
  simp only[Acj]at h1;subst h1;rw[cond_true]
  cases h2:Nat.beq c k with
  |true=>simp only[Acj]at h2;rw[cond_true];exact h2
  |false=>rw[cond_false,show Nat.beq c c=true by simp,cond_true]
 | false =>
  rw[cond_false]
  cases h2:Nat.beq k c with
  | true =>
   simp only[Acj]at h2;subst h2;rw[cond_true,show Nat.beq b b=true by simp,cond_true]
  |false=>rw[cond_false,h1,h2,cond_false,cond_false]
theorem Oa1 {b c k K:Nat}(hk:k<K)(hb:K<=b)(hc:K<=c):lC b c k=k:=by
 unfold lC
 have h1:Nat.beq k b=false:=by cases h:Nat.beq k b with
  |false=>rfl
  |true=>simp only[Acj]at h;omega
 have h2:Nat.beq k c=false:=by cases h:Nat.beq k c with
  |false=>rfl
  |true=>simp only[Acj]at h;omega
 rw[h1,h2];rfl
theorem Fby {b c k n:Nat}(hb:b<n)(hc:c<n):lC b c k<n↔k<n:=by
 unfold lC
 cases h1:Nat.beq k b with
 |true=>simp only[Acj]at h1;rw[cond_true];omega
 | false =>
  rw[cond_false]
  cases h2:Nat.beq k c with
  |true=>simp only[Acj]at h2;rw[cond_true];omega
  |false=>rw[cond_false]
def swS (b c:Nat)(σ:Nat->Option aS):Nat->Option aS:=fun k=>(σ (mH b c k)).map (nR b c)
def swO (b c:Nat):Ow->Ow
 |.box j=>.box (lC b c j)
 |o=>o
def swG (b c:Nat)(G:Gh):Gh:=⟨fun x=>swO b c (G.own x),G.hdr,fun j=>G.bx (lC b c j)⟩
theorem Cah (b c r:Nat):mH b c (kR r)=kR r:=by
 unfold mH;rw[show Nat.beq (kR r % 3) 1=false by unfold kR;rw[show (3*r+2) % 3=2 by omega];rfl];rfl
theorem Qaj (b c j:Nat):mH b c (kB j)=kB (lC b c j):=by
 unfold mH;have e1:kB j % 3=1:=by unfold kB;omega
 have e2:kB j / 3=j:=by unfold kB;omega
 rw[e1,e2];rfl
theorem Man {b c:Nat}{o:Ow}:swO b c o=.frz↔o=.frz:=by cases o<;>simp[swO]
theorem Mam {b c:Nat}{o:Ow}{r:Nat}{p:List Nat}:swO b c o=.slc r p↔o=.slc r p:=by cases o<;>simp[swO]
theorem Na2 {b c:Nat}{y:aS}{x:aK}{m v:Nat}{st:RSt}:nR b c y=.root x m v st↔y=.root x m v st:=by cases y<;>simp[nR]
theorem Mal {b c:Nat}{σ:Nat->Option aS}{r:Nat}{x:aK}{m v:Nat}{st:RSt}:swS b c σ (kR r)=some (.root x m v st)↔σ (kR r)=some (.root x m v st):=by
 unfold swS;rw[Cah]
 cases σ (kR r) with
 |none=>simp
 |some y=>simp only[Acz,Option.some.injEq];exact Na2
theorem Gad {b c:Nat}{σ:Nat->Option aS}{k:Nat}:(swS b c σ k).isSome=(σ (mH b c k)).isSome:=by
 unfold swS;cases σ (mH b c k)<;>rfl
section
variable {b c:Nat} {σ:Nat->Option aS} {ρ:List D} {G:Gh} {w:World}
theorem Uaw {r k:Nat}:lY (swS b c σ) r k↔lY σ r k:=by
 unfold lY;simp only[Mal]
theorem Uax {r k:Nat}:jB (swS b c σ) r k↔jB σ r k:=by
 unfold jB;simp only[Mal]
theorem Sar {r k m:Nat}:yZ (swS b c σ) r k m↔yZ σ r k m:=by
 unfold yZ;simp only[Mal]
theorem Uay {deps:List (Nat×Nat)}{x:Nat}(h:allow G deps x):allow (swG b c G) deps x:=by
 rcases h with h|⟨r,k,p,hm,h⟩
 ·exact .inl (Man.2 h)
 ·exact .inr ⟨r,k,p,hm,Mam.2 h⟩
theorem Jbj {r:Nat}{p:List Nat}{m:Nat}{v:Value}{d:D}(h:Rp G.own w r p m v d):Rp (swG b c G).own w r p m v d:=by
 have:=h.mono (own':=(swG b c G).own) (w':=w) (r':=r) (q:=[]) (q':=[]) (fun x hx=>⟨Man.2 hx,rfl⟩) p rfl (fun x t hx=>⟨Mam.2 hx,rfl⟩);simpa using this
theorem Jbk {r:Nat}{q p:List Nat}{v u:Value}(h:zI G.own w r q v p u):zI (swG b c G).own w r q v p u :=
 zI.mono p q q v u (fun x t hx=>⟨Mam.2 hx,rfl⟩) h
theorem Lbz {deps:List (Nat×Nat)}{v:Value}{d:D}{p:Pth}(h:Daf σ ρ G w deps v d p):Daf (swS b c σ) ρ (swG b c G) w deps v d p:=by
 cases p with
 |no=>trivial
 |view=>exact fun r k m e hl=>Jbj (h r k m e (Sar.1 hl))
 |suf sz lo=>exact fun r k m e hl=>h r k m e (Sar.1 hl)
 | path p =>
  intro r k m e hl;obtain⟨h1,h2,h3⟩:=h r k m e (Sar.1 hl);exact⟨h1,Jbj h2,Jbk h3⟩
mutual
theorem Mak:∀ (l:aR) (v:Value),aB σ ρ G w l v->aB (swS b c σ) ρ (swG b c G) w (l.swap b c) v
 |.dead,_,hl=>by simpa[aB,aR.swap] using hl
 |.sc x,v,hl=>by simpa[aB,aR.swap] using hl
 |.su g x,v,hl=>by simpa[aB,aR.swap] using hl
 | .ex r, v, hl => by
  simp only[aB,aR.swap]at hl ⊢;exact⟨hl.1,by rw[Gad,Cah];exact hl.2.1,hl.2.2⟩
 | .sn deps p nie x, v, hl => by
  simp only[aB,aR.swap]at hl ⊢;refine⟨⟨hl.1.1,fun z hz=>Uax.2 (hl.1.2 z hz)⟩,fun hv=>?_⟩;obtain⟨h1,h2,h3⟩:=hl.2 (fun z hz=>Uaw.1 (hv z hz));exact⟨h1.mono fun x hx=>⟨Uay hx,rfl⟩,h2,Lbz h3⟩
 | .px k off, v, hl => by
  simp only[aB,aR.swap]at hl ⊢;refine⟨?_,?_⟩
  ·show v=.pointer (some ((G.bx (lC b c (lC b c k))).add off))
   rw[rR];exact hl.1
  ·rw[Gad,Qaj,rR];exact hl.2
 | .pe l sz i off, v, hl => by
  simp only[aB,aR.swap]at hl ⊢;obtain⟨a,n,c',k,iv,h1,h2⟩:=hl;exact⟨a,n,c',k,iv,Mak l _ h1,h2⟩
 | .rp deps sz x, v, hl => by
  simp only[aB,aR.swap]at hl ⊢;refine⟨⟨hl.1.1,fun z hz=>Uax.2 (hl.1.2 z hz)⟩,fun hv=>?_⟩
  rcases hl.2 (fun z hz=>Uaw.1 (hv z hz)) with h1|⟨a,row,h1,h2,h3⟩
  ·exact .inl h1
  ·exact .inr ⟨a,row,h1,h2,h3.mono fun x hx=>⟨Uay hx,rfl⟩⟩
 |.pn,v,hl=>by simpa[aB,aR.swap] using hl
 | .clo f fj, v, hl => by
  simp only[aB,aR.swap]at hl ⊢;obtain⟨vs,h1,h2⟩:=hl;exact⟨vs,h1,Bad fj vs h2⟩
theorem Bad:∀ (ls:List aR) (vs:List Value),aG σ ρ G w ls vs->aG (swS b c σ) ρ (swG b c G) w (bV b c ls) vs
 |[],vs,hl=>by simpa[aG,bV] using hl
 | l :: ls, vs, hl => by
  simp only[aG,bV]at hl ⊢;obtain⟨u,us,e,h1,h2⟩:=hl;exact⟨u,us,e,Mak l u h1,Bad ls us h2⟩
end
theorem Ibq:∀ (ts:List (Bool×List aR)) (us:List Value),iI σ ρ G w ts us->iI (swS b c σ) ρ (swG b c G) w (ts.map fun t=>(t.1,bV b c t.2)) us
 |[],_,ht=>ht
 | (a, ls) :: r, us, ht => by
  obtain⟨u,da,vs,e,h1,h2,h3⟩:=ht;exact⟨u,da,vs,e,Bad ls vs h1,h2,Ibq r da h3⟩
theorem Sbl {v:SV}{u:Value}(hv:bY σ ρ G w v u):bY (swS b c σ) ρ (swG b c G) w (Zal b c v) u:=by
 cases v with
 |dead=>trivial
 |one l=>exact Mak l u hv
 |agg ls=>obtain⟨vs,e,h1⟩:=hv;exact⟨vs,e,Bad ls vs h1⟩
 |tup ts=>obtain⟨us,e,h1⟩:=hv;exact⟨us,e,Ibq ts us h1⟩
theorem Ba9:∀ (ls:List aR) (j:Nat),(bV b c ls)[j]?=(ls[j]?).map (aR.swap b c)
 |[],j=>by simp[bV]
 |l::ls,0=>by simp[bV]
 |l::ls,j+1=>by simp[bV,Ba9 ls j]
theorem zS:∀ (ls:List aR),(bV b c ls).length=ls.length
 |[]=>rfl
 |l::ls=>by simp[bV,zS ls]
end
def Eas (F:bG)(K:Nat):Prop:=∀ x j,x<F.w0.heap.size->F.own0 x=.box j->j<K
theorem R.swap {n:Nat}{F:bG}{σ:Nat->Option aS}{ρ:List D}{a:Act}{w:World}{G:Gh}(h:R n F σ ρ a w G){K:Nat}(hF:Eas F K){b c:Nat}(hb:K<=b)(hc:K<=c):R n F (swS b c σ) ρ a w (swG b c G):=by
 refine⟨h.tmps,h.defers,fun k y hk=>?_,⟨h.frame.os,h.frame.tape,h.frame.output,h.frame.size,fun x hx ho=>?_,fun x j hx ho=>?_,fun x hx=>Man.2 (h.frame.fresh x hx)⟩,fun j ls hk hx ho=>?_⟩
 ·unfold swS at hk
  rw[Zbz]at hk;obtain⟨z,hz,rfl⟩:=hk;have hr:=h.cont _ _ hz
  cases z with
  | slot g v =>
   obtain⟨t,e,h1⟩:=hr
   have ek:k=kT t:=by
    unfold mH at e
    cases hm:Nat.beq (k % 3) 1 with
    |true=>rw[hm,cond_true]at e;exact absurd e.symm lQ
    |false=>rw[hm,cond_false]at e;exact e
   exact⟨t,ek,fun hg=>Sbl (h1 hg)⟩
  | box ro ls =>
   obtain⟨j,e,h1,h2,h3⟩:=hr
   have ek:k=kB (lC b c j):=by
    unfold mH at e
    cases hm:Nat.beq (k % 3) 1 with
    | true =>
     rw[hm,cond_true]at e;simp only[Acj]at hm;have:=Caj e;rw[<- this,rR];unfold kB;omega
    | false =>
     rw[hm,cond_false]at e;rw[e]at hm;have:kB j % 3=1:=by unfold kB;omega
     rw[this]at hm;cases hm
   refine⟨lC b c j,ek,?_,?_,fun i l hl=>?_⟩
   ·show (G.bx (lC b c (lC b c j))).spot=none
    rw[rR];exact h1
   ·show swO b c (G.own (G.bx (lC b c (lC b c j))).block)=_
    rw[rR,h2];cases ro<;>rfl
   ·rw[Ba9,Zbz]at hl
    obtain⟨l0,ni,rfl⟩:=hl;obtain⟨v,h4,h5,h6⟩:=h3 i l0 ni;show ∃ v,w.cell? ((G.bx (lC b c (lC b c j))).add i)=some v/\w.frozen? ((G.bx (lC b c (lC b c j))).add i)=false/\_
    rw[rR];exact⟨v,h4,h5,Mak l0 v h6⟩
  | root x m bc st =>
   obtain⟨r,e,h1,h2⟩:=hr
   have ek:k=kR r:=by
    unfold mH at e
    cases hm:Nat.beq (k % 3) 1 with
    |true=>rw[hm,cond_true]at e;exact absurd e fB
    |false=>rw[hm,cond_false]at e;exact e
   refine⟨r,ek,by rw[Gad,Cah];exact h1,?_⟩
   cases st with
   |live=>exact Jbj h2
   |frozen=>exact⟨h2.1.mono fun x hx=>⟨Man.2 hx,rfl⟩,fun x p hx=>h2.2 x p (Mam.1 hx)⟩
   |gone=>trivial
   |fwd r'=>exact⟨h2.1,by rw[Gad,Cah];exact h2.2⟩
 ·obtain⟨h1,h2⟩:=h.frame.keep x hx ho
  refine⟨h1,?_⟩;show swO b c (G.own x)=_
  rw[h2]
  rcases ho with ho|ho<;>rw[ho]<;>rfl
 ·obtain⟨h1,h2⟩:=h.frame.boxes x j hx ho
  refine⟨?_,h2⟩;show swO b c (G.own x)=_
  rw[h1];show Ow.box (lC b c j)=_
  rw[Oa1 (hF x j hx ho) hb hc]
 ·have hj:=hF _ j hx ho
  have e:=Oa1 hj hb hc
  have jt:σ (kB j)=some (.box false ls)\/∃ l0,σ (kB j)=some (.box false l0)/\l0.length=ls.length:=by
   unfold swS at hk;rw[Qaj,e,Zbz]at hk;obtain⟨z,hz,hs⟩:=hk
   cases z with
   |slot=>simp[nR]at hs
   |root=>simp[nR]at hs
   | box ro l0 =>
    simp only[nR,aS.box.injEq]at hs;obtain⟨rfl,rfl⟩:=hs;exact .inr ⟨l0,hz,(zS l0).symm⟩
  have e2:(swG b c G).bx j=G.bx j:=by show G.bx (lC b c j)=_;rw[e]
  rw[e2]at hx ho ⊢
  rcases jt with jt|⟨l0,jt,hl⟩
  ·exact h.rng j ls jt hx ho
  ·rw[<- hl];exact h.rng j l0 jt hx ho
theorem Ka8 {f:Nat->Option aS}:∀ (L:List Nat) (t:Tr aS) (k:Nat),(Pa0 f L t).get k=if k∈L then f k else t.get k
 |[],t,k=>by simp[Pa0]
 | x :: L, t, k => by
  rw[Pa0,Ka8 L _ k];by_cases h:k∈L
  ·rw[if_pos h,if_pos (Zby _ h)]
  ·rw[if_neg h,Tr.get_set]
   by_cases e:k=x
   ·subst e;rw[if_pos rfl,if_pos Zb5]
   ·rw[if_neg e,if_neg (by simp only[Acu,not_or];exact⟨e,h⟩)]
theorem Obp {nt nb nr k:Nat}:k∈(range 0 nt).map kT++(range 0 nb).map kB++(range 0 nr).map kR↔vG nt nb nr k=true:=by
 unfold vG;simp only[List.mem_append,List.mem_map,mem_range];constructor
 ·rintro ((⟨x,hx,rfl⟩|⟨x,hx,rfl⟩)|⟨x,hx,rfl⟩)
  ·rw[show kT x % 3=0 by unfold kT;omega,show kT x / 3=x by unfold kT;omega];simpa using hx.2
  ·rw[show kB x % 3=1 by unfold kB;omega,show kB x / 3=x by unfold kB;omega];simpa using hx.2
  ·rw[show kR x % 3=2 by unfold kR;omega,show kR x / 3=x by unfold kR;omega];simpa using hx.2
 ·have a6h:k % 3=0\/k % 3=1\/k % 3=2:=by omega
  rcases a6h with h|h|h<;>rw[h]<;>intro hk
  ·have jt:k / 3<nt:=by simpa using hk
   exact .inl (.inl ⟨k / 3,⟨Bch _,by omega⟩,by unfold kT;omega⟩)
  ·have jt:k / 3<nb:=by simpa using hk
   exact .inl (.inr ⟨k / 3,⟨Bch _,by omega⟩,by unfold kB;omega⟩)
  ·have jt:k / 3<nr:=by simpa using hk
   exact .inr ⟨k / 3,⟨Bch _,by omega⟩,by unfold kR;omega⟩
theorem Xa0 {nt nb nr b c k:Nat}(hb:b<nb)(hc:c<nb):vG nt nb nr (mH b c k)=vG nt nb nr k:=by
 unfold mH
 cases h:Nat.beq (k % 3) 1 with
 |false=>rfl
 | true =>
  rw[cond_true];simp only[Acj]at h;unfold vG;rw[show kB (lC b c (k / 3)) % 3=1 by unfold kB;omega,show kB (lC b c (k / 3)) / 3=lC b c (k / 3) by unfold kB;omega,h];show Ac8 _ _=Ac8 _ _
  have:=Fby (k:=k / 3) hb hc;cases h1:Ac8 (lC b c (k / 3)) nb<;>cases h2:Ac8 (k / 3) nb<;>first|rfl|skip
  ·simp only[Acw]at h2
   have:=this.2 h2;rw[<- Acw,h1]at this;cases this
  ·simp only[Acw]at h1
   have:=this.1 h1;rw[<- Acw,h2]at this;cases this
theorem Uav {s:St}{b c:Nat}(hb:b<s.nb)(hc:c<s.nb):(s.swap b c).get=swS b c s.get:=by
 funext k;have e0:(s.swap b c).get k=bif vG s.nt s.nb s.nr k then (s.swap b c).tr.get k else none:=rfl;have e1:(s.swap b c).tr.get k=if k∈(range 0 s.nt).map kT++(range 0 s.nb).map kB++(range 0 s.nr).map kR then swS b c s.get k else s.tr.get k:=Ka8 _ _ k
 rw[e0,e1]
 cases h:vG s.nt s.nb s.nr k with
 |true=>rw[cond_true,if_pos (Obp.2 h)]
 | false =>
  rw[cond_false];unfold swS St.get;rw[Xa0 hb hc,h];rfl
theorem Lao {b c N:Nat}:∀ l:aR,(l.swap b c).inScope N=l.inScope N:=by
 intro l
 induction l using aR.rec (motive_2:=fun ls=>bE N (bV b c ls)=bE N ls) with
 |dead=>rfl
 |sc=>rfl
 |su=>rfl
 |ex=>rfl
 |sn=>rfl
 |px=>rfl
 |pe l sz i off ih=>simp only[aR.swap,aR.inScope,ih]
 |rp=>rfl
 |pn=>rfl
 |clo f fj ih=>simp only[aR.swap,aR.inScope,ih]
 |nil=>rfl
 |cons l ls h1 h2=>simp only[bV,bE,h1,h2]
theorem qH {b c N:Nat}:∀ ls:List aR,bE N (bV b c ls)=bE N ls
 |[]=>rfl
 |l::ls=>by simp only[bV,bE,Lao,qH ls]
theorem Yaw {b c N:Nat}(y:aS):bW N (nR b c y)=bW N y:=by
 cases y with
 | slot g v =>
  simp only[nR,bW];congr 1
  cases v with
  |dead=>rfl
  |one l=>exact Lao l
  |agg ls=>exact qH ls
  | tup ts =>
   simp only[Zal,xX,List.all_map];congr 1;funext t;exact qH t.2
 |box ro ls=>exact qH ls
 |root=>rfl
theorem Dag.swap {E:Env}{s:St}(h:Dag E s){b c:Nat}(hb:b<s.nb)(hc:c<s.nb):Dag E (s.swap b c):=by
 refine⟨h.nt,?_⟩;rw[Uav hb hc];intro k y hk;unfold swS at hk;rw[Zbz]at hk;obtain⟨z,hz,rfl⟩:=hk;rw[Yaw];exact h.sc _ _ hz
theorem yH {E:Env}{F:bG}(hF:Eas F E.nbx){τ:St}:∀ (ts:List Nat) (s:St),Dag E s->Dag E (Tad E τ ts s)/\(Tad E τ ts s).nv=s.nv/\∀ {ρ:List D} {a:Act} {w:World} {G:Gh},R E.ntmps F s.get ρ a w G->∃ G',R E.ntmps F (Tad E τ ts s).get ρ a w G'
 |[],s,hi=>⟨hi,rfl,fun hR=>⟨_,hR⟩⟩
 | t :: ts, s, hi => by
  unfold Tad;split
  ·rename_i b c _ _
   cases hg:(!(Nat.beq b c)&&Nat.ble E.nbx b&&Nat.ble E.nbx c&&Ac8 b s.nb&&Ac8 c s.nb) with
   |false=>rw[cond_false];exact yH hF ts s hi
   | true =>
    rw[cond_true];simp only[Zbo,Ac2,Acw]at hg;obtain⟨⟨⟨⟨-,h1⟩,h2⟩,h3⟩,h4⟩:=hg;obtain⟨k1,k2,k3⟩:=yH hF ts (s.swap b c) (hi.swap h3 h4);refine⟨k1,k2,fun hR=>?_⟩;have:=hR.swap hF h1 h2;rw[<- Uav h3 h4]at this;exact k3 this
  ·exact yH hF ts s hi
section
variable {E:Env} {F:bG} {cf:Nat->List D->Option (List D)} {ρ:List D} {s:St}
theorem La2 (hF:Eas F E.nbx){s0:St}{b6:Nat}{a8:List Pos}{τ:St}{kind:Kind}{r:Tm St}(h:coerce E s0.nv s0.nr b6 a8 τ kind s=some r)(lf:zZ E s0 b6 a8.length τ){ρ0 e:List D}(hρ:ρ=ρ0++e)(h0:ρ0.length=s0.nv)
  {o:Out St} (ho:Ec cf r ρ=some o) (hl:ρ.length=s.nv) (hi:Dag E s) :
  o.kind=kind/\o.vals.length=a8.length/\∀ a w G,R E.ntmps F s.get ρ a w G->∃ G',R E.ntmps F τ.get (ρ0++o.vals) a w G':=by
 obtain⟨h1,h2,h3⟩:=yH hF (τ:=τ) E.pxs s hi;obtain⟨h4,h5,h6⟩:=Ta4 (F:=F) h lf hρ h0 ho (hl.trans h2.symm) h1;refine⟨h4,h5,fun a w G hR=>?_⟩;obtain⟨G',ie⟩:=h3 hR;exact h6 a w G' ie
end
def Bb4:Kind->Exit
 |.fall=>.normal
 |.exit id=>.exit id
 |.ret=>.ret
 |_=>.outgrown
def Sbt:Kind->Prop
 |.cont=>False
 |.yield _=>False
 |_=>True
structure Post (E:Env) (ρ:List D) (o:Out St):Prop where
 nice:Sbt o.kind
 len:o.env.length=o.ext.nv
 inv:Dag E o.ext
 pre:∃ ds,o.env=ρ++ds
def Wp (P:Program)(E:Env)(F:bG)(c:Code)(s:St)(ρ:List D)(o:Out St):Prop :=
 ∀ a w G Q,R E.ntmps F s.get ρ a w G->(∀ a' w' G',R E.ntmps F o.ext.get o.env a' w' G'->Q (Bb4 o.kind) a' w')->c.wp P Q a w
theorem Post.trans {E:Env}{ρ ds:List D}{o:Out St}(h:Post E (ρ++ds) o):Post E ρ o:=by
 obtain⟨es,h1⟩:=h.pre;exact⟨h.nice,h.len,h.inv,ds++es,by rw[h1,Zbx]⟩
theorem La6 {k:Kind}:pR k=true↔k=.fall:=by cases k<;>simp[pR]
section
variable {P:Program} {E:Env} {F:bG} {cf:Nat->List D->Option (List D)} {ρ:List D}
theorem mD {g:Option (aK×Bool)}{kind:Kind}{xs:List aK}{s:St}:∀ {ls:List Step} {ρ:List D} {o:Out St},Ec cf (oG g (.leaf kind xs s) ls) ρ=some o->o.kind=kind
 | [], ρ, o, h => by
  rw[oG,fO]at h;obtain rfl:=Option.some.inj h;rfl
 | .prim p ys n :: r, ρ, o, h => by
  rw[oG,Oag]at h;split at h
  ·simp only[Zbn]at h
   obtain⟨ds,-,h⟩:=h;split at h
   ·exact mD h
   ·cases h
  ·exact mD h
 | .call f ys n olds :: r, ρ, o, h => by
  rw[oG,uQ]at h;split at h
  ·simp only[Zbn]at h
   obtain⟨ds,-,h⟩:=h;split at h
   ·exact mD h
   ·cases h
  ·exact mD h
theorem Ray {n eK b6:Nat}{a8:List Pos}{τ s:St}{kind:Kind}{r:Tm St}(h:Jag E n eK b6 a8 τ kind s=some r){ρ:List D}{o:Out St}(ho:Ec cf r ρ=some o):o.kind=kind:=by
 unfold Jag at h;simp only[bind,Zbn]at h;obtain⟨⟨ls,s1,xs⟩,h1,s2,h2,h3⟩:=h;dsimp only at h3
 revert h3
 generalize (nE E n xs eK b6 s.nr a8.length τ s2&&nJ s.tr s.nr a8.length&&Nat.ble eK s.nr&&eF s.nv ls&&xs.all (bA (s.nv+bH ls)))=b;intro h3
 cases b with
 |false=>simp[kD]at h3
 | true =>
  rw[cond_true]at h3;obtain rfl:=Option.some.inj h3;exact mD ho
theorem Jaf {n eK b6:Nat}{a8:List Pos}{τ s:St}{kind:Kind}{r:Tm St}(h:coerce E n eK b6 a8 τ kind s=some r){ρ:List D}{o:Out St}(ho:Ec cf r ρ=some o):o.kind=kind:=Ray h ho
theorem Gbx {live:Nat}{s0:St}{i:Nat}{jc:Kind->Bool}{ends:List St}{t t':Tm St}{τ:St}(h:join E live s0 i jc ends t=some (t',τ)) :
  ∃ a8 fN,zZ E s0 fN a8.length τ/\t.turn (.yield i) jc (coerce E s0.nv s0.nr fN a8 τ (.yield i))=some t':=by
 unfold join at h;dsimp only at h
 revert h
 generalize hb:Eav E s0 _ _ _=b;intro h
 cases b with
 |false=>simp[kD]at h
 | true =>
  rw[cond_true,Zbz]at h;obtain⟨t1,h1,h2⟩:=h;obtain⟨rfl,rfl⟩:=Prod.mk.inj h2;exact⟨_,_,Aad hb,h1⟩
theorem Bbc (hF:Eas F E.nbx){live:Nat}{s0:St}{i:Nat}{jc:Kind->Bool}{ends:List St}{t t' k:Tm St}{τ:St}(h:join E live s0 i jc ends t=some (t',τ))(hc:jc .cont=false)(hy:∀ i,jc (.yield i)=false)
  {o:Out St} (ho:Ec cf (.bind i t' k) ρ=some o) (hl:ρ.length=s0.nv) (hP:∀ o1,Ec cf t ρ=some o1->Post E ρ o1) :
  ∃ o1,Ec cf t ρ=some o1/\((jc o1.kind=true/\∃ vals,Ec cf k (ρ++vals)=some o/\(ρ++vals).length=τ.nv/\Dag E τ/\∀ a w G,R E.ntmps F o1.ext.get o1.env a w G->∃ G',R E.ntmps F τ.get (ρ++vals) a w G')\/(jc o1.kind=false/\o=o1)):=by
 obtain⟨a8,fN,lf,ht⟩:=Gbx h;simp only[rH,Zbn]at ho;obtain⟨o',h1,h2⟩:=ho;obtain⟨o1,h3,h4⟩:=lF (fun s r hr ρ o ho=>Jaf hr ho) hc hy ht h1;refine⟨o1,h3,?_⟩;have hp:=hP o1 h3
 rcases h4 with ⟨h5,h6,r,h7,h8⟩|⟨h5,h6⟩
 ·refine .inl ⟨h5,?_⟩
  rw[if_pos h6]at h2;obtain⟨ds,h9⟩:=hp.pre;obtain⟨cQ,dz,fy⟩:=La2 hF h7 lf h9 hl h8 hp.len hp.inv;exact⟨o'.vals,h2,by rw[Zbt,hl,dz,lf.nv],⟨lf.nt1,lf.inScope⟩,fy⟩
 ·refine .inr ⟨h5,?_⟩
  subst h6
  have:o'.kind≠.yield i:=fun e=>by
   have:=hp.nice;rw[e]at this;exact this
  rw[if_neg this]at h2;exact (Option.some.inj h2).symm
theorem Ha2 {live:Nat}{s:St}{body:St->Option (Tm St)}:∀ {fuel:Nat} {a8:List Pos} {keys:List Nat} {fN:Nat} {seen:List St} {t:Tm St},Ha3 E live s body fuel a8 keys fN seen=some t ->
  ∃ a8 fN τ tb pA xs s1 s2,body τ=some tb/\zZ E s fN a8.length τ/\jX E s.nr a8 0 { s with nr:=s.nr+a8.length }=some ([],s1,xs)/\iA τ (range 0 s.nr) s1=some s2 /\
   nE E s.nv xs s.nr fN s.nr a8.length τ s2=true/\nJ s.tr s.nr a8.length=true/\tb.turn .cont pR (coerce E s.nv s.nr fN a8 τ .cont)=some pA/\t=.loop xs pA
 |0,_,_,_,_,t,h=>by simp[Ha3,kD]at h
 | fuel + 1, a8, keys, fN, seen, t, h => by
  simp only[Ha3]at h;split at h
  ·cases h
  ·rename_i tb hb
   revert h
   generalize hc:(Tac a8 _&&_&&_)=b;intro h
   cases b with
   | false =>
    rw[cond_false]at h;exact Ha2 h
   | true =>
    rw[cond_true]at h;simp only[bind,Zbn]at h;obtain⟨⟨pre,s1,xs⟩,h1,s2,h2,h3⟩:=h;dsimp only at h1 h2 h3
    revert h3
    generalize hd:(nE E s.nv xs s.nr fN s.nr a8.length _ s2&&nJ s.tr s.nr a8.length&&pre.isEmpty&&Eav E s fN a8.length _)=b;intro h3
    cases b with
    |false=>simp[kD]at h3
    | true =>
     rw[cond_true]at h3;simp only[Zbn,Option.some.injEq]at h3;obtain⟨pA,h4,h5⟩:=h3;simp only[Zbo,Ccy]at hd;obtain⟨⟨⟨fx,qd⟩,rfl⟩,hd4⟩:=hd;exact⟨a8,fN,_,tb,pA,xs,s1,s2,hb,Aad hd4,h1,h2,fx,qd,h4,h5.symm⟩
theorem Qae {s:St}{body:St->Option (Tm St)}{H:List (Nat×Nat×Nat×Nat)×List Nat×Nat×List Nat}{t:Tm St}(h:Nad E s body H=some t) :
  ∃ a8 fN τ tb pA xs s1 s2,body τ=some tb/\zZ E s fN a8.length τ/\jX E s.nr a8 0 { s with nr:=s.nr+a8.length }=some ([],s1,xs)/\iA τ (range 0 s.nr) s1=some s2 /\
   nE E s.nv xs s.nr fN s.nr a8.length τ s2=true/\nJ s.tr s.nr a8.length=true/\tb.turn .cont pR (coerce E s.nv s.nr fN a8 τ .cont)=some pA/\t=.loop xs pA:=by
 unfold Nad at h
 revert h
 generalize (H.1.map fun p=>(⟨p.1,p.2.1,Obu p.2.2.1 p.2.2.2⟩:Pos))=a8;generalize s.nr+H.2.2.1=fN;intro h;dsimp only at h;split at h
 ·cases h
 ·rename_i tb hb
  simp only[bind,Zbn]at h;obtain⟨⟨pre,s1,xs⟩,h1,s2,h2,h3⟩:=h;dsimp only at h1 h2 h3
  revert h3
  generalize hd:(nE E s.nv xs s.nr fN s.nr a8.length _ s2&&nJ s.tr s.nr a8.length&&pre.isEmpty&&Eav E s fN a8.length _)=b;intro h3
  cases b with
  |false=>simp[kD]at h3
  | true =>
   rw[cond_true]at h3;simp only[Zbn,Option.some.injEq]at h3;obtain⟨pA,h4,h5⟩:=h3;simp only[Zbo,Ccy]at hd;obtain⟨⟨⟨fx,qd⟩,rfl⟩,hd4⟩:=hd;exact⟨a8,fN,_,tb,pA,xs,s1,s2,hb,Aad hd4,h1,h2,fx,qd,h4,h5.symm⟩
theorem least {p:Nat->Prop}(h:∃ n,p n):∃ n,p n/\∀ m,p m->n<=m:=by
 obtain⟨n,hn⟩:=h
 induction n using Nat.strongRecOn with
 | _ n ih =>
  by_cases h:∃ m,m<n/\p m
  ·obtain⟨m,h1,h2⟩:=h
   exact ih m h1 h2
  ·refine⟨n,hn,fun m hm=>?_⟩
   rcases Aca m n with h1|h1
   ·exact absurd ⟨m,h1,hm⟩ h
   ·exact h1
open Classical in
theorem Oan {c:Code}{Q:Exit->Act->World->Prop}(K:Nat->Act->World->Prop)
  (round:∀ n a w,K n a w->c.wp P (Exit.then (fun a' w'=>∃ m,m<n/\K m a' w') Q) a w) {n:Nat} {a:Act} {w:World} (h0:K n a w):(Code.loop c).wp P Q a w:=by
 refine wp_loop (fun a w=>∃ n,K n a w) (fun a w=>if h:∃ n,K n a w then (least h).choose else 0) ⟨n,h0⟩ fun a w h=>?_
 have h1:=round _ a w (least h).choose_spec.1;refine wp_mono h1 fun e a' w' hq=>?_
 cases e with
 | normal =>
  obtain⟨m,hm,hK⟩:=hq;have h':∃ n,K n a' w':=⟨m,hK⟩;refine⟨h',?_⟩;rw[dif_pos h',dif_pos h];exact Nat.lt_of_le_of_lt ((least h').choose_spec.2 m hK) hm
 |_=>exact hq
theorem Kaz (hF:Eas F E.nbx){s:St}{body:St->Option (Tm St)}{c:Code}
  (hbody:∀ {τ:St} {t:Tm St} {ρ:List D} {o:Out St},body τ=some t->Ec cf t ρ=some o->ρ.length=τ.nv->Dag E τ->Post E ρ o/\Wp P E F c τ ρ o)
  {t:Tm St} (h:∃ a8 fN τ tb pA xs s1 s2,body τ=some tb/\zZ E s fN a8.length τ/\jX E s.nr a8 0 { s with nr:=s.nr+a8.length }=some ([],s1,xs)/\iA τ (range 0 s.nr) s1=some s2 /\
   nE E s.nv xs s.nr fN s.nr a8.length τ s2=true/\nJ s.tr s.nr a8.length=true/\tb.turn .cont pR (coerce E s.nv s.nr fN a8 τ .cont)=some pA/\t=.loop xs pA) {o:Out St} (ho:Ec cf t ρ=some o) (hl:ρ.length=s.nv) (hi:Dag E s):Post E ρ o/\Wp P E F (.loop c) s ρ o:=by
 obtain⟨a8,fN,τ,tb,pA,xs,s1,s2,h1,lf,h2,h3,h4,h5,h6,rfl⟩:=h;have a6z:Dag E τ:=⟨lf.nt1,lf.inScope⟩;have mS:=qF h2;rw[Oah]at ho
 have tl:∀ vs o',vs.length=a8.length->Ec cf pA (ρ++vs)=some o'->∃ o1,Ec cf tb (ρ++vs)=some o1/\Post E (ρ++vs) o1/\Wp P E F c τ (ρ++vs) o1 /\
   ((o1.kind=.fall/\o'.kind=.cont/\o'.vals.length=a8.length/\∀ a w G,R E.ntmps F o1.ext.get o1.env a w G->∃ G',R E.ntmps F τ.get (ρ++o'.vals) a w G')\/(o1.kind≠.fall/\o'=o1)):=by
  intro vs o' kA he;obtain⟨o1,h7,h8⟩:=lF (fun s r hr ρ o ho=>Jaf hr ho) rfl (fun _=>rfl) h6 he;obtain⟨hp,hw⟩:=hbody h1 h7 (by rw[Zbt,hl,kA,lf.nv]) a6z;refine⟨o1,h7,hp,hw,?_⟩
  rcases h8 with ⟨h9,cQ,r,dz,fy⟩|⟨h9,cQ⟩
  ·obtain⟨ds,iq⟩:=hp.pre
   obtain⟨ko,mm,mL⟩:=La2 hF dz lf (iq.trans (Zbx ..)) hl fy hp.len hp.inv;exact .inl ⟨La6.1 h9,ko,mm,mL⟩
  ·exact .inr ⟨(fun e=>by rw[e]at h9;cases h9),cQ⟩
 refine⟨?_,fun a w G Q hR hQ=>?_⟩
 ·refine Dbi (C:=fun vs o=>vs.length=a8.length->Post E ρ o) (fun vs o' he hk kA=>?_) (fun vs o' o2 he hk hC _ kA=>?_) ho (by simp[mS])
  ·obtain⟨o1,-,hp,-,h8⟩:=tl vs o' kA he
   rcases h8 with ⟨-,h9,-⟩|⟨-,h9⟩
   ·exact absurd h9 hk
   ·rw[h9];exact hp.trans
  ·obtain⟨o1,-,hp,-,h8⟩:=tl vs o' kA he
   rcases h8 with ⟨-,-,h9,-⟩|⟨-,h9⟩
   ·exact hC h9
   ·subst h9
    have:=hp.nice;rw[hk]at this;exact this.elim
 ·
  have sh:R E.ntmps F ({ s with nr:=s.nr+a8.length }:St).get ρ a w G:=by rw[Wal h5];exact hR
  obtain⟨⟨G1,z8⟩,-⟩:=vW (cf:=cf) h2 (Iar h5) (by simp) sh trivial;obtain⟨G2,hR3⟩:=mK h3 z8;obtain⟨G3,hR4⟩:=R.fit (ρ0:=ρ) (e:=[]) (by rw[Acf];exact hR3) hl mS lf h4 (Zb2 _);rw[Acf]at hR4;have sr:=ho;unfold Lc at sr;obtain⟨N,hN⟩:=(gB (Sb6 (cf:=cf) pA ρ (xs.map (·.val ρ)))).1 sr;refine Oan (fun n a w=>∃ vs G,iter n (fun vs=>runT cf N pA (ρ++vs)) vs=some o/\vs.length=a8.length/\R E.ntmps F τ.get (ρ++vs) a w G) (fun n a w hK=>?_) (n:=N) ⟨_,G3,hN,by simp[mS],hR4⟩;obtain⟨vs,G,hn,kA,hRv⟩:=hK
  cases n with
  |zero=>cases hn
  | succ m =>
   simp only[iter,Zbn]at hn;obtain⟨o',h7,h8⟩:=hn;obtain⟨o1,h9,hp,hw,cQ⟩:=tl vs o' kA (Jaw.2 ⟨N,h7⟩);refine hw a w G _ hRv fun a' w' G' ie=>?_
   rcases cQ with ⟨dz,fy,iq,ko⟩|⟨dz,fy⟩
   ·rw[if_pos fy]at h8
    rw[dz];obtain⟨G'',tg⟩:=ko a' w' G' ie;exact⟨m,Nat.lt_succ_self m,o'.vals,G'',h8,iq,tg⟩
   ·subst fy
    have hk:o'.kind≠.cont:=fun e=>by
     have:=hp.nice;rw[e]at this;exact this
    rw[if_neg hk]at h8;obtain rfl:=Option.some.inj h8;have:=hQ a' w' G' ie
    revert this dz
    have:=hp.nice
    revert this
    cases o'.kind<;>intro h1 h2 h3<;>first|exact h1.elim|exact (h2 rfl).elim|exact h3
theorem qX (hF:Eas F E.nbx)(hti:vJ P E.ti)(cJ:Aa6 P E F cf)(hm:P.follows .mixedOrders=true){rb:Nat}:∀ (c:Code) {ex:List (Nat×Nat)} {live:Nat} {s:St} {t:Tm St} {ρ:List D} {o:Out St},sxC E false rb c ex live s=some t ->
  Ec cf t ρ=some o->ρ.length=s.nv->Dag E s->Post E ρ o/\Wp P E F c s ρ o
 | .skip, ex, live, s, t, ρ, o, h, ho, hl, hi => by
  simp only[sxC,Option.some.injEq]at h;subst h;rw[fO]at ho;obtain rfl:=Option.some.inj ho;exact⟨⟨trivial,hl,hi,[],by simp⟩,fun a w G Q hR hQ=>wp_skip (hQ a w G hR)⟩
 | .label _, ex, live, s, t, ρ, o, h, ho, hl, hi => by
  simp only[sxC,Option.some.injEq]at h;subst h;rw[fO]at ho;obtain rfl:=Option.some.inj ho;exact⟨⟨trivial,hl,hi,[],by simp⟩,fun a w G Q hR hQ=>wp_label (hQ a w G hR)⟩
 | .ret, ex, live, s, t, ρ, o, h, ho, hl, hi => by
  simp only[sxC,Option.some.injEq]at h;subst h;rw[fO]at ho;obtain rfl:=Option.some.inj ho;exact⟨⟨trivial,hl,hi,[],by simp⟩,fun a w G Q hR hQ=>wp_ret (hQ a w G hR)⟩
 | .exit id, ex, live, s, t, ρ, o, h, ho, hl, hi => by
  simp only[sxC,Option.some.injEq]at h;subst h;rw[fO]at ho;obtain rfl:=Option.some.inj ho;exact⟨⟨trivial,hl,hi,[],by simp⟩,fun a w G Q hR hQ=>wp_exit (hQ a w G hR)⟩
 | .region jy ops draw, ex, live, s, t, ρ, o, h, ho, hl, hi => by
  simp only[sxC,Option.some.injEq]at h;subst h;obtain⟨⟨h1,h2,h3,h4⟩,h5⟩:=Paj hti cJ hm ho hl hi
  exact⟨⟨by rw[h1];trivial,h2,h3,h4⟩,fun a w G Q hR hQ=>h5 a w G Q hR fun a' w' G' ie=>by
   have:=hQ a' w' G' ie;rw[h1]at this;exact this⟩
 | .seq a b, ex, live, s, t, ρ, o, h, ho, hl, hi => by
  simp only[sxC,bind,Zbn]at h;obtain⟨ta,hta,h⟩:=h;have iha:=fun {o1:Out St} (h1:Ec cf ta ρ=some o1)=>qX hF hti cJ hm a hta h1 hl hi
  have lP:∀ o1:Out St,Post E ρ o1->Wp P E F a s ρ o1->o1.kind≠.fall->Wp P E F (.seq a b) s ρ o1:=by
   intro o1 hp hw hk a' w G Q hR hQ;refine wp_seq (hw a' w G _ hR fun a1 w1 G1 sh=>?_);have:=hQ a1 w1 G1 sh
   revert this hk
   have:=hp.nice
   revert this
   cases o1.kind<;>intro h1 h2 h3<;>first|exact h1.elim|exact (h2 rfl).elim|exact h3
  cases vv:ta.no pR with
  | true =>
   rw[vv,cond_true,Option.some.injEq]at h;subst h;obtain⟨hp,hw⟩:=iha ho;exact⟨hp,lP o hp hw fun e=>by have:=wJ vv ho;rw[e]at this;cases this⟩
  | false =>
   rw[vv,cond_false]at h
   have fa:∀ {o1:Out St} {s2:St} {tb:Tm St} {ρ2:List D},Ec cf ta ρ=some o1->o1.kind=.fall->sxC E false rb b ex live s2=some tb->Ec cf tb ρ2=some o->ρ2.length=s2.nv->Dag E s2->(∃ ds,ρ2=ρ++ds) ->
     (∀ a w G,R E.ntmps F o1.ext.get o1.env a w G->∃ G',R E.ntmps F s2.get ρ2 a w G')->Post E ρ o/\Wp P E F (.seq a b) s ρ o:=by
    intro o1 s2 tb ρ2 h1 hk h2 h3 h4 h5 ⟨ds,h6⟩ h7;obtain⟨hp,hw⟩:=qX hF hti cJ hm b h2 h3 h4 h5;obtain⟨hp1,hw1⟩:=iha h1;subst h6;refine⟨hp.trans,fun a' w G Q hR hQ=>wp_seq (hw1 a' w G _ hR fun a1 w1 G1 sh=>?_)⟩;rw[hk];obtain⟨G2,z8⟩:=h7 a1 w1 G1 sh;exact hw a1 w1 G2 Q z8 hQ
   split at h
   ·obtain⟨o1,h1,h2⟩:=qM h ho
    rcases h2 with ⟨h3,tb,h4,h5⟩|⟨h3,h4⟩
    ·obtain⟨hp,-⟩:=iha h1
     exact fa h1 h3 h4 h5 hp.len hp.inv hp.pre fun a w G hR=>⟨G,hR⟩
    ·subst h4
     obtain⟨hp,hw⟩:=iha h1;exact⟨hp,lP _ hp hw h3⟩
   ·simp only[Zbn]at h
    obtain⟨⟨t',τ⟩,hj,k,hk,h⟩:=h;simp only[Option.some.injEq]at h;subst h;obtain⟨o1,h1,h2⟩:=Bbc hF hj rfl (fun _=>rfl) ho hl fun o1 h1=>(iha h1).1
    rcases h2 with ⟨h3,vals,h4,h5,h6,h7⟩|⟨h3,h4⟩
    ·exact fa h1 (La6.1 h3) hk h4 h5 h6 ⟨vals,rfl⟩ fun a w G hR=>h7 a w G hR
    ·subst h4
     obtain⟨hp,hw⟩:=iha h1;exact⟨hp,lP _ hp hw fun e=>by rw[e]at h3;cases h3⟩
 | .cond c a b, ex, live, s, t, ρ, o, h, ho, hl, hi => by
  simp only[sxC]at h
  have s6:∀ v,Cbw c=some v->c=.const (.bool v):=by
   intro v hv;unfold Cbw at hv;split at hv
   ·cases hv;rfl
   ·cases hv
  split at h
  ·rename_i hc
   obtain rfl:=s6 _ hc;obtain⟨hp,hw⟩:=qX hF hti cJ hm a h ho hl hi;exact⟨hp,fun a' w G Q hR hQ=>wp_cond_true rfl (hw a' w G Q hR hQ)⟩
  ·rename_i hc
   obtain rfl:=s6 _ hc;obtain⟨hp,hw⟩:=qX hF hti cJ hm b h ho hl hi;exact⟨hp,fun a' w G Q hR hQ=>wp_cond_false rfl (hw a' w G Q hR hQ)⟩
  rename_i hcn;clear hcn s6;split at h
  ·rename_i x tt hk
   cases hb:(bA s.nv x&&Ac8 tt E.ntmps) with
   | false =>
    rw[hb]at h;simp only[Bool.not_false,cond_true,Option.some.injEq]at h;subst h;rw[jD]at ho;cases ho
   | true =>
    rw[hb]at h;simp only[Bc7,cond_false,bind,Zbn,Option.some.injEq]at h;obtain⟨ta,hta,tb,htb,rfl⟩:=h;simp only[Zbo,Acw]at hb
    have hev:∀ a' w G,R E.ntmps F s.get ρ a' w G->Sc (a'.eval (.tmp tt)) (x.val ρ):=by
     intro a' w G hR;have:=hR.slot hk rfl;simp only[bY,aB,Aa7]at this;rw[if_pos hb.2]at this
     have e:a'.eval (.tmp tt)=a'.tmps.getD tt undef:=by
      simp[Act.eval,Acx]
     rw[e];exact this
    rw[Faw]at ho;split at ho
    ·rename_i hx
     obtain⟨hp,hw⟩:=qX hF hti cJ hm a hta ho hl hi;refine⟨hp,fun a' w G Q hR hQ=>wp_cond_true ?_ (hw a' w G Q hR hQ)⟩;have:=hev a' w G hR;rw[hx]at this;exact this.bool_inv
    ·rename_i hx
     obtain⟨hp,hw⟩:=qX hF hti cJ hm b htb ho hl hi;refine⟨hp,fun a' w G Q hR hQ=>wp_cond_false ?_ (hw a' w G Q hR hQ)⟩;have:=hev a' w G hR;rw[hx]at this;exact this.bool_inv
    ·cases ho
  ·simp only[Option.some.injEq]at h
   subst h;rw[jD]at ho;cases ho
 | .block id b, ex, live, s, t, ρ, o, h, ho, hl, hi => by
  simp only[sxC,bind,Zbn]at h;obtain⟨tb,htb,h⟩:=h;have ihb:=fun {o1:Out St} (h1:Ec cf tb ρ=some o1)=>qX hF hti cJ hm b htb h1 hl hi
  have lP:∀ o1:Out St,Post E ρ o1->Wp P E F b s ρ o1->oP id o1.kind=false->Wp P E F (.block id b) s ρ o1:=by
   intro o1 hp hw hk a' w G Q hR hQ;refine wp_block (hw a' w G _ hR fun a1 w1 G1 sh=>?_);have:=hQ a1 w1 G1 sh
   revert this hk
   have:=hp.nice
   revert this
   cases o1.kind with
   | exit j =>
    intro h1 h2 h3;simp only[Bb4,Exit.inBlock];rw[if_neg]
    ·exact h3
    ·intro e
     simp[oP,e]at h2
   |fall=>exact fun h1 h2 h3=>h3
   |ret=>exact fun h1 h2 h3=>h3
   |cont=>exact fun h1 h2 h3=>h1.elim
   |yield i=>exact fun h1 h2 h3=>h1.elim
  cases vv:tb.no (oP id) with
  | true =>
   rw[vv,cond_true,Option.some.injEq]at h;subst h;obtain⟨hp,hw⟩:=ihb ho;exact⟨hp,lP o hp hw (wJ vv ho)⟩
  | false =>
   rw[vv,cond_false]at h
   have vq:∀ {o1:Out St} {o:Out St},Ec cf tb ρ=some o1->Ra7 id o1.kind=true->o.kind=.fall->(∀ a w G,R E.ntmps F o1.ext.get o1.env a w G->∃ G',R E.ntmps F o.ext.get o.env a w G')->Wp P E F (.block id b) s ρ o:=by
    intro o1 o h1 hk ho hg a' w G Q hR hQ;obtain⟨hp,hw⟩:=ihb h1;refine wp_block (hw a' w G _ hR fun a1 w1 G1 sh=>?_);obtain⟨G2,z8⟩:=hg a1 w1 G1 sh;have:=hQ a1 w1 G2 z8;rw[ho]at this
    revert hk
    cases o1.kind with
    | exit j =>
     intro hk;simp only[Ra7,Acj]at hk;simp only[Bb4,Exit.inBlock];rw[if_pos hk.symm];exact this
    |fall=>exact fun _=>this
    |ret=>intro hk;cases hk
    |cont=>intro hk;cases hk
    |yield i=>intro hk;cases hk
   split at h
   ·obtain⟨o1,h1,h2⟩:=jK h ho
    obtain⟨hp,hw⟩:=ihb h1
    rcases h2 with ⟨h3,h4⟩|⟨h3,h4⟩
    ·subst h4
     refine⟨⟨trivial,hp.len,hp.inv,hp.pre⟩,vq h1 ?_ rfl fun a w G hR=>⟨G,hR⟩⟩
     revert h3
     cases o1.kind<;>simp[oP,Ra7]
    ·subst h4
     exact⟨hp,lP _ hp hw h3⟩
   ·simp only[Zbn]at h
    obtain⟨⟨t',τ⟩,hj,h⟩:=h;simp only[Option.some.injEq]at h;subst h;obtain⟨o1,h1,h2⟩:=Bbc hF hj rfl (fun _=>rfl) ho hl fun o1 h1=>(ihb h1).1
    rcases h2 with ⟨h3,vals,h4,h5,h6,h7⟩|⟨h3,h4⟩
    ·rw[fO]at h4
     obtain rfl:=Option.some.inj h4;exact⟨⟨trivial,h5,h6,vals,rfl⟩,vq h1 h3 rfl fun a w G hR=>h7 a w G hR⟩
    ·subst h4
     obtain⟨hp,hw⟩:=ihb h1;refine⟨hp,lP _ hp hw ?_⟩
     revert h3
     cases o.kind<;>simp[oP,Ra7]
 | .loop b, ex, live, s, t, ρ, o, h, ho, hl, hi => by
  simp only[sxC]at h;split at h
  ·exact Kaz hF (fun h1 h2 h3 h4=>qX hF hti cJ hm b h1 h2 h3 h4) (Qae h) ho hl hi
  ·exact Kaz hF (fun h1 h2 h3 h4=>qX hF hti cJ hm b h1 h2 h3 h4) (Ha2 h) ho hl hi
 | .scope _, ex, live, s, t, ρ, o, h, ho, hl, hi => by
  simp only[sxC,Option.some.injEq]at h;subst h;rw[jD]at ho;cases ho
 | .goto _, ex, live, s, t, ρ, o, h, ho, hl, hi => by
  simp only[sxC,Option.some.injEq]at h;subst h;rw[jD]at ho;cases ho
 | .rangeFunc _ _ _ _, ex, live, s, t, ρ, o, h, ho, hl, hi => by
  simp only[sxC,Option.some.injEq]at h;subst h;rw[jD]at ho;cases ho
 | .refuse _, ex, live, s, t, ρ, o, h, ho, hl, hi => by
  simp only[sxC,Option.some.injEq]at h;subst h;rw[jD]at ho;cases ho
end
end Go.Proofs.YtcbkmmhkccnamaaGreat.Rf
