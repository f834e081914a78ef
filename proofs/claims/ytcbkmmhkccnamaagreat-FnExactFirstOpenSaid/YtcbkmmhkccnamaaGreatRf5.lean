import Derived.Test.YtcbkmmhkccnamaaGreatRf4
import Derived.Orders
set_option linter.all false
open Array renaming getElem?_eq_getElem → Pb0, getD_eq_getD_getElem? → Pb3, getElem?_toList → Qbj
open Bool renaming and_eq_true → Obz, not_eq_true' → Pbs, or_eq_true → Qbb, not_true → Qbz, false_or → Qb6
open List renaming mem_append_left → Ob1, getElem?_eq_some_iff → Ob2, mem_singleton → Ob3, mem_append_right → Ob4, getElem?_eq_getElem → Ob5, getElem?_cons_zero → Ob7, mem_cons → Ob8, getD_eq_getElem?_getD → Pba, mem_cons_of_mem → Pbb, append_assoc → Pbd, mem_cons_self → Pbf, length_append → Pbg, getElem?_append_left → Pbi, all_eq_true → Pbv, append_nil → Pbz, mem_map → Pb5, length_cons → Pb9, nil_append → Qbc, mem_map_of_mem → Qbi, not_mem_nil → Qbo, mem_filter → Qbu, getElem?_set → Qb0, mem_range → Rbr, isEmpty_iff → Rbv
open Nat renaming le_refl → Pbj, lt_or_ge → Pbo, beq_eq → Pbq, zero_add → Pbw, add_zero → Pby, blt_eq → Pb2, ble_eq → Qba, blt → Qbg, zero_le → Qbn, testBit → Rbb, le_succ → Rbo, le_add_right → Rb2
open Option renaming bind_eq_some_iff → Oby, bind_some → Ob6, map_eq_some_iff → Pbc, map_some → Pb6, getD_some → Qbt
open Option.some renaming injEq → Ob0, inj → Pbu
open Prod.mk renaming injEq → Pbl
namespace Go.Proofs.YtcbkmmhkccnamaaGreat.Rf
theorem mem_range {x:Nat}:∀ {n a:Nat},x∈range a n↔a<=x/\x<a+n
 |0,a=>by simp[range]
 | n + 1, a => by
  simp only[range,Ob8,mem_range];omega
theorem pV {br cS r:Nat}(h:r<br):Pak br cS r=r:=by
 unfold Pak
 have:Nat.ble br r=false:=by
  cases e:Nat.ble br r with
  |false=>rfl
  |true=>simp only[Qba]at e;omega
 rw[this];rfl
theorem Kan {br cS r:Nat}(h:br<=r):Pak br cS r=cS+(r-br):=by
 unfold Pak;have:Nat.ble br r=true:=by simpa using h
 rw[this];rfl
def rZ (dw cS br:Nat):Ow->Ow
 |.slc r p=>if r<dw then .slc r p else if cS<=r then .slc (br+(r-cS)) p else .oth
 |o=>o
theorem Sae {dw cS br:Nat}{o:Ow}{r:Nat}{p:List Nat}(h0:dw<=br)(h:rZ dw cS br o=.slc r p):o=.slc (Pak br cS r) p:=by
 cases o with
 | slc s q =>
  simp only[rZ]at h;split at h
  ·injection h with h1 h2
   subst h1 h2;rw[pV (by omega)]
  ·split at h
   ·injection h with h1 h2
    subst h1 h2;rw[Kan (by omega)];congr 1;omega
   ·cases h
 |_=>simp only[rZ]at h;cases h
theorem Fad {dw cS br r:Nat}{p:List Nat}(h0:dw<=br)(hB:dw<=cS)(hr:r<dw\/br<=r):rZ dw cS br (.slc (Pak br cS r) p)=.slc r p:=by
 simp only[rZ]
 rcases hr with h|h
 ·rw[pV (by omega),if_pos h]
 ·rw[Kan h,if_neg (by omega),if_pos (by omega)]
  congr 1;omega
structure Wao (τ:St) (σ:Nat->Option aN) (fw ρ:List D) (G' G:Gh) (N n:Nat) (xs:List aI) (br cS dw:Nat):Prop where
 at_:∀ x,aX N x=true->x.val fw=(Kao n xs x).val ρ
 le:dw<=br
 leB:dw<=cS
 hdr:∀ r,G'.hdr r=G.hdr (Pak br cS r)
 own:∀ b,G'.own b=rZ dw cS br (G.own b)
 bx:G'.bx=G.bx
 valid:∀ r k,r<dw->kL τ.get r k->kL σ r k
 live:∀ r k m,r<dw->wD τ.get r k m->wD σ r k m
theorem Baj {τ:St}{dw:Nat}:∀ {deps:List (Nat×Nat)},Mas τ dw deps=true->∀ z∈deps,z.1<dw/\iK τ.get z.1 z.2
 |[],_,z,hz=>by simp at hz
 | (r, k) :: d, h, z, hz => by
  simp only[Mas,Obz]at h
  rcases Ob8.1 hz with rfl|hz
  ·refine⟨by simpa using h.1.1,?_⟩
   have h2:=h.1.2;split at h2
   ·rename_i x m v e;exact⟨_,_,_,_,e,fun hs=>by rcases hs with hs|hs<;>cases hs⟩
   ·rename_i x m v r' e;exact⟨_,_,_,_,e,fun hs=>by rcases hs with hs|hs<;>cases hs⟩
   ·rename_i x m v st sC hn2 e;exact⟨_,_,_,_,e,fun _=>by simpa using h2⟩
   ·cases h2
  ·exact Baj h.2 z hz
section
variable {τ:St} {σ:Nat->Option aN} {fw ρ:List D} {G' G:Gh} {w:World} {N n:Nat} {xs:List aI} {br cS dw:Nat}
theorem Wao.ownLow (h:Wao τ σ fw ρ G' G N n xs br cS dw){b r:Nat}{p:List Nat}(hr:r<dw)(hb:G.own b=.slc r p):G'.own b=.slc r p:=by
 rw[h.own,hb];have h1:Pak br cS r=r:=pV (by have:=h.le;omega);have h2:=Fad (p:=p) h.le h.leB (.inl hr:r<dw\/br<=r);rw[h1]at h2;exact h2
theorem Wao.frz (h:Wao τ σ fw ρ G' G N n xs br cS dw){b:Nat}(hb:G.own b=.frz):G'.own b=.frz:=by
 rw[h.own,hb];rfl
theorem Wao.allow (h:Wao τ σ fw ρ G' G N n xs br cS dw){deps:List (Nat×Nat)}(hd:∀ z∈deps,z.1<dw){b:Nat}(hb:Go.Proofs.YtcbkmmhkccnamaaGreat.Rf.allow G deps b):Go.Proofs.YtcbkmmhkccnamaaGreat.Rf.allow G' deps b:=by
 rcases hb with hb|⟨r,k,p,hm,hb⟩
 ·exact .inl (h.frz hb)
 ·exact .inr ⟨r,k,p,hm,h.ownLow (hd _ hm) hb⟩
theorem Wao.path (h:Wao τ σ fw ρ G' G N n xs br cS dw){p:List (aI×Nat×Nat)}(hp:(p.all fun x=>aX N x.1)=true):aZ fw p=aZ ρ (p.map fun x=>(Kao n xs x.1,x.2)):=by
 unfold aZ;rw[List.map_map];apply List.map_congr_left;intro x hx;rw[Pbv]at hp;simp only[Function.comp,jT,h.at_ x.1 (hp x hx)]
mutual
theorem aB.fit (h:Wao τ σ fw ρ G' G N n xs br cS dw):∀ (l:aM) (v:Value),l.inScope N=true->l.wf τ dw=true->aB σ ρ G w (l.sub n xs br cS) v->aB τ.get fw G' w l v
 |.dead,_,_,_,hl=>by simpa[aM.sub,aB] using hl
 | .sc x, v, hs, _, hl => by
  simp only[aM.inScope]at hs;simp only[aM.sub,aB]at hl ⊢;rw[h.at_ x hs];exact hl
 | .su g x, v, hs, _, hl => by
  simp only[aM.inScope,Obz]at hs;obtain⟨y,b⟩:=g;simp only[aM.sub,aB]at hl ⊢;have hg:gOn fw (some (y,b))=gOn ρ (some (Kao n xs y,b)):=by simp only[gOn,h.at_ y hs.2]
  rw[h.at_ x hs.1,hg];exact hl
 | .ex r, v, _, hw, hl => by
  simp only[aM.wf]at hw;simp only[aM.sub,aB]at hl ⊢;exact⟨by rw[h.hdr];exact hl.1,hw,hl.2.2⟩
 | .sn deps p nie x, v, hs, hw, hl => by
  simp only[aM.inScope,Obz]at hs;simp only[aM.wf]at hw;have hd:=Baj hw;simp only[aM.sub,aB]at hl ⊢;rw[h.at_ x hs.1];refine⟨⟨hl.1.1,fun z hz=>(hd z hz).2⟩,fun hv=>?_⟩;obtain⟨h1,h2,h3⟩:=hl.2 fun z hz=>h.valid _ _ (hd z hz).1 (hv z hz)
  refine⟨h1.mono fun b hb=>⟨h.allow (fun z hz=>(hd z hz).1) hb,rfl⟩,h2,?_⟩
  cases p with
  |no=>trivial
  | view =>
   intro r k m e gu;have hr:=(hd (r,k) (by simp[e])).1;have:=(h3 r k m e (h.live r k m hr gu)).mono (own':=G'.own) (w':=w) (q:=[]) (q':=[]) (r':=r) (fun b hb=>⟨h.frz hb,rfl⟩) [] rfl (fun b t hb=>⟨h.ownLow hr hb,rfl⟩);simpa using this
  | suf sz lo =>
   intro r k m e gu;have hr:=(hd (r,k) (by simp[e])).1;have h4:=h3 r k m e (h.live r k m hr gu)
   have h5:jT fw lo=jT ρ (Kao n xs lo):=by
    unfold jT;rw[h.at_ lo hs.2]
   rw[h5];rw[h.hdr,pV (by have:=h.le;omega)];exact h4
  | path p =>
   intro r k m e gu;have hr:=(hd (r,k) (by simp[e])).1;obtain⟨h4,h5,h6⟩:=h3 r k m e (h.live r k m hr gu);rw[h.path hs.2];rw[List.length_map]at h4 h5;refine⟨h4,?_,?_⟩
   ·have:=h5.mono (own':=G'.own) (w':=w) (q:=[]) (q':=[]) (r':=r) (fun b hb=>⟨h.frz hb,rfl⟩) _ rfl (fun b t hb=>⟨h.ownLow hr hb,rfl⟩)
    rw[Qbc]at this;exact this
   ·rw[h.hdr,pV (by have:=h.le;omega)]
    exact wG.mono _ _ _ _ _ (fun b t hb=>⟨h.ownLow hr hb,rfl⟩) h6
 | .px b off, v, _, hw, hl => by
  simp only[aM.wf]at hw;simp only[aM.sub,aB]at hl ⊢;exact⟨by rw[h.bx];exact hl.1,hw⟩
 | .pe l sz i off, v, hs, hw, hl => by
  simp only[aM.inScope,Obz]at hs;simp only[aM.wf]at hw;simp only[aM.sub,aB]at hl ⊢;obtain⟨a,n,c,k,iv,h1,h2⟩:=hl;exact⟨a,n,c,k,iv,aB.fit h l _ hs.1 hw h1,by rw[h.at_ i hs.2];exact h2⟩
 | .rp deps sz x, v, hs, hw, hl => by
  simp only[aM.inScope]at hs;simp only[aM.wf]at hw;have hd:=Baj hw;simp only[aM.sub,aB]at hl ⊢;rw[h.at_ x hs];refine⟨⟨hl.1.1,fun z hz=>(hd z hz).2⟩,fun hv=>?_⟩
  rcases hl.2 fun z hz=>h.valid _ _ (hd z hz).1 (hv z hz) with h1|⟨a,row,h1,h2,h3⟩
  ·exact .inl h1
  ·exact .inr ⟨a,row,h1,h2,h3.mono fun b hb=>⟨h.allow (fun z hz=>(hd z hz).1) hb,rfl⟩⟩
 |.pn,v,_,_,hl=>by simpa[aM.sub,aB] using hl
 | .clo f eN, v, hs, hw, hl => by
  simp only[aM.inScope]at hs;simp only[aM.wf]at hw;simp only[aM.sub,aB]at hl ⊢;obtain⟨vs,h1,h2⟩:=hl;exact⟨vs,h1,aG.fit h eN vs hs hw h2⟩
theorem aG.fit (h:Wao τ σ fw ρ G' G N n xs br cS dw):∀ (ls:List aM) (vs:List Value),bB N ls=true->lV τ dw ls=true->aG σ ρ G w (gL n xs br cS ls) vs->aG τ.get fw G' w ls vs
 |[],vs,_,_,hl=>by simpa[gL,aG] using hl
 | l :: ls, vs, hs, hw, hl => by
  simp only[bB,Obz]at hs;simp only[lV,Obz]at hw;simp only[gL,aG]at hl ⊢;obtain⟨u,us,e,h1,h2⟩:=hl;exact⟨u,us,e,aB.fit h l u hs.1 hw.1 h1,aG.fit h ls us hs.2 hw.2 h2⟩
end
theorem vW:∀ {d d':List (Nat×Nat)},uM d d'=true->d=d'
 |[],[],_=>rfl
 |[],_::_,h=>by simp[uM]at h
 |_::_,[],h=>by simp[uM]at h
 | (a, b) :: r, (a', b') :: r', h => by
  simp only[uM,Obz,Pbq]at h;rw[h.1.1,h.1.2,vW h.2]
theorem Lah:∀ {d d':List (aI×Nat×Nat)},Hae d d'=true->d=d'
 |[],[],_=>rfl
 |[],_::_,h=>by simp[Hae]at h
 |_::_,[],h=>by simp[Hae]at h
 | (a, b, c) :: r, (a', b', c') :: r', h => by
  simp only[Hae,Obz,Pbq]at h;rw[aI.beq0_eq h.1.1.1,h.1.1.2,h.1.2,Lah h.2]
theorem Pth.beq0_eq {p q:Pth}(h:p.beq0 q=true):p=q:=by
 cases p<;>cases q<;>simp only[Pth.beq0]at h<;>first|rfl|cases h|skip
 ·rw[Lah h]
 ·simp only[Obz,Pbq]at h
  rw[h.1,aI.beq0_eq h.2]
mutual
theorem aM.beq0_eq:∀ {a b:aM},a.beq0 b=true->a=b
 |.dead,b,h=>by cases b<;>first | rfl | (simp[aM.beq0]at h)
 | .sc x, b, h => by
  cases b<;>simp only[aM.beq0]at h<;>first|cases h|skip
  rw[aI.beq0_eq h]
 | .su g x, b, h => by
  cases b<;>simp only[aM.beq0]at h<;>first|cases h|skip
  rename_i g' x';simp only[Obz,beq_iff_eq]at h;obtain⟨y,u⟩:=g;obtain⟨y',u'⟩:=g';have h1:=aI.beq0_eq h.1.1;have h2:u=u':=h.1.2;dsimp only at h1;rw[h1,h2,aI.beq0_eq h.2]
 | .ex r, b, h => by
  cases b<;>simp only[aM.beq0]at h<;>first|cases h|skip
  simp only[Pbq]at h;rw[h]
 | .sn d p e x, b, h => by
  cases b<;>simp only[aM.beq0]at h<;>first|cases h|skip
  simp only[Obz,beq_iff_eq]at h;rw[vW h.1.1.1,Pth.beq0_eq h.1.1.2,h.1.2,aI.beq0_eq h.2]
 | .px c o, b, h => by
  cases b<;>simp only[aM.beq0]at h<;>first|cases h|skip
  simp only[Obz,Pbq]at h;rw[h.1,h.2]
 | .pe l s i o, b, h => by
  cases b<;>simp only[aM.beq0]at h<;>first|cases h|skip
  simp only[Obz,Pbq]at h;rw[aM.beq0_eq h.1.1.1,h.1.1.2,aI.beq0_eq h.1.2,h.2]
 | .rp d s x, b, h => by
  cases b<;>simp only[aM.beq0]at h<;>first|cases h|skip
  simp only[Obz,Pbq]at h;rw[vW h.1.1,h.1.2,aI.beq0_eq h.2]
 |.pn,b,h=>by cases b<;>first | rfl | (simp[aM.beq0]at h)
 | .clo f l, b, h => by
  cases b<;>simp only[aM.beq0]at h<;>first|cases h|skip
  simp only[Obz,Pbq]at h;rw[h.1,zP h.2]
theorem zP:∀ {a b:List aM},oW a b=true->a=b
 |[],b,h=>by cases b<;>first | rfl | (simp[oW]at h)
 | a :: r, b, h => by
  cases b<;>simp only[oW]at h<;>first|cases h|skip
  simp only[Obz]at h;rw[aM.beq0_eq h.1,zP h.2]
end
theorem tZ {a b:aM}(h:vQ a b=true){v:Value}(hb:aB σ ρ G w b v):aB σ ρ G w a v:=by
 unfold vQ at h;split at h
 ·simp only[aB]
  exact hb.one h
 ·rename_i d x
  split at h
  ·rename_i d' p nie x'
   simp only[Obz]at h;obtain rfl:=vW h.1;obtain rfl:=aI.beq0_eq h.2;simp only[aB]at hb ⊢;exact⟨hb.1,fun hv=>⟨(hb.2 hv).1,(fun e=>absurd e (by decide)),trivial⟩⟩
  ·cases h
 ·rw[aM.beq0_eq h];exact hb
theorem zM:∀ {a b:List aM},dN a b=true->∀ {vs:List Value},aG σ ρ G w b vs->aG σ ρ G w a vs
 |[],[],_,vs,hb=>hb
 |[],_::_,h,vs,hb=>by simp[dN]at h
 |_::_,[],h,vs,hb=>by simp[dN]at h
 | a :: r, b :: s, h, vs, hb => by
  simp only[dN,Obz]at h;simp only[aG]at hb ⊢;obtain⟨u,us,e,h1,h2⟩:=hb;exact⟨u,us,e,tZ h.1 h1,zM h.2 h2⟩
theorem zN:∀ {a b:List aM},dN a b=true->a.length=b.length
 |[],[],_=>rfl
 |[],_::_,h=>by simp[dN]at h
 |_::_,[],h=>by simp[dN]at h
 | a :: r, b :: s, h => by
  simp only[dN,Obz]at h;simp[zN h.2]
theorem zO:∀ {a b:List aM},dN a b=true->∀ {j:Nat} {l:aM},a[j]?=some l->∃ m,b[j]?=some m/\vQ l m=true
 |[],[],_,j,l,hj=>by simp at hj
 |[],_::_,h,_,_,_=>by simp[dN]at h
 |_::_,[],h,_,_,_=>by simp[dN]at h
 | a :: r, b :: s, h, j, l, hj => by
  simp only[dN,Obz]at h
  cases j with
  | zero =>
   simp only[Ob7,Ob0]at hj;subst hj;exact⟨b,rfl,h.1⟩
  |succ j=>exact zO h.2 (by simpa using hj)
theorem zL:∀ {ls:List aM} {j:Nat} {l:aM},ls[j]?=some l->(gL n xs br cS ls)[j]?=some (l.sub n xs br cS)
 |[],j,l,h=>by simp at h
 | m :: ls, 0, l, h => by
  simp only[Ob7,Ob0]at h;subst h;rfl
 | m :: ls, j + 1, l, h => by
  simp only[gL,List.getElem?_cons_succ]at h ⊢;exact zL h
theorem zK:∀ {ls:List aM},(gL n xs br cS ls).length=ls.length
 |[]=>rfl
 |m::ls=>by simp[gL,zK (ls:=ls)]
theorem Caa:∀ {ls:List aM} {j:Nat} {l:aM},lV τ dw ls=true->ls[j]?=some l->l.wf τ dw=true
 |[],j,l,_,h=>by simp at h
 | m :: ls, 0, l, hs, h => by
  simp only[lV,Obz]at hs;simp only[Ob7,Ob0]at h;rw[<- h];exact hs.1
 | m :: ls, j + 1, l, hs, h => by
  simp only[lV,Obz]at hs;exact Caa hs.2 (by simpa using h)
end
theorem xM {s:St}{k:Nat}{c:aN}(h:s.get k=some c):(∃ t,k=kT t/\t<s.nt)\/(∃ b,k=kB b/\b<s.nb)\/(∃ r,k=kR r/\r<s.nr):=by
 unfold St.get at h
 cases hk:sJ s.nt s.nb s.nr k with
 |false=>rw[hk]at h;cases h
 | true =>
  unfold sJ at hk
  cases b0:Nat.beq (k % 3) 0 with
  | true =>
   rw[b0,cond_true,Pb2]at hk;simp only[Pbq]at b0;exact .inl ⟨k / 3,by unfold kT;omega,hk⟩
  | false =>
   rw[b0,cond_false]at hk;have n0:k % 3≠0:=fun e=>by rw[e]at b0;cases b0
   cases b1:Nat.beq (k % 3) 1 with
   | true =>
    rw[b1,cond_true,Pb2]at hk;simp only[Pbq]at b1;exact .inr (.inl ⟨k / 3,by unfold kB;omega,hk⟩)
   | false =>
    rw[b1,cond_false,Pb2]at hk;have n1:k % 3≠1:=fun e=>by rw[e]at b1;cases b1
    exact .inr (.inr ⟨k / 3,by unfold kR;omega,hk⟩)
theorem qN {n:Nat}{xs:List aI}{br cS:Nat}{τ s:St}:∀ {ks:List Nat},zY n xs br cS τ s ks=true->∀ k∈ks,bR n xs br cS (τ.get k) (s.get k)=true
 |[],_,k,hk=>by simp at hk
 | k' :: ks, h, k, hk => by
  simp only[zY,Obz]at h
  rcases Ob8.1 hk with rfl|hk
  ·exact h.1
  ·exact qN h.2 k hk
theorem zZ {n:Nat}{xs:List aI}{br cS:Nat}{τ s:St}:∀ {ks:List Nat},Aaa n xs br cS τ s ks=true->∀ r∈ks,bR n xs br cS (τ.get (kR r)) (s.get (kR (Pak br cS r)))=true
 |[],_,k,hk=>by simp at hk
 | k' :: ks, h, k, hk => by
  simp only[Aaa,Obz]at h
  rcases Ob8.1 hk with rfl|hk
  ·exact h.1
  ·exact zZ h.2 k hk
theorem Aax {τ:St}{dw:Nat}:∀ {ks:List Nat},Dau τ dw ks=true->∀ k∈ks,pG τ dw k (τ.get k)=true
 |[],_,k,hk=>by simp at hk
 | k' :: ks, h, k, hk => by
  simp only[Dau,Obz]at h
  rcases Ob8.1 hk with rfl|hk
  ·exact h.1
  ·exact Aax h.2 k hk
theorem Hak {τ:St}:∀ {ks:List Nat},Pa3 τ ks=true->∀ k∈ks,τ.get k=none
 |[],_,k,hk=>by simp at hk
 | k' :: ks, h, k, hk => by
  simp only[Pa3,Obz,Option.isNone_iff_eq_none]at h
  rcases Ob8.1 hk with rfl|hk
  ·exact h.1
  ·exact Hak h.2 k hk
structure wX (E:Env) (s0:St) (br len:Nat) (τ:St):Prop where
 nv:τ.nv=s0.nv+len
 nt1:E.ntmps<=τ.nt
 nt2:τ.nt<=E.ntmps+E.ngh
 nr:τ.nr=br+len
 le:s0.nr<=br
 none:∀ r,s0.nr<=r->r<br->τ.get (kR r)=none
 wf:∀ k c,τ.get k=some c->pG τ s0.nr k (some c)=true
theorem xC {E:Env}{s0:St}{br len:Nat}{τ:St}(h:Bax E s0 br len τ=true):wX E s0 br len τ:=by
 simp only[Bax,Obz,Pbq,Qba]at h;obtain⟨⟨⟨⟨⟨⟨h1,h2⟩,h3⟩,h4⟩,h5⟩,h6⟩,h7⟩:=h
 have lk:∀ r,s0.nr<=r->r<br->τ.get (kR r)=Option.none:=fun r ha hb =>
  Hak h6 _ (Pb5.2 ⟨r,mem_range.2 ⟨ha,by omega⟩,rfl⟩)
 refine⟨h1,h2,h3,h4,h5,lk,fun k c hk=>?_⟩
 have:k∈(range 0 τ.nt).map kT++(range 0 τ.nb).map kB++((range 0 s0.nr++range br len).map kR):=by
  rcases xM hk with ⟨t,rfl,ht⟩|⟨b,rfl,hb⟩|⟨r,rfl,hr⟩
  ·exact Ob1 _ (Ob1 _ (Pb5.2 ⟨t,mem_range.2 ⟨by omega,by omega⟩,rfl⟩))
  ·exact Ob1 _ (Ob4 _ (Pb5.2 ⟨b,mem_range.2 ⟨by omega,by omega⟩,rfl⟩))
  ·refine Ob4 _ (Pb5.2 ⟨r,?_,rfl⟩)
   rcases Pbo r s0.nr with h8|h8
   ·exact Ob1 _ (mem_range.2 ⟨by omega,by omega⟩)
   ·rcases Pbo r br with h9|h9
    ·rw[lk r h8 h9]at hk;cases hk
    ·exact Ob4 _ (mem_range.2 ⟨h9,by omega⟩)
 have:=Aax h7 k this;rw[hk]at this;exact this
theorem qX {τ:St}{dw k:Nat}{c:aN}(h:pG τ dw k (some c)=true):bQ τ.nv c=true:=by
 simp only[pG,Obz]at h;exact h.1
theorem wX.inScope {E:Env}{s0:St}{br len:Nat}{τ:St}(h:wX E s0 br len τ):wY τ.get τ.nv:=fun k c hk=>qX (h.wf k c hk)
theorem Jas {n:Nat}{xs:List aI}{br cS:Nat}{x:aI}{m v:Nat}{st:RSt}{c:Option aN}(h:bR n xs br cS (some (.root x m v st)) c=true) :
  st=.gone\/∃ x',c=some (.root x' m v st)/\Kao n xs x=x':=by
 cases st with
 |gone=>exact .inl rfl
 | _ =>
  right
  cases c with
  |none=>simp[bR]at h
  | some c =>
   cases c with
   | root x' m' v' s7 =>
    simp only[bR,Obz,Pbq,yU,decide_eq_true_eq]at h;exact⟨x',by rw[h.1.1.1,h.1.1.2,h.1.2],aI.beq0_eq h.2⟩
   |_=>simp[bR]at h
theorem Mav {n:Nat}{xs:List aI}{br cS:Nat}{l:aM}{c:Option aN}(h:bR n xs br cS (some (.slot none (.one l))) c=true) :
  ∃ b,c=some (.slot none (.one b))/\vQ (l.sub n xs br cS) b=true:=by
 cases c with
 |none=>simp[bR]at h
 | some c =>
  cases c with
  | slot g v =>
   cases g with
   |some g=>simp[bR]at h
   |none=>cases v<;>first | exact⟨_,rfl,by simpa[bR] using h⟩ | simp[bR]at h
  |_=>simp[bR]at h
theorem Maw {n:Nat}{xs:List aI}{br cS:Nat}{l:List aM}{c:Option aN}(h:bR n xs br cS (some (.slot none (.agg l))) c=true) :
  ∃ b,c=some (.slot none (.agg b))/\dN (gL n xs br cS l) b=true:=by
 cases c with
 |none=>simp[bR]at h
 | some c =>
  cases c with
  | slot g v =>
   cases g with
   |some g=>simp[bR]at h
   |none=>cases v<;>first | exact⟨_,rfl,by simpa[bR] using h⟩ | simp[bR]at h
  |_=>simp[bR]at h
theorem Caq {n:Nat}{xs:List aI}{br cS:Nat}{ro:Bool}{l:List aM}{c:Option aN}(h:bR n xs br cS (some (.box ro l)) c=true) :
  ∃ b,c=some (.box ro b)/\dN (gL n xs br cS l) b=true:=by
 cases c with
 |none=>simp[bR]at h
 | some c =>
  cases c with
  | box kk b =>
   simp only[bR,Obz,beq_iff_eq]at h;exact⟨b,by rw[h.1],h.2⟩
  |_=>simp[bR]at h
theorem Abc (t:Nat):kT t % 3=0:=by unfold kT;omega
theorem Law (t:Nat):kB t % 3=1:=by unfold kB;omega
theorem Lav (t:Nat):kR t % 3=2:=by unfold kR;omega
theorem Jac {s:St}{k:Nat}{c:aN}(h:s.get k=some c)(hm:Nat.beq (k % 3) 0=true):∃ t,k=kT t/\t<s.nt:=by
 rw[Pbq]at hm
 rcases xM h with h|⟨b,rfl,hb⟩|⟨r,rfl,hr⟩
 ·exact h
 ·rw[Law]at hm;omega
 ·rw[Lav]at hm;omega
theorem Bbp {s:St}{k:Nat}{c:aN}(h:s.get k=some c)(hm:Nat.beq (k % 3) 1=true):∃ t,k=kB t/\t<s.nb:=by
 rw[Pbq]at hm
 rcases xM h with ⟨b,rfl,hb⟩|h|⟨r,rfl,hr⟩
 ·rw[Abc]at hm;omega
 ·exact h
 ·rw[Lav]at hm;omega
theorem Yat {s:St}{k:Nat}{c:aN}(h:s.get k=some c)(hm:Nat.beq (k % 3) 2=true):∃ t,k=kR t/\t<s.nr:=by
 rw[Pbq]at hm
 rcases xM h with ⟨b,rfl,hb⟩|⟨r,rfl,hr⟩|h
 ·rw[Abc]at hm;omega
 ·rw[Law]at hm;omega
 ·exact h
theorem R.fit {E:Env}{F:bC}{τ s s0:St}{ρ0 e:List D}{a:Act}{w:World}{G:Gh}{xs:List aI}{br cS len:Nat}
  (hR:R E.ntmps F s.get (ρ0++e) a w G) (hn:ρ0.length=s0.nv) (oY:xs.length=len) (kq:wX E s0 br len τ)
  (eR:lI E s0.nv xs s0.nr br cS len τ s=true) (hle:s0.nr<=cS):∃ G',R E.ntmps F τ.get (ρ0++xs.map (·.val (ρ0++e))) a w G':=by
 simp only[lI,Obz]at eR;obtain⟨hf1,hf2⟩:=eR
 have ke:∀ t,t<τ.nt->bR s0.nv xs br cS (τ.get (kT t)) (s.get (kT t))=true:=fun t ht =>
  qN hf1 _ (Ob1 _ (Pb5.2 ⟨t,mem_range.2 ⟨by omega,by have:=kq.nt2;omega⟩,rfl⟩))
 have pa:∀ b,b<τ.nb->bR s0.nv xs br cS (τ.get (kB b)) (s.get (kB b))=true:=fun b hb =>
  qN hf1 _ (Ob4 _ (Pb5.2 ⟨b,mem_range.2 ⟨by omega,by omega⟩,rfl⟩))
 have e9:∀ r,r<s0.nr\/(br<=r/\r<br+len)->bR s0.nv xs br cS (τ.get (kR r)) (s.get (kR (Pak br cS r)))=true:=fun r hr =>
  zZ hf2 r (by
   rcases hr with hr|hr
   ·exact Ob1 _ (mem_range.2 ⟨by omega,by omega⟩)
   ·exact Ob4 _ (mem_range.2 hr))
 have hrk:∀ r c,τ.get (kR r)=some c->r<s0.nr\/(br<=r/\r<br+len):=by
  intro r c hk
  rcases xM hk with ⟨t,e,_⟩|⟨t,e,_⟩|⟨r',e,hr⟩
  ·exact absurd e.symm iA
  ·exact absurd e.symm eD
  ·obtain rfl:=dY e
   rw[kq.nr]at hr
   rcases Pbo r s0.nr with h1|h1
   ·exact .inl h1
   ·rcases Pbo r br with h2|h2
    ·rw[kq.none r h1 h2]at hk;cases hk
    ·exact .inr ⟨h2,hr⟩
 have mN:∀ r x m v st,τ.get (kR r)=some (.root x m v st)->st=.live\/st=.frozen->∃ x',s.get (kR (Pak br cS r))=some (.root x' m v st)/\Kao s0.nv xs x=x':=by
  intro r x m v st hk ba;have h1:=e9 r (hrk r _ hk);rw[hk]at h1
  rcases Jas h1 with h2|h2
  ·rw[h2]at ba
   rcases ba with h|h<;>cases h
  ·exact h2
 let ρs:=ρ0++e
 let G':Gh:={ own:=fun b=>rZ s0.nr cS br (G.own b),hdr:=fun r=>G.hdr (Pak br cS r),bx:=G.bx }
 have kb:∀ x,aX τ.nv x=true->x.val (ρ0++xs.map (·.val ρs))=(Kao s0.nv xs x).val ρs:=by
  intro x hx
  cases x with
  |c d=>rfl
  | v i =>
   simp only[aX,Pb2]at hx;rw[kq.nv]at hx;simp only[Kao]
   cases hb:Qbg i s0.nv with
   | true =>
    simp only[Pb2]at hb;simp only[cond_true,aI.val,Pba,ρs];rw[Pbi (by omega),Pbi (by omega)]
   | false =>
    have mf:s0.nv<=i:=by
     rcases Pbo i s0.nv with h|h
     ·rw[<- Pb2,hb]at h;cases h
     ·exact h
    simp only[cond_false];have aq:i-s0.nv<xs.length:=by omega
    rw[Pba,Ob5 aq,Qbt];simp only[aI.val,Pba];rw[List.getElem?_append_right (by omega),List.getElem?_map,hn,Ob5 aq];rfl
 have H:Wao τ s.get (ρ0++xs.map (·.val ρs)) ρs G' G τ.nv s0.nv xs br cS s0.nr:=by
  refine⟨kb,kq.le,hle,fun _=>rfl,fun _=>rfl,rfl,fun r k hr hv=>?_,fun r k m hr hv=>?_⟩
  ·obtain⟨x,m,st,hk,ba⟩:=hv
   obtain⟨x',h1,-⟩:=mN r x m k st hk ba;rw[pV (by have:=kq.le;omega)]at h1;exact⟨x',m,st,h1,ba⟩
  ·obtain⟨x,hk⟩:=hv
   obtain⟨x',h1,-⟩:=mN r x m k .live hk (.inl rfl);rw[pV (by have:=kq.le;omega)]at h1;exact⟨x',h1⟩
 refine⟨G',hR.tmps,hR.defers,fun k c hk=>?_,?_,fun b ls hk hb ho=>?_⟩
 ·have ku:=kq.wf k c hk
  have jw:=qX ku
  cases c with
  | slot g v =>
   cases g with
   |some g=>simp[pG]at ku
   | none =>
    cases v with
    | dead =>
     simp only[pG,Obz]at ku;obtain⟨t,rfl,ht⟩:=Jac hk ku.2;exact⟨t,rfl,fun _=>trivial⟩
    | one l =>
     simp only[pG,Obz]at ku;obtain⟨t,rfl,ht⟩:=Jac hk ku.2.1;refine⟨t,rfl,fun _=>?_⟩;have h1:=ke t ht;rw[hk]at h1;obtain⟨b,h2,h3⟩:=Mav h1;have h4:aB s.get ρs G w b _:=hR.slot h2 rfl;simp only[bQ,vF,Obz]at jw;exact aB.fit H l _ jw.2 ku.2.2 (tZ h3 h4)
    | agg ls =>
     simp only[pG,Obz]at ku;obtain⟨t,rfl,ht⟩:=Jac hk ku.2.1;refine⟨t,rfl,fun _=>?_⟩;have h1:=ke t ht;rw[hk]at h1;obtain⟨b,h2,h3⟩:=Maw h1;obtain⟨vs,h4,h5⟩:bS s.get ρs G w (.agg b) _:=hR.slot h2 rfl;simp only[bQ,vF,Obz]at jw;exact⟨vs,h4,aG.fit H ls _ jw.2 ku.2.2 (zM h3 h5)⟩
    |tup ts=>simp[pG]at ku
  | box ro ls =>
   simp only[pG,Obz]at ku;obtain⟨b,rfl,hb⟩:=Bbp hk ku.2.1;have h1:=pa b hb;rw[hk]at h1;obtain⟨bs,h2,h3⟩:=Caq h1;obtain⟨h4,h5,h6⟩:=hR.box h2;refine⟨b,rfl,h4,?_,fun j l hj=>?_⟩
   ·show rZ _ _ _ _=_
    rw[h5];cases ro<;>rfl
   ·obtain⟨m,h7,h8⟩:=zO h3 (zL hj)
    obtain⟨v,h9,cd,db⟩:=h6 j m h7;simp only[bQ]at jw;exact⟨v,h9,cd,aB.fit H l v (lG jw hj) (Caa ku.2.2 hj) (tZ h8 db)⟩
  | root x m aE st =>
   have hm:Nat.beq (k % 3) 2=true:=by
    cases st<;>simp only[pG,Obz]at ku<;>first|exact ku.2|(exact absurd ku.2 (by decide))
   obtain⟨r,rfl,hr⟩:=Yat hk hm;have sX:=hrk r _ hk;refine⟨r,rfl,by rw[hk];rfl,?_⟩;simp only[bQ]at jw;have a4h:r<s0.nr\/br<=r:=sX.imp id (·.1)
   cases st with
   | live =>
    obtain⟨x',h1,h2⟩:=mN r x m aE .live hk (.inl rfl);have h3:=hR.root h1;simp only[bK]at h3 ⊢;rw[kb x jw,h2]
    have:=h3.mono (own':=G'.own) (w':=w) (q:=[]) (q':=[]) (r':=r) (fun b hb=>⟨H.frz hb,rfl⟩) [] rfl (fun b t hb=>⟨by
     show rZ _ _ _ _=_
     rw[hb];exact Fad kq.le hle a4h,rfl⟩)
    simpa using this
   | frozen =>
    obtain⟨x',h1,h2⟩:=mN r x m aE .frozen hk (.inr rfl);obtain⟨h3,h4⟩:=hR.root h1;simp only[bK];rw[kb x jw,h2];refine⟨h3.mono fun b hb=>⟨H.frz hb,rfl⟩,fun b p hb=>?_⟩;exact h4 b p (Sae kq.le hb)
   |gone=>trivial
   |fwd r'=>simp[pG]at ku
 ·refine⟨hR.frame.os,hR.frame.tape,hR.frame.output,hR.frame.size,fun b hb ho=>?_,fun b j hb ho=>?_,fun b hb=>?_⟩
  ·obtain⟨h1,h2⟩:=hR.frame.keep b hb ho
   refine⟨h1,?_⟩;show rZ _ _ _ _=_
   rw[h2]
   rcases ho with ho|ho<;>rw[ho]<;>rfl
  ·obtain⟨h1,h2⟩:=hR.frame.boxes b j hb ho
   refine⟨?_,h2⟩;show rZ _ _ _ _=_
   rw[h1];rfl
  ·show rZ _ _ _ _=_
   rw[hR.frame.fresh b hb];rfl
 ·have h1:=pa b (by
   rcases xM hk with ⟨t,e,_⟩|⟨t,e,ht⟩|⟨r',e,hr⟩
   ·exact absurd e.symm kF
   ·obtain rfl:=zT e;exact ht
   ·exact absurd e eD)
  rw[hk]at h1;obtain⟨bs,h2,h3⟩:=Caq h1;have h4:=hR.rng b bs h2 hb ho;rw[h4,<- zN h3,zK]
def Uae (draw:Bool)(s:St)(r:bI):St:={ (s.puts r.upd) with nv:=s.nv+bD r.lets,nb:=s.nb+1,nr:=Oa1 draw s.nr r.upd }
inductive Ja6 (E:Env) (draw:Bool) (jv:Nat) (ops:List Oper):Nat->List Oper->St->List OpI->St->Prop
 |nil (i:Nat) (s:St):Ja6 E draw jv ops i [] s [] s
 | cons {i : Nat} {o : Oper} {os : List Oper} {s : St} {g : Option (aI × Bool)} {r : bI} {log : List Nat} {is : List OpI} {s' : St} (mv cN : Bool)
   (h1:(jX E ops mv cN s.nv s.nb s.nr o).run s.get=some ((g,r),log)) (h2:Yam s g r=true)
   (h3:Ja6 E draw jv ops (i+1) os (Uae draw s r) is s'):Ja6 E draw jv ops i (o::os) s (⟨g,r,log,s.nb,s.nr⟩::is) s'
theorem Da4 {E:Env}{draw:Bool}{jv:Nat}{ops:List Oper}:∀ {os:List Oper} {i:Nat} {s:St} {acc is:List OpI} {s':St},Taj E draw jv ops i os s acc=.inl (is,s') ->
  ∃ js,is=acc.reverse++js/\Ja6 E draw jv ops i os s js s'
 | [], i, s, acc, is, s', h => by
  simp only[Taj,Sum.inl.injEq,Pbl]at h;obtain⟨rfl,rfl⟩:=h;exact⟨[],by simp,.nil i s⟩
 | o :: os, i, s, acc, is, s', h => by
  simp only[Taj]at h;split at h
  ·rename_i g r log bd
   cases qx:Yam s g r with
   |false=>rw[qx]at h;simp at h
   | true =>
    rw[qx]at h;simp only[Qbz,cond_false]at h;obtain⟨js,h1,h2⟩:=Da4 h;exact⟨⟨g,r,log,s.nb,s.nr⟩::js,by rw[h1];simp,.cons _ _ bd qx h2⟩
  ·cases h
structure Aar (E:Env) (s:St):Prop where
 nt:E.ntmps<=s.nt
 sc:wY s.get s.nv
def Ja5 (cf:Nat->List D->Option (List D))(ρ:List D):Nat->List OpI->Prop
 |_,[]=>True
 |nv,a::r=>aJ cf ρ a.g nv a.res.lets/\Ja5 cf ρ (nv+bD a.res.lets) r
def xZ (P:Program)(E:Env)(F:bC)(cf:Nat->List D->Option (List D)):Prop :=
 ∀ (σ:Nat->Option aN) (ρ:List D) (a:Act) (w:World) (G:Gh) (g:Option (aI×Bool)) (o:Oper) (Q:Exit->Act->World->Prop) (mv cN:Bool) (nv nb nr:Nat) (res:bI) (f:Operand) (args:Array Operand) (argTypes:Array TypeId),
  R E.ntmps F σ ρ a w G->eO E.ntmps o->Aas σ nb nr->o.op=.call { callee:=.value f,args,argTypes } ->
  (nL E mv cN nv nb nr g o).eval σ=some res->res.upd.all (fun x=>wE E.ntmps nb nr x.1)=true->aJ cf ρ g nv res.lets->gD P E F σ ρ a w g o Q res.upd
section
variable {P:Program} {E:Env} {F:bC} {cf:Nat->List D->Option (List D)} {draw:Bool}
theorem Haj {s:St}{g:Option (aI×Bool)}{r:bI}(h:Yam s g r=true) :
  mX s.nv g=true/\dR s.nv r.lets=true/\r.upd.all (fun x=>bQ (s.nv+bD r.lets) x.2)=true:=by
 simp only[Yam,Obz]at h;exact⟨h.1.1.2,h.1.2,h.2⟩
theorem Ia2 {ops:List Oper}{mv cN:Bool}{s:St}{o:Oper}{g:Option (aI×Bool)}{r:bI}{log:List Nat}(hi:E.ntmps<=s.nt)
  (h1:(jX E ops mv cN s.nv s.nb s.nr o).run s.get=some ((g,r),log)) (h2:Yam s g r=true):(Uae draw s r).get=upds s.get r.upd:=by
 funext k;exact Yal h2 hi (iX (RdM.run_eval h1)).2.2.2 draw _ k
theorem Aar.next {ops:List Oper}{mv cN:Bool}{s:St}{o:Oper}{g:Option (aI×Bool)}{r:bI}{log:List Nat}(hi:Aar E s)
  (h1:(jX E ops mv cN s.nv s.nb s.nr o).run s.get=some ((g,r),log)) (h2:Yam s g r=true):Aar E (Uae draw s r):=by
 refine⟨?_,?_⟩
 ·show E.ntmps<=(s.puts r.upd).nt
  rw[(iE r.upd s).2.2.2];exact hi.nt
 ·rw[Ia2 hi.nt h1 h2]
  exact hi.sc.upds (Rb2 ..) (Haj h2).2.2
theorem Rad {jv:Nat}{ops:List Oper}{i:Nat}{os:List Oper}{s s':St}{is:List OpI}(hc:Ja6 E draw jv ops i os s is s') :
  ∀ {s'':St} {ρ:List D} {o:Out St},s''.nv=s'.nv->ρ.length=s.nv->Ec cf (Da6 (.leaf .fall [] s'') is) ρ=some o ->
  o.kind=.fall/\o.ext=s''/\o.env.length=s'.nv/\(∃ ds,o.env=ρ++ds)/\∀ ext,Ja5 cf (o.env++ext) s.nv is:=by
 induction hc with
 | nil i s =>
  intro s'' ρ o hv hl h;simp only[Da6,fD,Ob0]at h;subst h;exact⟨rfl,rfl,hl,⟨[],by simp⟩,fun _=>trivial⟩
 | cons mv cN h1 h2 h3 ih =>
  rename_i i o' os s g r log is s';intro s'' ρ o hv hl h;simp only[Da6]at h;obtain⟨hg,hs,-⟩:=Haj h2;obtain⟨ds,h4,h5,h6⟩:=sQ (by rw[hl];exact hg) (by rw[hl];exact hs) h;obtain⟨h7,h8,h9,⟨es,cd⟩,db⟩:=ih hv (by rw[Pbg,h4,hl];rfl) h5;refine⟨h7,h8,h9,⟨ds++es,by rw[cd,Pbd]⟩,fun ext=>⟨?_,db ext⟩⟩;have:=h6 (es++ext);rw[hl]at this;rw[cd];simpa[Pbd] using this
theorem Waa {jv:Nat}{ops:List Oper}{i:Nat}{os:List Oper}{s s':St}{is:List OpI}(hc:Ja6 E draw jv ops i os s is s')(hi:Aar E s):Aar E s':=by
 induction hc with
 |nil i s=>exact hi
 |cons mv cN h1 h2 h3 ih=>exact ih (hi.next h1 h2)
theorem Aar.trim {lo:Nat}{d:Bool}{s:St}(h:Aar E s):Aar E (trimS d lo s) :=
 ⟨by rw[vD.2.2];exact h.nt,by rw[Kab,vD.1];exact h.sc⟩
theorem Wab {jv:Nat}{ops:List Oper}{i:Nat}{os:List Oper}{s s':St}{is:List OpI}(hc:Ja6 E draw jv ops i os s is s'):∀ o∈os,eO E.ntmps o:=by
 induction hc with
 |nil i s=>simp
 | cons mv cN h1 h2 h3 ih =>
  intro o ho
  rcases Ob8.1 ho with rfl|ho
  ·exact (iX (RdM.run_eval h1)).2.1
  ·exact ih o ho
theorem Jbb (hti:sM P E.ti)(b7:xZ P E F cf){ops:Array Oper}(ni:∀ o∈ops.toList,eO E.ntmps o){mv cN:Bool}{s:St}{o:Oper}{g:Option (aI×Bool)}{r:bI}{ρ:List D}{a:Act}{w:World}{G:Gh}{Q:Exit->Act->World->Prop}
  {σ:Nat->Option aN} (hf:Aas σ s.nb s.nr)
  (hR:R E.ntmps F σ ρ a w G) (h1:(jX E ops.toList mv cN s.nv s.nb s.nr o).eval σ=some (g,r)) (ba:aJ cf ρ g s.nv r.lets):Cb9 P E F σ ρ ops o Q r.upd a w:=by
 refine yJ hR hti ni hf h1 ba fun f args argTypes ho=>?_
 obtain⟨h2,h3,h4,h5⟩:=iX h1;rw[Gaz ho]at h4;exact b7 σ ρ a w G g o Q mv cN s.nv s.nb s.nr r f args argTypes hR h3 hf ho h4 h5 ba
theorem Va9 (hti:sM P E.ti)(b7:xZ P E F cf){jv:Nat}{ops:Array Oper}(ni:∀ o∈ops.toList,eO E.ntmps o){Q:Exit->Act->World->Prop}{i:Nat}{os:List Oper}{s s':St}{is:List OpI}(hc:Ja6 E draw jv ops.toList i os s is s') :
  ∀ {ρ:List D} {a:Act} {w:World} {G:Gh},ops.toList.drop i=os->R E.ntmps F s.get ρ a w G->Aar E s->Ja5 cf ρ s.nv is ->
  (∀ a' w' G',R E.ntmps F s'.get ρ a' w' G'->Q .normal a' w')->wpOps P ops Q (List.range' i os.length) a w:=by
 induction hc with
 | nil i s =>
  intro ρ a w G hdr hR hi ba hQ;exact hQ a w G hR
 | cons mv cN h1 h2 h3 ih =>
  rename_i i o os s g r log is s';intro ρ a w G hdr hR hi ba hQ
  have ma:ops[i]?=some o:=by
   rw[<- Qbj];have:(ops.toList.drop i)[0]?=some o:=by rw[hdr];rfl
   rwa[List.getElem?_drop,Pby]at this
  rw[Pb9,List.range'_succ,wpOps_cons];unfold wpOp;rw[ma];have eI:=Jbb (Q:=Q) hti b7 ni Maa hR (RdM.run_eval h1) ba.1
  have u5:∀ a w,Nx E.ntmps F s.get ρ r.upd a w->wpOps P ops Q (List.range' (i+1) os.length) a w:=by
   intro a' w' ⟨G',gw⟩;rw[<- Ia2 hi.nt h1 h2]at gw;exact ih (by rw[<- List.drop_drop,hdr];rfl) gw (hi.next h1 h2) ba.2 hQ
  unfold Cb9 at eI;dsimp only;split
  ·rename_i hw
   rw[if_pos hw]at eI;exact .inl (Oper.wp_mono u5 eI)
  ·rename_i hw
   rw[if_neg hw]at eI;exact u5 _ _ eI
end
theorem mQ {a b:List Nat}(h:meets a b=false){k:Nat}(ha:k∈a):k∉b:=by
 intro hb
 have:meets a b=true:=by
  unfold meets;rw[List.any_eq_true];exact⟨k,ha,kV.2 hb⟩
 rw[h]at this;cases this
theorem Daw {acc:List Nat}:∀ {es:List Edge} {m b:Nat},Rbb (xA acc es m) b=true->Rbb m b=true\/∃ e∈es,Region.binds .any e=true/\(b=e.on\/Rbb (acc.getD e.on 0) b=true)
 |[],m,b,h=>.inl h
 | e :: es, m, b, h => by
  have h':Rbb (xA acc es (bif Region.binds .any e then (m ||| 2 ^ e.on) ||| acc.getD e.on 0 else m)) b=true:=h
  rcases Daw (es:=es) h' with h1|⟨e',zf,h1⟩
  ·cases hb:Region.binds .any e with
   |false=>rw[hb,cond_false]at h1;exact .inl h1
   | true =>
    rw[hb,cond_true]at h1;simp only[Nat.testBit_or,Qbb,Nat.testBit_two_pow,decide_eq_true_eq]at h1
    rcases h1 with (h1|h1)|h1
    ·exact .inl h1
    ·exact .inr ⟨e,Pbf,hb,.inl h1.symm⟩
    ·exact .inr ⟨e,Pbf,hb,.inr h1⟩
  ·exact .inr ⟨e',Pbb _ zf,h1⟩
theorem Dav:∀ {os:List Oper} {acc:List Nat} {i w:Nat},acc[i]?=some w->(waits os acc)[i]?=some w
 |[],_,_,_,h=>h
 | o :: os, acc, i, w, h => by
  refine Dav (os:=os) ?_;rw[Pbi (Ob2.1 h).1];exact h
theorem Kaa:∀ {os:List Oper} {acc:List Nat} {p w:Nat} {o:Oper},os[p]?=some o->(waits os acc)[acc.length+p]?=some w->∀ b,Rbb w b=true ->
  ∃ e∈o.after.toList,Region.binds .any e=true/\(b=e.on\/∃ w',(waits os acc)[e.on]?=some w'/\Rbb w' b=true)
 |[],acc,p,w,o,ho,_,_,_=>by simp at ho
 | o' :: os, acc, 0, w, o, ho, hw, b, hb => by
  simp only[Ob7,Ob0]at ho;subst ho;have h1:(acc++[xA acc o'.after.toList 0])[acc.length]?=some (xA acc o'.after.toList 0):=by simp
  have h2:=Dav (os:=os) h1;simp only[waits,Pby]at hw;rw[h2]at hw;obtain rfl:=Pbu hw
  rcases Daw hb with h3|⟨e,he,h4,h5⟩
  ·simp at h3
  ·refine⟨e,he,h4,h5.imp id fun h6=>?_⟩
   rw[Pba]at h6
   cases ha:acc[e.on]? with
   |none=>rw[ha]at h6;simp at h6
   | some w' =>
    rw[ha,Qbt]at h6;have aq:=(Ob2.1 ha).1;exact⟨w',Dav (os:=os) (by rw[Pbi aq];exact ha),h6⟩
 | o' :: os, acc, p + 1, w, o, ho, hw, b, hb => by
  have:=Kaa (os:=os) (acc:=acc++[xA acc o'.after.toList 0]) (p:=p) (w:=w) (o:=o) (by simpa using ho) (by
   simp only[Pbg,List.length_singleton];simp only[waits]at hw;rw[<- hw];congr 1
   omega) b hb
  exact this
theorem Cae {a:OpI}{i:Nat}:∀ {bs:List OpI} {ws:List Nat},zV a i bs ws=true->∀ {q:Nat} {b:OpI},bs[q]?=some b->∃ w,ws[q]?=some w/\(Rbb w i=true\/nW a b=true)
 |[],_,_,q,b,h=>by simp at h
 |_::_,[],h,_,_,_=>by simp[zV]at h
 | b :: bs, w :: ws, h, q, b', hq => by
  simp only[zV,Obz,Qbb]at h
  cases q with
  | zero =>
   simp only[Ob7,Ob0]at hq;subst hq;exact⟨w,rfl,h.1⟩
  |succ q=>exact Cae h.2 (by simpa using hq)
theorem zC:∀ {is:List OpI} {ws:List Nat} {i:Nat},tL is ws i=true->∀ {p q:Nat} {a b:OpI},p<q->is[p]?=some a->is[q]?=some b ->
  ∃ w,ws[q]?=some w/\(Rbb w (i+p)=true\/nW a b=true)
 |[],_,_,_,p,q,a,b,_,hp,_=>by simp at hp
 | x :: is, ws, i, h, p, q, a, b, hpq, hp, hq => by
  simp only[tL,Obz]at h
  cases q with
  |zero=>omega
  | succ q =>
   cases p with
   | zero =>
    simp only[Ob7,Ob0]at hp;subst hp;obtain⟨w,h1,h2⟩:=Cae h.1 (q:=q) (by simpa using hq);exact⟨w,by rw[List.getElem?_tail]at h1;exact h1,h2⟩
   | succ p =>
    obtain⟨w,h1,h2⟩:=zC h.2 (p:=p) (q:=q) (by omega) (by simpa using hp) (by simpa using hq);exact⟨w,by rw[List.getElem?_tail]at h1;exact h1,by rw[show i+(p+1)=i+1+p by omega];exact h2⟩
theorem Cal:∀ {os:List Oper} {i:Nat},Aah os i=true->∀ {p:Nat} {o:Oper},os[p]?=some o->∀ e∈o.after.toList,Region.binds .any e=true->e.on<i+p
 |[],_,_,p,o,h,_,_,_=>by simp at h
 | x :: os, i, h, p, o, hp, e, he, hb => by
  simp only[Aah,Obz,Pbv,Qbb,Pbs,Pb2]at h
  cases p with
  | zero =>
   simp only[Ob7,Ob0]at hp;subst hp
   rcases h.1 e he with h1|h1
   ·rw[hb]at h1;cases h1
   ·omega
  | succ p =>
   have:=Cal h.2 (p:=p) (by simpa using hp) e he hb;omega
def sig (D:Nat->Bool):Nat->List OpI->(Nat->Option aN)->Nat->Option aN
 |_,[],σ=>σ
 |i,a::r,σ=>sig D (i+1) r (bif D i then upds σ a.res.upd else σ)
def Wr (a:OpI)(k:Nat):Prop:=∃ c,(k,c)∈a.res.upd
theorem Iad {a:OpI}{σ:Nat->Option aN}{k:Nat}(h:¬ Wr a k):upds σ a.res.upd k=σ k:=dW _ _ _ fun c hc=>h ⟨c,hc⟩
theorem yM {D D':Nat->Bool}{k:Nat}:∀ {is:List OpI} {i:Nat} {σ dc:Nat->Option aN},(∀ p a,is[p]?=some a->Wr a k->D (i+p)=D' (i+p))->σ k=dc k->sig D i is σ k=sig D' i is dc k
 |[],i,σ,dc,_,h=>h
 | a :: r, i, σ, dc, hd, h => by
  simp only[sig];refine yM (fun p b hb hw=>?_) ?_
  ·have:=hd (p+1) b (by simpa using hb) hw
   rw[show i+(p+1)=i+1+p by omega]at this;exact this
  ·by_cases hw:Wr a k
   ·have:=hd 0 a rfl hw
    rw[Pby]at this;rw[this]
    cases D' i with
    |false=>exact h
    |true=>exact oJ _ _ _ _ h
   ·have e:∀ (x:Bool) (τ:Nat->Option aN),(bif x then upds τ a.res.upd else τ) k=τ k:=by
     intro x τ
     cases x with
     |false=>rfl
     |true=>exact Iad hw
    rw[e,e];exact h
theorem sV {D:Nat->Bool}{k:Nat}:∀ {is:List OpI} {i:Nat} {σ:Nat->Option aN},(∀ p a,is[p]?=some a->Wr a k->D (i+p)=false)->sig D i is σ k=σ k
 |[],i,σ,_=>rfl
 | a :: r, i, σ, hd => by
  simp only[sig]
  rw[sV fun p b hb hw=>by
   have:=hd (p+1) b (by simpa using hb) hw;rw[show i+(p+1)=i+1+p by omega]at this;exact this]
  by_cases hw:Wr a k
  ·have:=hd 0 a rfl hw
   rw[Pby]at this;rw[this];rfl
  ·cases D i with
   |false=>rfl
   |true=>exact Iad hw
theorem Pap {D:Nat->Bool}{k:Nat}:∀ {is:List OpI} {i p:Nat} {a:OpI} {σ τ:Nat->Option aN},is[p]?=some a->D (i+p)=true->Wr a k->(∀ q b,p<q->is[q]?=some b->Wr b k->D (i+q)=false) ->
  sig D i is σ k=upds τ a.res.upd k
 |[],i,p,a,σ,τ,hp,_,_,_=>by simp at hp
 | x :: r, i, 0, a, σ, τ, hp, hD, hw, hq => by
  simp only[Ob7,Ob0]at hp;subst hp;rw[Pby]at hD;simp only[sig]
  rw[sV fun q b hb wt=>by
   have:=hq (q+1) b (by omega) (by simpa using hb) wt;rw[show i+(q+1)=i+1+q by omega]at this;exact this,hD,cond_true]
  exact Ca6 _ _ _ _ hw
 | x :: r, i, p + 1, a, σ, τ, hp, hD, hw, hq => by
  simp only[sig];refine Pap (p:=p) (by simpa using hp) (by rw[show i+1+p=i+(p+1) by omega];exact hD) hw fun q b hpq hb wt=>?_
  have:=hq (q+1) b (by omega) (by simpa using hb) wt;rw[show i+(q+1)=i+1+q by omega]at this;exact this
section
variable {P:Program} {E:Env} {F:bC} {cf:Nat->List D->Option (List D)}
theorem Pao {D:Nat->Bool}{is:List OpI}{i:Nat}{σ:Nat->Option aN}(h:∀ q,i<=q->D q=false):sig D i is σ=σ :=
 funext fun k=>sV fun p a _ _=>h _ (Rb2 ..)
structure At (E:Env) (ops:List Oper) (cf:Nat->List D->Option (List D)) (ρ:List D) (σ0:Nat->Option aN) (i0:Nat) (is:List OpI) (p:Nat) (o:Oper) (a:OpI) (s0:St):Prop where
 run:∃ mv cN nv,(jX E ops mv cN nv a.nb a.nr o).run (sig (fun q=>decide (q<i0+p)) i0 is σ0)=some ((a.g,a.res),a.log)/\aJ cf ρ a.g nv a.res.lets
 nb:a.nb=s0.nb+p
 nr:a.nr=s0.nr+bO*p
theorem Zao {jv:Nat}{ops:List Oper}{i:Nat}{os:List Oper}{s s':St}{is:List OpI}(hc:Ja6 E true jv ops i os s is s') :
  ∀ {ρ:List D},Aar E s->Ja5 cf ρ s.nv is->is.length=os.length/\s'.get=sig (fun _=>true) i is s.get/\∀ p o,os[p]?=some o->∃ a,is[p]?=some a/\At E ops cf ρ s.get i is p o a s:=by
 induction hc with
 |nil i s=>exact fun _ _=>⟨rfl,rfl,by simp⟩
 | cons mv cN h1 h2 h3 ih =>
  rename_i i o os s g r log is s';intro ρ hi ba;obtain⟨h4,h5,h6⟩:=ih (hi.next h1 h2) ba.2;have hg:=Ia2 (draw:=true) hi.nt h1 h2;refine⟨by simp[h4],?_,fun p o' hp=>?_⟩
  ·rw[h5,hg];rfl
  ·cases p with
   | zero =>
    simp only[Ob7,Ob0]at hp;subst hp;refine⟨_,rfl,⟨mv,cN,s.nv,?_,ba.1⟩,rfl,rfl⟩;rw[Pby,Pao fun q hq=>by simpa using hq];exact h1
   | succ p =>
    obtain⟨a,h7,h8⟩:=h6 p o' (by simpa using hp);refine⟨a,by simpa using h7,?_,?_,?_⟩
    ·obtain⟨mv',a01,nv',h9,cd⟩:=h8.run
     refine⟨mv',a01,nv',?_,cd⟩;simp only[sig];have:(decide (i<i+(p+1)):Bool)=true:=by simp
     rw[this,cond_true,<- hg,show i+(p+1)=i+1+p by omega];exact h9
    ·rw[h8.nb];show s.nb+1+p=_;omega
    ·rw[h8.nr]
     show s.nr+bO+bO*p=_
     rw[Nat.mul_succ];omega
theorem Qac {a:OpI}{n nb nr k:Nat}(h:a.res.upd.all (fun x=>wE n nb nr x.1)=true)(hw:Wr a k):wE n nb nr k=true:=by
 obtain⟨c,hc⟩:=hw;rw[Pbv]at h;exact h _ hc
theorem Uaw {n nb nr b:Nat}(h:wE n nb nr (kB b)=true):b<=nb:=by
 unfold wE at h;rw[Law]at h;have:kB b / 3=b:=by unfold kB;omega
 rw[this]at h;simpa using h
theorem Bae {n nb nr r:Nat}(h:wE n nb nr (kR r)=true):r<nr+bO:=by
 unfold wE at h;rw[Lav]at h;have:kR r / 3=r:=by unfold kR;omega
 rw[this]at h;simpa using h
structure Abq (E:Env) (ops:Array Oper) (cf:Nat->List D->Option (List D)) (ρ:List D) (s:St) (is:List OpI):Prop where
 len:is.length=ops.size
 at_:∀ p o,ops.toList[p]?=some o->∃ a,is[p]?=some a/\At E ops.toList cf ρ s.get 0 is p o a s
 free:∀ p q a b,p<q->is[p]?=some a->is[q]?=some b->(∃ w,(waits ops.toList [])[q]?=some w/\Rbb w p=true)\/nW a b=true
 low:∀ p o,ops.toList[p]?=some o->∀ e∈o.after.toList,Region.binds .any e=true->e.on<p
 dst:∀ o∈ops.toList,eO E.ntmps o
def dn (l:Array Bool)(q:Nat):Bool:=l.getD q false
def Closed (ops:Array Oper)(l:Array Bool):Prop:=∀ q w p,dn l q=true->(waits ops.toList [])[q]?=some w->Rbb w p=true->dn l p=true
theorem apart_spec {a b:OpI}(h:nW a b=true):(∀ k,Wr a k->k∉b.log)/\(∀ k,Wr a k->¬ Wr b k)/\(∀ k,k∈a.log->¬ Wr b k)/\∀ k,Wr b k->Jak a k=false:=by
 simp only[nW,Obz,Pbs]at h;obtain⟨⟨⟨h1,h2⟩,h3⟩,h4⟩:=h
 have key:∀ {x:OpI} {k:Nat},Wr x k↔k∈x.res.upd.map (·.1):=by
  intro x k;simp only[Pb5];constructor
  ·rintro⟨c,hc⟩;exact⟨_,hc,rfl⟩
  ·rintro⟨⟨k',c⟩,hc,rfl⟩;exact⟨c,hc⟩
 refine⟨fun k hk=>mQ h1 (key.1 hk),fun k hk hb=>mQ h2 (key.1 hk) (key.1 hb),fun k hk hb=>mQ h3 hk (key.1 hb),fun k hk=>?_⟩;rw[List.any_eq_false]at h4;simpa using h4 k (key.1 hk)
theorem Oax:∀ {l:List Bool} {i:Nat},l[i]?=some false->(l.set i true).count false+1=l.count false
 |[],i,h=>by simp at h
 | b :: l, 0, h => by
  simp only[Ob7,Ob0]at h;subst h;simp
 | b :: l, i + 1, h => by
  have:=Oax (l:=l) (i:=i) (by simpa using h);simp only[List.set_cons_succ,List.count_cons];omega
theorem Ga9 {ops:Array Oper}{l:Array Bool}{i:Nat}(hl:l.size=ops.size)(h:i∈Region.ready .any ops l) :
  ∃ o,ops[i]?=some o/\l[i]?=some false/\∀ e∈o.after.toList,Region.binds .any e=true->dn l e.on=true:=by
 unfold Region.ready at h;rw[Qbu,Rbr]at h;obtain⟨h1,h2⟩:=h;simp only[Obz,Pbs]at h2;have ho:ops[i]?=some ops[i]:=Pb0 h1;rw[ho,Pb6,Qbt]at h2;refine⟨_,ho,?_,fun e he hb=>?_⟩
 ·have h3:=h2.1
  rw[Pb3]at h3;have aq:i<l.size:=by omega
  rw[Pb0 aq,Qbt]at h3;rw[Pb0 aq,h3]
 ·have h3:=h2.2
  rw[<- Array.all_toList,Pbv]at h3;have:=h3 e he;rw[hb]at this;simpa[dn] using this
theorem ready_nil {ops:Array Oper}{l:Array Bool}(hl:l.size=ops.size)(a3g:∀ p o,ops.toList[p]?=some o->∀ e∈o.after.toList,Region.binds .any e=true->e.on<p)
  (h:Region.ready .any ops l=[]):∀ q,q<ops.size->dn l q=true:=by
 intro q
 induction q using Nat.strongRecOn with
 | _ q ih =>
  intro hq
  cases hd:dn l q with
  |true=>rfl
  | false =>
   exfalso;have ho:ops[q]?=some ops[q]:=Pb0 hq
   have:q∈Region.ready .any ops l:=by
    unfold Region.ready;rw[Qbu,Rbr];refine⟨hq,?_⟩;simp only[Obz,Pbs];refine⟨?_,?_⟩
    ·have aq:q<l.size:=by omega
     unfold dn at hd;rw[Pb3,Pb0 aq,Qbt]at hd ⊢;exact hd
    ·rw[ho,Pb6,Qbt,<- Array.all_toList,Pbv]
     intro e he
     cases hb:Region.binds .any e with
     |false=>rfl
     | true =>
      have aq:=a3g q _ (by rw[Qbj];exact ho) e he hb;have:=ih e.on aq (by omega);simpa[dn] using this
   rw[h]at this;simp at this
theorem Qap {l:Array Bool}{i:Nat}(hi:i<l.size)(q:Nat):dn (l.setIfInBounds i true) q=(decide (q=i)||dn l q):=by
 unfold dn;rw[Pb3,Pb3,Array.getElem?_setIfInBounds];by_cases h:i=q
 ·subst h
  simp[hi]
 ·rw[if_neg h]
  have:(decide (q=i):Bool)=false:=by simp;exact fun e=>h e.symm
  rw[this,Qb6]
theorem Zaa (hti:sM P E.ti)(b7:xZ P E F cf){ops:Array Oper}{s:St}{is:List OpI}{ρ:List D}(hd:Abq E ops cf ρ s is){Q:Exit->Act->World->Prop}
  (hQ:∀ a' w' G',R E.ntmps F (sig (fun _=>true) 0 is s.get) ρ a' w' G'->Q .normal a' w') :
  ∀ (fuel:Nat) (l:Array Bool) (a:Act) (w:World) (G:Gh),l.size=ops.size->l.toList.count false<=fuel->Closed ops l->R E.ntmps F (sig (dn l) 0 is s.get) ρ a w G ->
  wpAny P .any ops Q fuel l a w:=by
 have vi:∀ (l:Array Bool) (a:Act) (w:World) (G:Gh),l.size=ops.size->R E.ntmps F (sig (dn l) 0 is s.get) ρ a w G->Region.ready .any ops l=[]->Q .normal a w:=by
  intro l a w G hl hR hr;have cE:=ready_nil hl hd.low hr;refine hQ a w G ?_
  have:sig (fun _=>true) 0 is s.get=sig (dn l) 0 is s.get:=by
   funext k;refine yM (fun p a hp _=>?_) rfl;have aq:=(Ob2.1 hp).1;rw[hd.len]at aq;rw[cE _ (by omega)]
  rw[this];exact hR
 intro fuel
 induction fuel with
 | zero =>
  intro l a w G hl ua jx hR
  have fL:Region.ready .any ops l=[]:=by
   cases hr:Region.ready .any ops l with
   |nil=>rfl
   | cons i r =>
    exfalso;obtain⟨o,h1,h2,h3⟩:=Ga9 hl (by rw[hr];exact Pbf:i∈Region.ready .any ops l);rw[<- Qbj]at h2;have:=Oax h2;omega
  exact⟨fL,vi l a w G hl hR fL⟩
 | succ fuel ih =>
  intro l a w G hl ua jx hR;refine⟨vi l a w G hl hR,fun i hi=>?_⟩;obtain⟨o,ho,wk,rK⟩:=Ga9 hl hi;have hoL:ops.toList[i]?=some o:=by rw[Qbj];exact ho
  have nF:i<l.size:=by
   rw[<- Qbj]at wk;have:=(Ob2.1 wk).1;simpa using this
  obtain⟨ai,hai,kb⟩:=hd.at_ i o hoL;obtain⟨mv,cN,nv,bd,ba⟩:=kb.run
  have sA:dn l i=false:=by
   unfold dn;rw[Pb3,wk];rfl
  have vd:∀ w p,(waits ops.toList [])[i]?=some w->Rbb w p=true->dn l p=true:=by
   intro w' p hw hb;obtain⟨e,he,za,h1⟩:=Kaa (acc:=[]) (p:=i) hoL (by simpa using hw) p hb
   rcases h1 with h1|⟨w'',h1,h2⟩
   ·rw[h1];exact rK e he za
   ·exact jx e.on w'' p (rK e he za) h1 h2
  have tE:∀ p b,p<i->is[p]?=some b->dn l p=false->nW b ai=true:=by
   intro p b hpi hb y9
   rcases hd.free p i b ai hpi hb hai with ⟨w',h1,h2⟩|h
   ·rw[vd w' p h1 h2]at y9;cases y9
   ·exact h
  have kr:∀ q b,i<q->is[q]?=some b->dn l q=true->nW ai b=true:=by
   intro q b hiq hb wu
   rcases hd.free i q ai b hiq hai hb with ⟨w',h1,h2⟩|h
   ·rw[jx q w' i wu h1 h2]at sA;cases sA
   ·exact h
  have a0v:∀ k∈ai.log,sig (dn l) 0 is s.get k=sig (fun q=>decide (q<0+i)) 0 is s.get k:=by
   intro k hk;refine yM (fun p b hb hw=>?_) rfl;rw[Pbw,Pbw]
   rcases Nat.lt_trichotomy p i with h|h|h
   ·have e:(decide (p<i):Bool)=true:=by simpa using h
    rw[e]
    cases hdp:dn l p with
    |true=>rfl
    |false=>exact absurd hk ((apart_spec (tE p b h hb hdp)).1 k hw)
   ·subst h
    rw[sA];simp
   ·have e:(decide (p<i):Bool)=false:=by simp;omega
    rw[e]
    cases hdp:dn l p with
    |false=>rfl
    |true=>exact absurd hw ((apart_spec (kr p b h hb hdp)).2.2.1 k hk)
  have vp:=RdM.run_eval (RdM.run_same bd a0v)
  have kc:∀ (p:Nat) (b:OpI),is[p]?=some b->∃ nv' ,b.res.upd.all (fun x=>wE E.ntmps (s.nb+p) (s.nr+bO*p) x.1)=true/\nv'=nv:=by
   intro p b hb;have aq:=(Ob2.1 hb).1
   have ju:ops.toList[p]?=some ops.toList[p]!:=by
    rw[List.getElem!_eq_getElem?_getD,Ob5 (by simpa[<- hd.len] using aq)];rfl
   obtain⟨b',cI,yf⟩:=hd.at_ p _ ju;rw[hb]at cI;obtain rfl:=Pbu cI;obtain⟨mv',a01,nv',hr',-⟩:=yf.run;have:=(iX (RdM.run_eval hr')).2.2.2;rw[yf.nb,yf.nr]at this;exact⟨nv,this,rfl⟩
  have py:Aas (sig (dn l) 0 is s.get) ai.nb ai.nr:=by
   have hf:=Maa (s:=s);refine⟨?_,fun j hj1 jg=>?_⟩
   ·rw[sV fun p b hb hw=>?_]
    ·rw[kb.nb]
     unfold St.get sJ kB;have e:(3*(s.nb+i)+1) % 3=1:=by omega
     have e2:(3*(s.nb+i)+1) / 3=s.nb+i:=by omega
     rw[e,e2]
     have:Qbg (s.nb+i) s.nb=false:=by
      cases hb:Qbg (s.nb+i) s.nb with
      |false=>rfl
      |true=>simp only[Pb2]at hb;omega
     rw[this];rfl
    ·rw[Pbw]
     obtain⟨_,hk,-⟩:=kc p b hb;have h1:=Uaw (Qac hk hw);rw[kb.nb]at h1
     rcases Nat.lt_trichotomy p i with h|h|h
     ·omega
     ·rw[h];exact sA
     ·cases hdp:dn l p with
      |false=>rfl
      | true =>
       have:=(apart_spec (kr p b h hb hdp)).2.2.2 _ hw;unfold Jak at this;rw[Law]at this;have e2:kB ai.nb / 3=ai.nb:=by unfold kB;omega
       rw[e2]at this;simp at this
   ·rw[sV fun p b hb hw=>?_]
    ·unfold St.get sJ kR
     have e:(3*j+2) % 3=2:=by omega
     have e2:(3*j+2) / 3=j:=by omega
     rw[e,e2]
     have:Qbg j s.nr=false:=by
      cases hb:Qbg j s.nr with
      |false=>rfl
      |true=>simp only[Pb2]at hb;rw[kb.nr]at hj1;omega
     rw[this];rfl
    ·rw[Pbw]
     obtain⟨_,hk,-⟩:=kc p b hb;have h1:=Bae (Qac hk hw)
     rcases Nat.lt_trichotomy p i with h|h|h
     ·rw[kb.nr]at hj1
      have:bO*(p+1)<=bO*i:=Nat.mul_le_mul_left _ h;rw[Nat.mul_succ]at this;omega
     ·rw[h];exact sA
     ·cases hdp:dn l p with
      |false=>rfl
      | true =>
       have:=(apart_spec (kr p b h hb hdp)).2.2.2 _ hw;unfold Jak at this;rw[Lav]at this;have e2:kR j / 3=j:=by unfold kR;omega
       rw[e2]at this;have e3:Nat.ble ai.nr j=true:=by simpa using hj1
       have e4:Qbg j (ai.nr+bO)=true:=by simpa using jg
       rw[e3,e4]at this;simp at this
  have eI:Cb9 P E F (sig (dn l) 0 is s.get) ρ ops o Q ai.res.upd a w:=by
   refine yJ hR hti hd.dst py vp ba fun f args argTypes tq=>?_
   obtain⟨h2,h3,h4,h5⟩:=iX vp;rw[Gaz tq]at h4;exact b7 _ ρ a w G ai.g o Q mv cN nv _ _ ai.res f args argTypes hR h3 py tq h4 h5 ba
  have zm:sig (dn (l.setIfInBounds i true)) 0 is s.get=upds (sig (dn l) 0 is s.get) ai.res.upd:=by
   funext k;by_cases hw:Wr ai k
   ·refine Pap hai (by rw[Pbw,Qap nF];simp) hw fun q b hiq hb wt=>?_
    rw[Pbw,Qap nF];have e:(decide (q=i):Bool)=false:=by simp;omega
    rw[e,Qb6]
    cases wu:dn l q with
    |false=>rfl
    |true=>exact absurd wt ((apart_spec (kr q b hiq hb wu)).2.1 k hw)
   ·rw[Iad hw]
    refine yM (fun p b hb wt=>?_) rfl;rw[Pbw,Qap nF]
    have e:(decide (p=i):Bool)=false:=by
     simp;intro e;subst e;rw[hai]at hb;obtain rfl:=Pbu hb;exact hw wt
    rw[e,Qb6]
  have a5n:Closed ops (l.setIfInBounds i true):=by
   intro q w' p wu hw hb;rw[Qap nF]at wu ⊢;by_cases e:q=i
   ·subst e
    rw[vd w' p hw hb,Bool.or_true]
   ·have e':(decide (q=i):Bool)=false:=by simp[e]
    rw[e',Qb6]at wu;rw[jx q w' p wu hw hb,Bool.or_true]
  have u5:∀ a w,Nx E.ntmps F (sig (dn l) 0 is s.get) ρ ai.res.upd a w->wpAny P .any ops Q fuel (l.setIfInBounds i true) a w:=by
   intro a' w' ⟨G',gw⟩;rw[<- zm]at gw;refine ih _ a' w' G' (by simp[hl]) ?_ a5n gw;rw[Array.toList_setIfInBounds];rw[<- Qbj]at wk;have:=Oax wk;omega
  unfold wpOp;rw[ho];unfold Cb9 at eI;dsimp only;split
  ·rename_i hw
   rw[if_pos hw]at eI;exact .inl (Oper.wp_mono u5 eI)
  ·rename_i hw
   rw[if_neg hw]at eI;exact u5 _ _ eI
end
section
variable {P:Program} {E:Env} {F:bC} {cf:Nat->List D->Option (List D)} {n:Nat} {σ:Nat->Option aN} {ρ:List D} {a:Act} {w:World} {G:Gh}
theorem R.world {w':World}(h:R n F σ ρ a w G)(hh:w'.heap=w.heap)(ho:w'.os=w.os)(ht:w'.tape=w.tape)(hp:w'.output=w.output):R n F σ ρ a w' G:=by
 have dq:Fr σ G w (upds σ []) G w':=by
  refine⟨fun b hb _=>⟨hb,by rw[hh]⟩,fun r k _ h=>h,fun r k h=>h,fun r k b p _ _ h=>⟨.inl h,by rw[hh]⟩,fun r k m _ h=>⟨h,fun b p h=>h⟩,fun _ _=>rfl,fun _ _=>rfl,fun k h=>h,fun _ _ _ _ _ _ _ h=>h⟩
 exact h.upd [] dq h.tmps h.defers ⟨ho.trans h.frame.os,ht.trans h.frame.tape,hp.trans h.frame.output,by rw[hh];exact h.frame.size,
  fun b hb hf=>by rw[hh];exact h.frame.keep b hb hf,fun b j hb hj=>by rw[hh];exact h.frame.boxes b j hb hj,fun b hb=>h.frame.fresh b (by rw[<- hh];exact hb)⟩
  (fun t _=>rfl) (fun b ro ls _ _=>⟨rfl,by rw[hh]⟩) (fun b ls hb=>by simp at hb) (fun k c hk=>by simp at hk)
theorem Kav (hti:sM P E.ti)(b7:xZ P E F cf)(hm:P.follows .mixedOrders=true){jv:Nat}{ops:Array Oper}{draw:Bool}{s:St}{o:Out St}
  (h:Ec cf (Iae E false jv ops.toList draw s) ρ=some o) (hl:ρ.length=s.nv) (hi:Aar E s) :
  (o.kind=.fall/\o.env.length=o.ext.nv/\Aar E o.ext/\∃ ds,o.env=ρ++ds) /\
  ∀ a w G Q,R E.ntmps F s.get ρ a w G->(∀ a' w' G',R E.ntmps F o.ext.get o.env a' w' G'->Q .normal a' w')->(Code.region jv ops draw).wp P Q a w:=by
 unfold Iae at h;split at h
 case h_2=>simp only[cond_false,iM]at h;cases h
 rename_i is s' a3l;obtain⟨js,hjs,hc⟩:=Da4 a3l;simp only[List.reverse_nil,Qbc]at hjs;subst hjs;have ni:=Wab hc
 cases hb:(!draw||(Aah ops.toList 0&&tL is (waits ops.toList []) 0)) with
 |false=>rw[hb]at h;simp only[cond_false,iM]at h;cases h
 | true =>
  rw[hb,cond_true]at h;obtain⟨h1,h2,h3,⟨ds,h4⟩,h5⟩:=Rad hc vD.1 hl h;have sR:=h5 [];rw[Pbz]at sR;refine⟨⟨h1,by rw[h2,vD.1];exact h3,by rw[h2];exact (Waa hc hi).trim,ds,h4⟩,fun a w G Q hR hQ=>?_⟩;rw[h2,Kab]at hQ;have gw:R E.ntmps F s.get o.env a w G:=by rw[h4];exact hR.ext hi.sc (by omega) ds
  cases draw with
  | false =>
   refine wp_region ?_;rw[List.range_eq_range'];have:=Va9 hti b7 (ops:=ops) ni hc (by simp) gw hi sR hQ;simpa using this
  | true =>
   simp only[Qbz,Qb6,Obz]at hb;obtain⟨hlen,ue,kb⟩:=Zao (ρ:=o.env) (cf:=cf) hc hi sR;have z8:is.length=ops.size:=by rw[hlen];simp
   have hd:Abq E ops cf o.env s is:=by
    refine⟨z8,kb,fun p q x y hpq hp hq=>?_,fun p o' hp e he za=>?_,ni⟩
    ·obtain⟨w',h6,h7⟩:=zC hb.2 hpq hp hq
     rw[Pbw]at h7;exact h7.imp (fun h7=>⟨w',h6,h7⟩) id
    ·have:=Cal hb.1 hp e he za
     omega
   refine wp_region_any hm ?_;refine Zaa hti b7 hd (fun a' w' G' rj=>hQ a' w' G' (by rw[ue];exact rj)) ops.size _ a _ G (by simp) ?_ ?_ ?_
   ·simp only[Array.toList_replicate,List.count_replicate_self,Pbj]
   ·intro q w' p hq
    unfold dn at hq;rw[Pb3,Array.getElem?_replicate]at hq;split at hq<;>simp at hq
   ·rw[Pao fun q _=>by
     unfold dn;rw[Pb3,Array.getElem?_replicate];split<;>rfl]
    exact gw.world rfl rfl rfl rfl
end
theorem zS {s:St}{k:Nat}{c:aN}(h:s.get k=some c):sJ s.nt s.nb s.nr k=true:=by
 unfold St.get at h
 cases e:sJ s.nt s.nb s.nr k with
 |true=>rfl
 |false=>rw[e]at h;cases h
theorem Lau {nt nb nr r:Nat}(h:r<nr):sJ nt nb nr (kR r)=true:=by
 unfold sJ;rw[Lav];have:kR r / 3=r:=by unfold kR;omega
 rw[this];simpa using h
theorem vL {s:St}{u:List (Nat×aN)}(h:∀ k c,(k,c)∈u->sJ s.nt s.nb s.nr k=true):(s.puts u).get=upds s.get u:=by
 funext k;obtain⟨e1,e2,e3,e4⟩:=iE u s;unfold St.get;rw[e2,e3,e4,Iax];by_cases hm:∃ c,(k,c)∈u
 ·obtain⟨c,hc⟩:=hm
  rw[h k c hc,cond_true];exact Ca6 _ _ _ _ ⟨c,hc⟩
 ·have hn:∀ c,(k,c)∉u:=fun c hc=>hm ⟨c,hc⟩
  rw[dW _ _ _ hn,dW _ _ _ hn]
def Hap (σ:Nat->Option aN)(k j:Nat):Option aM :=
 match σ k with
 |some (.slot none (.one a))=>if j=0 then some a else none
 |some (.slot none (.agg ls))=>ls[j]?
 |some (.box _ ls)=>ls[j]?
 |_=>none
theorem Uas {k j:Nat}{s:St}:uA k j s=(Hap s.get k j).getD .dead:=by
 unfold uA Hap;split
 ·rename_i v hk
  rw[hk]
  cases v with
  |dead=>simp[pU]
  | one a =>
   simp only[pU]
   cases j with
   |zero=>rfl
   |succ j=>simp
  |agg ls=>simp[pU,Pba]
  |tup ts=>simp[pU]
 ·rename_i ro ls hk
  rw[hk];simp[Pba]
 ·rename_i h1 h2
  cases hs:s.get k with
  |none=>rfl
  | some c =>
   cases c with
   | slot g v =>
    cases g with
    |none=>exact absurd hs (h1 v)
    |some g=>rfl
   |box ro ls=>exact absurd hs (h2 ro ls)
   |root=>rfl
theorem iP {k j:Nat}{s:St}{l:aM}(h:uA k j s=l)(hl:l≠.dead):Hap s.get k j=some l:=by
 rw[Uas]at h
 cases e:Hap s.get k j with
 |none=>rw[e]at h;exact absurd h.symm hl
 |some l'=>rw[e,Qbt]at h;rw[h]
section
variable {E:Env} {F:bC} {n:Nat} {σ:Nat->Option aN} {ρ:List D} {a:Act} {w:World} {G G':Gh}
inductive ValAt (n:Nat) (gh:Nat->Value) (a:Act) (w:World) (bx:Nat->Addr):aN->Nat->Nat->Value->Prop
 |one (t:Nat) (l:aM):ValAt n gh a w bx (.slot none (.one l)) (kT t) 0 (yA n a gh t)
 |agg (t:Nat) (ls:List aM) (vs:List Value) (j:Nat) (v:Value) (h:yA n a gh t=.agg vs.toArray) (hv:vs[j]?=some v):ValAt n gh a w bx (.slot none (.agg ls)) (kT t) j v
 |box (b j:Nat) (ro:Bool) (ls:List aM) (v:Value) (h:w.cell? ((bx b).add j)=some v):ValAt n gh a w bx (.box ro ls) (kB b) j v
theorem R.valAt (h:R n F σ ρ a w G){k j:Nat}{l:aM}(hl:Hap σ k j=some l):∃ v c,σ k=some c/\ValAt n F.gh a w G.bx c k j v/\aB σ ρ G w l v:=by
 unfold Hap at hl;split at hl
 ·rename_i l' hk
  obtain⟨t,rfl,h1⟩:=h.cont _ _ hk;split at hl
  ·rename_i hj
   subst hj;obtain rfl:=Pbu hl;exact⟨_,_,hk,.one t l',h1 rfl⟩
  ·cases hl
 ·rename_i ls hk
  obtain⟨t,rfl,h1⟩:=h.cont _ _ hk;obtain⟨vs,h2,h3⟩:bS σ ρ G w (.agg ls) _:=h1 rfl;obtain⟨v,h4,h5⟩:=h3.get hl;exact⟨v,_,hk,.agg t ls vs j v h2 h4,h5⟩
 ·rename_i ro ls hk
  obtain⟨b,rfl,h1,h2,h3⟩:=h.cont _ _ hk;obtain⟨v,h4,h5,h6⟩:=h3 j l hl;exact⟨v,_,hk,.box b j ro ls v h4,h6⟩
 ·cases hl
theorem Fr.nonroot (σ:Nat->Option aN)(G:Gh)(w:World)(u:List (Nat×aN))(hu:∀ k c,(k,c)∈u->∀ r,k≠kR r):Fr σ G w (upds σ u) G w:=by
 have hr:∀ r,upds σ u (kR r)=σ (kR r):=fun r=>dW _ _ _ fun c hc=>hu _ _ hc r rfl
 refine⟨fun b h _=>⟨h,rfl⟩,fun r k _ h=>?_,fun r k h=>?_,fun r k b p _ _ h=>⟨.inl h,rfl⟩,fun r k m _ h=>⟨?_,fun b p h=>h⟩,fun _ _=>rfl,fun _ _=>rfl,fun k h=>dL _ _ _ (.inl h),fun _ _ _ _ _ _ _ h=>h⟩
 ·obtain⟨x,m,st,e,h⟩:=h
  exact⟨x,m,st,by rw[<- hr];exact e,h⟩
 ·obtain⟨x,m,aE,st,e,h⟩:=h
  exact⟨x,m,aE,st,by rw[hr];exact e,h⟩
 ·obtain⟨x,e⟩:=h
  exact⟨x,by rw[<- hr];exact e⟩
theorem Caw {α:Type}{x y:List α}(h:x.toArray=y.toArray):x=y:=by
 have:=congrArg Array.toList h;simpa using this
structure Zaz (s s':St):Prop where
 nr:s'.nr=s.nr
 nt:s'.nt=s.nt
 root:∀ r,s'.get (kR r)=s.get (kR r)
theorem R.putAt {s:St}(h:R n F s.get ρ a w G){k j:Nat}{l:aM}{c0:aN}(hk:s.get k=some c0){v:Value}(hv:ValAt n F.gh a w G.bx c0 k j v)(hl:aB s.get ρ G w l v) :
  R n F (Go.Proofs.YtcbkmmhkccnamaaGreat.Rf.putAt k j l s).get ρ a w G/\Zaz s (Go.Proofs.YtcbkmmhkccnamaaGreat.Rf.putAt k j l s)/\(Go.Proofs.YtcbkmmhkccnamaaGreat.Rf.putAt k j l s).nv=s.nv:=by
 have k8:∀ c,Mbn j l c0=some c->(∀ r,k≠kR r)->(∃ t,(k=kT t/\∃ sv,c=.slot none sv/\bS (upds s.get [(k,c)]) ρ G w sv (yA n a F.gh t))\/(k=kB t/\∃ ro ls,c=.box ro ls/\Ha9 (upds s.get [(k,c)]) ρ G w t ro ls))->(∀ b ls,k=kB b->c=.box false ls->∃ iy,c0=.box false iy/\ls.length=iy.length) ->
   R n F (Go.Proofs.YtcbkmmhkccnamaaGreat.Rf.putAt k j l s).get ρ a w G/\Zaz s (Go.Proofs.YtcbkmmhkccnamaaGreat.Rf.putAt k j l s)/\(Go.Proofs.YtcbkmmhkccnamaaGreat.Rf.putAt k j l s).nv=s.nv:=by
  intro c hc kx hcr np
  have e:Go.Proofs.YtcbkmmhkccnamaaGreat.Rf.putAt k j l s=s.puts [(k,c)]:=by
   unfold Go.Proofs.YtcbkmmhkccnamaaGreat.Rf.putAt;rw[hk,Ob6,hc];rfl
  have hg:(s.puts [(k,c)]).get=upds s.get [(k,c)]:=vL fun k' c' hm=>by
   simp only[Ob3,Pbl]at hm;rw[hm.1];exact zS hk
  obtain⟨e1,e2,e3,e4⟩:=iE [(k,c)] s
  have b9:∀ k' c',(k',c')∈[(k,c)]->k'=k/\c'=c:=by
   intro k' c' hm;simpa using hm
  rw[e];refine⟨?_,⟨e3,e4,fun r=>?_⟩,e1⟩
  ·rw[hg]
   have dq:=Fr.nonroot s.get G w [(k,c)] fun k' c' hm r=>by rw[(b9 _ _ hm).1];exact kx r
   refine h.upd _ dq h.tmps h.defers h.frame (fun _ _=>rfl) (fun _ _ _ _ _=>⟨rfl,rfl⟩) (fun b ls hm hb ho=>?_) (fun k' c' hm _=>?_)
   ·obtain⟨e5,e6⟩:=b9 _ _ hm
    obtain⟨iy,h1,h2⟩:=np b ls e5.symm e6.symm;rw[h1]at hk;rw[h2];exact h.rng b iy (by rw[e5];exact hk) hb ho
   ·obtain⟨rfl,rfl⟩:=b9 _ _ hm
    obtain⟨t,⟨e7,sv,e8,h8⟩|⟨e7,ro,ls,e8,h8⟩⟩:=hcr
    ·subst e8
     exact⟨t,e7,fun _=>h8⟩
    ·subst e8
     exact⟨t,e7,h8⟩
  ·rw[hg]
   exact dW _ _ _ fun c' hm=>kx r (b9 _ _ hm).1.symm
 have dq:∀ c,(∀ r,k≠kR r)->Fr s.get G w (upds s.get [(k,c)]) G w:=fun c kx=>Fr.nonroot s.get G w [(k,c)] fun k' c' hm r=>by
  simp only[Ob3,Pbl]at hm;rw[hm.1];exact kx r
 cases hv with
 | one t l0 =>
  exact k8 (.slot none (.one l)) rfl (fun r=>iA) ⟨t,.inl ⟨rfl,_,rfl,aB.mono (dq _ fun r=>iA) l _ hl⟩⟩ (fun b ls e=>absurd e kF)
 | agg t ls vs _ _ h2 hvj =>
  have h1:=h.slot hk rfl;obtain⟨ui,tS,h3⟩:bS s.get ρ G w (.agg ls) _:=h1;rw[h2]at tS
  injection tS with e
  have e:=Caw e;subst e;have hf:=dq (.slot none (.agg (ls.set j l))) fun r=>iA
  refine k8 (.slot none (.agg (ls.set j l))) rfl (fun r=>iA) ⟨t,.inl ⟨rfl,_,rfl,vs,h2,?_⟩⟩ (fun b ls e=>absurd e kF);refine aG.of_get (by simp[h3.len]) fun i l' v' hi wv=>?_
  rw[Qb0]at hi;split at hi
  ·rename_i tA
   subst tA;split at hi
   ·obtain rfl:=Pbu hi
    rw[wv]at hvj;obtain rfl:=Pbu hvj;exact aB.mono hf _ _ hl
   ·cases hi
  ·obtain⟨u,hu,hu2⟩:=h3.get hi
   rw[wv]at hu;obtain rfl:=Pbu hu;exact aB.mono hf _ _ hu2
 | box b _ ro ls _ hb =>
  obtain⟨h1,h2,h3⟩:=h.box hk;have hf:=dq (.box ro (ls.set j l)) fun r=>eD
  refine k8 (.box ro (ls.set j l)) rfl (fun r=>eD) ⟨b,.inr ⟨rfl,_,_,rfl,h1,h2,fun i l' hi=>?_⟩⟩ (fun b' jn e e'=>?_)
  ·rw[Qb0]at hi
   split at hi
   ·rename_i tA
    subst tA;split at hi
    ·rename_i aq
     obtain rfl:=Pbu hi;obtain⟨v0,h4,h5,h6⟩:=h3 _ _ (Ob5 aq);rw[h4]at hb;obtain rfl:=Pbu hb;exact⟨v0,h4,h5,aB.mono hf _ _ hl⟩
    ·cases hi
   ·obtain⟨u,h4,h5,h6⟩:=h3 i l' hi
    exact⟨u,h4,h5,aB.mono hf _ _ h6⟩
  ·injection e' with e1 e2
   subst e1 e2;exact⟨ls,rfl,by simp⟩
end
section
variable {E:Env} {F:bC} {σ:Nat->Option aN} {ρ:List D} {a:Act} {w:World} {G G':Gh}
def Mbp:Oper:={ (default:Oper) with dst:=none }
theorem R.roots (h:R E.ntmps F σ ρ a w G){ur:List (Nat×aN)}{f:Nat->List Nat->Ow}
  (hu:∀ k c,(k,c)∈ur->∃ r,k=kR r) (a7:∀ b,G'.own b=kZ f (G.own b))
  (yc:∀ b r p,G.own b=.slc r p->(∀ c,(kR r,c)∉ur)->f r p=.slc r p)
  (yk:∀ r c,(kR r,c)∈ur->upds σ ur (kR r)=some c->Chg σ G w G' w r c)
  (oe:∀ r x m k,σ (kR r)=some (.root x m k .frozen)->∀ s p q,f s p=.slc r q->s=r/\p=q)
  (q7:∀ r,(σ (kR r)).isSome->G'.hdr r=G.hdr r) (fv:G'.bx=G.bx)
  (e9:∀ r c,(kR r,c)∈ur->upds σ ur (kR r)=some c->∃ x m aE st,c=.root x m aE st/\bK (upds σ ur) ρ G' w r x m st):R E.ntmps F (upds σ ur) ρ a w G':=by
 have h0:dF Mbp none .dead=[]:=rfl
 have:=h.own (o:=Mbp) (g:=none) (sv:=.dead) (v:=undef) (ur:=ur) (f:=f) (wr:=fun _=>False) (G':=G') (w':=w) (fun d hd=>by cases hd) hu (fun b _=>a7 b)
  (fun b hb=>by rw[a7,h.frame.fresh b hb];rfl) ⟨rfl,rfl,rfl,Pbj _⟩ (fun b hb=>.inl (by rw[a7,h.frame.fresh b hb];rfl)) (fun _ _ _=>rfl) (fun b hb=>hb.elim) yc
  (by rw[h0,Qbc];exact yk) oe q7 fv (fun _ _=>trivial) (by rw[h0,Qbc];exact fun _=>e9)
 rw[h0,Qbc]at this;exact this
def mvF (r rN m:Nat)(s:Nat)(p:List Nat):Ow:=if s=r then (if p.length<m then .slc rN p else .frz) else .slc s p
theorem R.moveRoot (h:R E.ntmps F σ ρ a w G){r rN m m' v:Nat}{x x0:aI}(hr:σ (kR r)=some (.root x0 m' v .live))(hN:σ (kR rN)=none)(hm:m<=m'){u:Value}
  (fa:Rp G.own w r [] m' u (x.val ρ)) {st:RSt} (ba:st=.gone\/(st=.fwd rN/\u=G.hdr r)) :
  ∃ G',R E.ntmps F (upds σ [(kR r,.root (.c .hole) 0 0 st),(kR rN,.root x m 0 .live)]) ρ a w G'/\G'.hdr rN=u/\G'.bx=G.bx:=by
 have ct:r≠rN:=fun e=>by rw[e,hN]at hr;cases hr
 let G':Gh:={ own:=fun b=>kZ (mvF r rN m) (G.own b),hdr:=fun s=>if s=rN then u else G.hdr s,bx:=G.bx }
 have e1:upds σ [(kR r,aN.root (.c .hole) 0 0 st),(kR rN,.root x m 0 .live)] (kR r)=some (.root (.c .hole) 0 0 st):=by
  simp only[upds,Paq];rw[if_neg fun e=>ct (dY e)];simp
 have e2:upds σ [(kR r,aN.root (.c .hole) 0 0 st),(kR rN,.root x m 0 .live)] (kR rN)=some (.root x m 0 .live):=by
  simp[upds,Paq]
 have b9:∀ s c,(kR s,c)∈[(kR r,aN.root (.c .hole) 0 0 st),(kR rN,.root x m 0 .live)]->s=r\/s=rN:=by
  intro s c hc;simp only[Ob8,Pbl,Qbo,or_false]at hc;exact hc.imp (fun e=>dY e.1) (fun e=>dY e.1)
 refine⟨G',h.roots (f:=mvF r rN m) ?_ (fun b=>rfl) ?_ ?_ ?_ ?_ rfl ?_,by simp[G'],rfl⟩
 ·intro k c hc
  simp only[Ob8,Pbl,Qbo,or_false]at hc
  rcases hc with ⟨e,-⟩|⟨e,-⟩<;>exact⟨_,e⟩
 ·intro b s p hb hn
  unfold mvF;rw[if_neg fun e=>hn _ (by rw[e];exact Pbf)]
 ·intro s c hc ic
  rcases b9 s c hc with rfl|rfl
  ·rw[e1]at ic
   obtain rfl:=Pbu ic;refine .inr (.inr (.inl ⟨_,_,_,_,rfl,?_,?_⟩))<;>rcases ba with e|⟨e,-⟩<;>rw[e]<;>simp
  ·rw[e2]at ic
   obtain rfl:=Pbu ic;exact .inl ⟨hN,_,_,_,_,rfl⟩
 ·intro r0 x1 m1 k1 hk s p q hf
  unfold mvF at hf;split at hf
  ·split at hf
   ·injection hf with f1 f2
    rw[<- f1,hN]at hk;cases hk
   ·cases hf
  ·injection hf with f1 f2
   exact⟨f1,f2⟩
 ·intro s hs
  show (if s=rN then u else G.hdr s)=_
  rw[if_neg];intro e;rw[e,hN]at hs;cases hs
 ·intro s c hc ic
  rcases b9 s c hc with rfl|rfl
  ·rw[e1]at ic
   obtain rfl:=Pbu ic;refine⟨_,_,_,_,rfl,?_⟩
   rcases ba with e|⟨e,hu⟩
   ·subst e;trivial
   ·subst e
    refine⟨?_,by rw[e2];rfl⟩;show (if s=rN then u else G.hdr s)=(if rN=rN then u else G.hdr rN)
    rw[if_neg ct,if_pos rfl,hu]
  ·rw[e2]at ic
   obtain rfl:=Pbu ic;refine⟨_,_,_,_,rfl,?_⟩;show Rp G'.own w s [] m (if s=s then u else G.hdr s) (x.val ρ)
   rw[if_pos rfl]
   have hw:=fa.weaken (own':=fun b=>kZ (fun s' p=>if s'=r then (if p.length<m then .slc r p else .frz) else .slc s' p) (G.own b)) (fun b hb=>by rw[hb];rfl) m hm (fun b t hb=>by
    rw[hb];simp only[kZ,if_pos rfl,Qbc]
    rfl)
   have:=hw.mono (own':=G'.own) (w':=w) (q:=[]) (q':=[]) (r':=s) (fun b hb=>⟨?_,rfl⟩) [] rfl (fun b t hb=>⟨?_,rfl⟩)
   ·simpa using this
   ·show kZ _ (G.own b)=_
    cases e:G.own b with
    | slc s' p =>
     rw[e]at hb;simp only[kZ]at hb ⊢;unfold mvF;split at hb
     ·rename_i jf
      rw[if_pos jf];split at hb
      ·cases hb
      ·rename_i hl;rw[if_neg hl]
     ·cases hb
    |_=>rw[e]at hb;simpa[kZ] using hb
   ·show kZ _ (G.own b)=_
    cases e:G.own b with
    | slc s' p =>
     rw[e]at hb;simp only[kZ]at hb ⊢;unfold mvF;split at hb
     ·rename_i jf
      rw[if_pos jf];split at hb
      ·rename_i hl
       rw[if_pos hl]
       injection hb with f1 f2
       rw[f2]
      ·cases hb
     ·rename_i jf
      injection hb with f1 f2
      exact absurd f1 jf
    |_=>rw[e]at hb;simp[kZ]at hb
theorem R.nilRoot (h:R E.ntmps F σ ρ a w G){rN m z:Nat}(hN:σ (kR rN)=none) :
  ∃ G',R E.ntmps F (upds σ [(kR rN,.root (.c (.rows z [])) m 0 .live)]) ρ a w G'/\G'.hdr rN=.slice none 0 0/\G'.bx=G.bx:=by
 let G':Gh:={ own:=G.own,hdr:=fun s=>if s=rN then .slice none 0 0 else G.hdr s,bx:=G.bx }
 have e2:upds σ [(kR rN,aN.root (.c (.rows z [])) m 0 .live)] (kR rN)=some (.root (.c (.rows z [])) m 0 .live):=by
  simp[upds,Paq]
 have b9:∀ s c,(kR s,c)∈[(kR rN,aN.root (.c (.rows z [])) m 0 .live)]->s=rN:=by
  intro s c hc;simp only[Ob8,Pbl,Qbo,or_false]at hc;exact dY hc.1
 refine⟨G',h.roots (f:=fun s p=>.slc s p) ?_ (fun b=>?_) (fun _ _ _ _ _=>rfl) ?_ (fun _ _ _ _ _ s p q hf=>?_) ?_ rfl ?_,by simp[G'],rfl⟩
 ·intro k c hc
  simp only[Ob8,Pbl,Qbo,or_false]at hc;exact⟨_,hc.1⟩
 ·show G.own b=_
  cases G.own b<;>rfl
 ·intro s c hc ic
  obtain rfl:=b9 s c hc;rw[e2]at ic;obtain rfl:=Pbu ic;exact .inl ⟨hN,_,_,_,_,rfl⟩
 ·injection hf with f1 f2
  exact⟨f1,f2⟩
 ·intro s hs
  show (if s=rN then _ else G.hdr s)=_
  rw[if_neg];intro e;rw[e,hN]at hs;cases hs
 ·intro s c hc ic
  obtain rfl:=b9 s c hc;rw[e2]at ic;obtain rfl:=Pbu ic;refine⟨_,_,_,_,rfl,?_⟩;show Rp G.own w s [] m (if s=s then _ else G.hdr s) (.rows z [])
  rw[if_pos rfl]
  cases m with
  |zero=>exact .fz (.rows none ⟨0,0,none⟩ 0 0 z [] (fun _ _=>undef) rfl (Pbj _) (.inl rfl) (by simp) (by simp) (by simp))
  |succ m=>exact .sl none ⟨0,0,none⟩ 0 0 z [] (fun _ _=>undef) rfl (Pbj _) (.inr ⟨rfl,rfl⟩) (by simp) (fun e=>by cases e) (by simp) (by simp)
def fzF (rs:List Nat)(s:Nat)(p:List Nat):Ow:=if s∈rs then .frz else .slc s p
theorem R.freeze (h:R E.ntmps F σ ρ a w G){rs:List Nat}{fr:List (Nat×aN)}(dq:(dD rs).eval σ=some fr) :
  ∃ G',R E.ntmps F (upds σ fr) ρ a w G'/\(∀ b,G'.own b=kZ (fzF rs) (G.own b))/\G'.hdr=G.hdr/\G'.bx=G.bx:=by
 obtain⟨h1,h2⟩:=fQ dq
 let G':Gh:={ own:=fun b=>kZ (fzF rs) (G.own b),hdr:=G.hdr,bx:=G.bx }
 have a4w:∀ b r p,G.own b=.slc r p->r∈rs->∃ c,(kR r,c)∈fr:=by
  intro b r p hb hr
  rcases h1 r hr with ⟨x,m,aE,-,h4⟩|⟨x,m,aE,h4⟩
  ·exact⟨_,h4⟩
  ·exact absurd hb ((h.root h4).2 b p)
 have dt:∀ r c,(kR r,c)∈fr->∃ x m aE,c=.root x m aE .frozen/\σ (kR r)=some (.root x m aE .live)/\r∈rs:=by
  intro r c hc;obtain⟨s,hs,x,m,aE,e,e',h3⟩:=h2 _ _ hc;obtain rfl:=dY e;exact⟨x,m,aE,e',h3,hs⟩
 have xe:∀ r x m aE,σ (kR r)=some (.root x m aE .live)->r∈rs->Rd (fun b=>G'.own b=.frz) w (G.hdr r) (x.val ρ):=by
  intro r x m aE hk hr;have h3:=h.root hk;simp only[bK]at h3;refine h3.rd.mono fun b hb=>⟨?_,rfl⟩
  show kZ _ _=_
  rcases hb with hb|⟨q,hb⟩
  ·rw[hb];rfl
  ·rw[hb];simp only[kZ,fzF];rw[if_pos hr]
 refine⟨G',h.roots (f:=fzF rs) ?_ (fun b=>rfl) ?_ ?_ ?_ (fun _ _=>rfl) rfl ?_,fun b=>rfl,rfl,rfl⟩
 ·intro k c hc
  obtain⟨s,-,x,m,aE,e,-⟩:=h2 _ _ hc;exact⟨s,e⟩
 ·intro b r p hb hn
  unfold fzF;rw[if_neg];intro hr;obtain⟨c,hc⟩:=a4w b r p hb hr;exact hn c hc
 ·intro r c hc _
  obtain⟨x,m,aE,rfl,h3,h4⟩:=dt r c hc;refine .inr (.inr (.inr ⟨x,m,aE,h3,rfl,fun b p hb=>⟨?_,rfl⟩⟩));show kZ _ _=_
  rw[hb];simp only[kZ,fzF];rw[if_pos h4]
 ·intro r x m k hk s p q hf
  unfold fzF at hf;split at hf
  ·cases hf
  ·injection hf with f1 f2
   exact⟨f1,f2⟩
 ·intro r c hc _
  obtain⟨x,m,aE,rfl,h3,h4⟩:=dt r c hc;refine⟨_,_,_,_,rfl,xe r x m aE h3 h4,fun b p hb=>?_⟩;have hb:kZ (fzF rs) (G.own b)=.slc r p:=hb
  cases e:G.own b with
  | slc s q =>
   rw[e]at hb;simp only[kZ,fzF]at hb;split at hb
   ·cases hb
   ·rename_i hs
    injection hb with f1 f2
    rw[f1]at hs;exact hs h4
  |_=>rw[e]at hb;simp[kZ]at hb
theorem uU {rs:List Nat}{deps:List (Nat×Nat)}(a7:∀ b,G'.own b=kZ (fzF rs) (G.own b))(hd:∀ z∈deps,z.1∈rs){b:Nat}(hb:allow G deps b):allow G' [] b:=by
 refine .inl ?_;rw[a7]
 rcases hb with hb|⟨r,k,p,hm,hb⟩
 ·rw[hb];rfl
 ·rw[hb]
  simp only[kZ,fzF];rw[if_pos (hd _ hm)]
theorem Fab {s:St}{rs:List Nat}{fr:List (Nat×aN)}(dq:(dD rs).eval s.get=some fr):∀ k c,(k,c)∈fr->sJ s.nt s.nb s.nr k=true:=by
 intro k c hc;obtain⟨r,-,x,m,aE,rfl,-,h3⟩:=(fQ dq).2 k c hc;exact zS h3
end
structure RI (nr len i:Nat) (s:St):Prop where
 nr_:s.nr=nr+len
 free:∀ j,i<=j->j<len->s.get (kR (nr+j))=none
section
variable {E:Env} {F:bC} {ρ:List D} {a:Act} {w:World} {G:Gh} {cf:Nat->List D->Option (List D)} {nr len i:Nat} {s s':St}
theorem RI.succ (h:RI nr len i s):RI nr len (i+1) s:=⟨h.nr_,fun j h1 h2=>h.free j (by omega) h2⟩
theorem RI.keeps (h:RI nr len i s)(hk:Zaz s s'):RI nr len i s':=⟨hk.nr.trans h.nr_,fun j h1 h2=>by rw[hk.root];exact h.free j h1 h2⟩
theorem RI.puts (h:RI nr len i s){u:List (Nat×aN)}{i':Nat}(hi:i<=i')(hg:(s.puts u).get=upds s.get u)(hu:∀ j,i'<=j->j<len->∀ c,(kR (nr+j),c)∉u):RI nr len i' (s.puts u) :=
 ⟨(iE u s).2.2.1.trans h.nr_,fun j h1 h2=>by rw[hg,dW _ _ _ (hu j h1 h2)];exact h.free j (by omega) h2⟩
theorem yY {u:List (Nat×aN)}{G':Gh}(hg:(s.puts u).get=upds s.get u)(gw:R E.ntmps F (upds s.get u) ρ a w G')(fv:G'.bx=G.bx){k j:Nat}{c0:aN}(hk:s.get k=some c0)
  {v:Value} (hv:ValAt E.ntmps F.gh a w G.bx c0 k j v) (hu:∀ c,(k,c)∉u) {l:aM} (hl:aB (upds s.get u) ρ G' w l v) :
  R E.ntmps F (putAt k j l (s.puts u)).get ρ a w G'/\Zaz (s.puts u) (putAt k j l (s.puts u))/\(putAt k j l (s.puts u)).nv=s.nv:=by
 rw[<- hg]at gw hl;have jh:(s.puts u).get k=some c0:=by rw[hg,dW _ _ _ hu];exact hk
 obtain⟨h1,h2,h3⟩:=gw.putAt jh (by rw[fv];exact hv) hl;exact⟨h1,h2,h3.trans (iE u s).1⟩
theorem vC {n:Nat}{gh:Nat->Value}{bx:Nat->Addr}{c0:aN}{k j:Nat}{v:Value}(h:ValAt n gh a w bx c0 k j v):∀ r,k≠kR r:=by
 intro r
 cases h with
 |one=>exact iA
 |agg=>exact iA
 |box=>exact eD
theorem sZ (hR:R E.ntmps F s.get ρ a w G)(hI:RI nr len i s){rs:List Nat}{fr:List (Nat×aN)}(dq:(dD rs).eval s.get=some fr){k j:Nat}{c0:aN}(hk:s.get k=some c0)
  {v:Value} (hv:ValAt E.ntmps F.gh a w G.bx c0 k j v) {l:aM} (hl:∀ G' dc,(∀ b,G'.own b=kZ (fzF rs) (G.own b))->aB dc ρ G' w l v) :
  (∃ G',R E.ntmps F (putAt k j l (s.puts fr)).get ρ a w G')/\RI nr len (i+1) (putAt k j l (s.puts fr))/\(putAt k j l (s.puts fr)).nt=s.nt/\(putAt k j l (s.puts fr)).nv=s.nv:=by
 obtain⟨G',gw,h1,h2,h3⟩:=hR.freeze dq;have hg:(s.puts fr).get=upds s.get fr:=vL (Fab dq);have hfk:=(fQ dq).2
 obtain⟨h4,h5,h6⟩:=yY hg gw h3 hk hv (fun c hc=>by
  obtain⟨r,-,x,m,aE,e,-⟩:=hfk _ _ hc;exact vC hv r e) (hl G' _ h1)
 refine⟨⟨G',h4⟩,RI.keeps (hI.succ.puts (Pbj _) hg fun q jd jl c hc=>?_) h5,h5.nt.trans (iE fr s).2.2.2,h6⟩;obtain⟨r,-,x,m,aE,e,-,h7⟩:=hfk _ _ hc;rw[<- e,hI.free q (by omega) jl]at h7;cases h7
theorem Ka9 {p:Pos}{ls:List Step}{x:aI}(h:Iat E p nr i s=some (ls,s',x))(hI:RI nr len i s)(hi:i<len)(hR:R E.ntmps F s.get ρ a w G)(ba:aJ cf ρ none s.nv ls) :
  (∃ G',R E.ntmps F s'.get ρ a w G')/\RI nr len (i+1) s'/\s'.nt=s.nt/\s'.nv=s.nv+bD ls:=by
 have sw:=hI.free i (Pbj _) hi;have hkN:sJ s.nt s.nb s.nr (kR (nr+i))=true:=Lau (by rw[hI.nr_];omega);unfold Iat at h;dsimp only at h;split at h
 ·
  simp only[Ob0,Pbl]at h;obtain⟨rfl,rfl,rfl⟩:=h;exact⟨⟨G,hR⟩,hI.succ,rfl,rfl⟩
 ·
  rename_i al r hf hl;split at h
  ·rename_i x0 m0 v0 r' hk
   cases hb:Nat.beq r' (nr+al) with
   |false=>rw[hb]at h;simp[jD]at h
   | true =>
    rw[hb,cond_true]at h;simp only[Ob0,Pbl]at h;obtain⟨rfl,rfl,rfl⟩:=h;simp only[Pbq]at hb;obtain⟨v,c,oE,nq,gu⟩:=hR.valAt (iP hl (by simp));simp only[aB]at gu;have sX:=hR.root hk;simp only[bK]at sX
    obtain⟨h1,h2,h3⟩:=hR.putAt oE nq (l:=.ex (nr+al)) (by
     simp only[aB];rw[<- hb];exact⟨gu.1.trans sX.1,sX.2,gu.2.2⟩)
    exact⟨⟨G,h1⟩,(hI.keeps h2).succ,h2.nt,h3⟩
  ·simp[jD]at h
 ·
  simp only[Ob0,Pbl]at h;obtain⟨rfl,rfl,rfl⟩:=h;exact⟨⟨G,hR⟩,hI.succ,rfl,rfl⟩
 ·
  rename_i m r hf hl;split at h
  ·rename_i x0 m' v0 hk
   cases hb:Nat.ble m m' with
   |false=>rw[hb]at h;simp[jD]at h
   | true =>
    rw[hb,cond_true]at h;simp only[Ob0,Pbl]at h;obtain⟨rfl,rfl,rfl⟩:=h;simp only[Qba]at hb;obtain⟨v,c,oE,nq,gu⟩:=hR.valAt (iP hl (by simp));simp only[aB]at gu;have sX:=hR.root hk;simp only[bK]at sX;obtain⟨G',gw,h1,h2⟩:=hR.moveRoot hk sw hb sX (.inr ⟨rfl,rfl⟩)
    have hg:=vL (s:=s) (u:=[(kR r,.root (.c .hole) 0 0 (.fwd (nr+i))),(kR (nr+i),.root x0 m 0 .live)]) (fun k c hc=>by
     simp only[Ob8,Pbl,Qbo,or_false]at hc
     rcases hc with ⟨e,-⟩|⟨e,-⟩<;>rw[e]
     ·exact zS hk
     ·exact hkN)
    obtain⟨h3,h4,h5⟩:=yY (j:=p.j) hg gw h2 oE nq (fun c hc=>by
     simp only[Ob8,Pbl,Qbo,or_false]at hc
     rcases hc with ⟨e,-⟩|⟨e,-⟩<;>exact vC nq _ e) (l:=.ex (nr+i)) (by
     simp only[aB];exact⟨by rw[h1];exact gu.1,dL _ _ _ (.inr ⟨.root x0 m 0 .live,by simp⟩),gu.2.2⟩)
    refine⟨⟨G',h3⟩,RI.keeps (hI.puts (Rbo i) hg fun q jd jl c hc=>?_) h4,h4.nt.trans (iE _ s).2.2.2,h5⟩;simp only[Ob8,Pbl,Qbo,or_false]at hc
    rcases hc with ⟨e,-⟩|⟨e,-⟩
    ·rw[<- e,hI.free q (by omega) jl]at hk;cases hk
    ·have:=dY e;omega
  ·simp[jD]at h
 ·
  rename_i m nie z hf hl;simp only[Ob0,Pbl]at h;obtain⟨rfl,rfl,rfl⟩:=h;obtain⟨v,c,oE,nq,gu⟩:=hR.valAt (iP hl (by simp));simp only[aB]at gu;have yp:v=.slice none 0 0:=(gu.2 (by simp)).2.1 trivial z rfl;obtain⟨G',gw,h1,h2⟩:=hR.nilRoot (m:=m) (z:=z) sw
  have hg:=vL (s:=s) (u:=[(kR (nr+i),.root (.c (.rows z [])) m 0 .live)]) (fun k c hc=>by
   simp only[Ob8,Pbl,Qbo,or_false]at hc;rw[hc.1];exact hkN)
  obtain⟨h3,h4,h5⟩:=yY (j:=p.j) hg gw h2 oE nq (fun c hc=>by
   simp only[Ob8,Pbl,Qbo,or_false]at hc
   exact vC nq _ hc.1) (l:=.ex (nr+i)) (by
   simp only[aB];exact⟨by rw[h1];exact yp,dL _ _ _ (.inr ⟨.root (.c (.rows z [])) m 0 .live,by simp⟩),gu.1.1⟩)
  refine⟨⟨G',h3⟩,RI.keeps (hI.puts (Rbo i) hg fun q jd jl c hc=>?_) h4,h4.nt.trans (iE _ s).2.2.2,h5⟩;simp only[Ob8,Pbl,Qbo,or_false]at hc;have:=dY hc.1;omega
 ·
  rename_i m r k nie x0 hf hl;split at h
  ·rename_i x1 m' v0 hk
   cases hb:(Nat.ble m m'&&Nat.beq v0 k) with
   |false=>rw[hb]at h;simp[jD]at h
   | true =>
    rw[hb,cond_true]at h;simp only[Ob0,Pbl]at h;obtain⟨rfl,rfl,rfl⟩:=h;simp only[Obz,Qba,Pbq]at hb;obtain⟨hb,rfl⟩:=hb;obtain⟨v,c,oE,nq,gu⟩:=hR.valAt (iP hl (by simp));simp only[aB]at gu
    obtain⟨-,-,h0⟩:=gu.2 fun z hz=>by
     simp only[Ob3]at hz;subst hz;exact⟨x1,m',.live,hk,.inl rfl⟩
    have fa:=h0 r v0 m' rfl ⟨x1,hk⟩;obtain⟨G',gw,h1,h2⟩:=hR.moveRoot hk sw hb fa (.inl rfl)
    have hg:=vL (s:=s) (u:=[(kR r,.root (.c .hole) 0 0 .gone),(kR (nr+i),.root x0 m 0 .live)]) (fun k c hc=>by
     simp only[Ob8,Pbl,Qbo,or_false]at hc
     rcases hc with ⟨e,-⟩|⟨e,-⟩<;>rw[e]
     ·exact zS hk
     ·exact hkN)
    obtain⟨h3,h4,h5⟩:=yY (j:=p.j) hg gw h2 oE nq (fun c hc=>by
     simp only[Ob8,Pbl,Qbo,or_false]at hc
     rcases hc with ⟨e,-⟩|⟨e,-⟩<;>exact vC nq _ e) (l:=.ex (nr+i)) (by
     simp only[aB];exact⟨h1.symm,dL _ _ _ (.inr ⟨.root x0 m 0 .live,by simp⟩),gu.1.1⟩)
    refine⟨⟨G',h3⟩,RI.keeps (hI.puts (Rbo i) hg fun q jd jl c hc=>?_) h4,h4.nt.trans (iE _ s).2.2.2,h5⟩;simp only[Ob8,Pbl,Qbo,or_false]at hc
    rcases hc with ⟨e,-⟩|⟨e,-⟩
    ·rw[<- e,hI.free q (by omega) jl]at hk;cases hk
    ·have:=dY e;omega
  ·simp[jD]at h
 ·
  rename_i hf;split at h
  ·rename_i x0 fr gA
   simp only[Ob0,Pbl]at h;obtain⟨rfl,rfl,rfl⟩:=h;simp only[aA,Oby,aF,Ob0,Pbl]at gA;obtain⟨sl,h1,fr',h2,rfl,rfl⟩:=gA;obtain⟨v,c,oE,nq,gu⟩:=hR.valAt (iP (k:=p.k) (j:=p.j) rfl (by intro e;rw[e]at h1;cases h1));have hs:=dI hR h1 gu;have mb:v.oneCell'=true:=gu.one (by cases eW:uA p.k p.j s<;>first|rfl|(rw[eW]at h1;cases h1));refine sZ hR hI h2 oE nq fun G' dc a7=>?_
   simp only[aB];exact⟨⟨mb,by simp⟩,fun _=>⟨hs.rd.mono fun b hb=>⟨uU a7 (fun z hz=>Qbi hz) hb,rfl⟩,fun e=>absurd e (by decide),trivial⟩⟩
  ·simp[jD]at h
 ·
  rename_i z hf hl;simp only[Ob0,Pbl]at h;obtain⟨rfl,rfl,rfl⟩:=h;obtain⟨v,c,oE,nq,gu⟩:=hR.valAt (iP hl (by simp));simp only[aB]at gu
  obtain⟨h1,h2,h3⟩:=hR.putAt oE nq (l:=.rp [] z (.c (.rows z []))) (by
   simp only[aB];exact⟨⟨by rw[gu];rfl,by simp⟩,fun _=>.inl ⟨gu,z,rfl⟩⟩)
  exact⟨⟨G,h1⟩,(hI.keeps h2).succ,h2.nt,h3⟩
 ·
  rename_i z deps z' x0 hf hl;split at h
  ·rename_i fr gA
   simp only[Ob0,Pbl]at h;obtain⟨rfl,rfl,rfl⟩:=h;simp only[aA,Oby]at gA;obtain⟨ds,h1,h2⟩:=gA;obtain⟨v,c,oE,nq,gu⟩:=hR.valAt (iP hl (by simp));simp only[aB]at gu;obtain⟨h3,h4,h5⟩:=iG h1;refine sZ hR hI h2 oE nq fun G' dc a7=>?_
   simp only[aB];refine⟨⟨gu.1.1,by simp⟩,fun _=>?_⟩
   rcases gu.2 h3 with h6|⟨ad,row,h6,h7,h8⟩
   ·exact .inl h6
   ·exact .inr ⟨ad,row,h6,h7,(h8.drop hR h5).mono fun b hb=>⟨uU a7 (fun z hz=>Qbi hz) hb,rfl⟩⟩
  ·simp[jD]at h
 ·
  rename_i z l z' ix hf hl;split at h
  ·rename_i x0 fr gA
   simp only[Ob0,Pbl]at h;obtain⟨rfl,rfl,rfl⟩:=h;simp only[aA,Oby,aF,Ob0,Pbl]at gA;obtain⟨sl,h1,fr',h2,rfl,rfl⟩:=gA;obtain⟨v,c,oE,nq,gu⟩:=hR.valAt (iP hl (by simp));simp only[aB]at gu;obtain⟨ad,n,cp,ik,iv,h3,h4,h5,h6,h7⟩:=gu;have hs:=dI hR h1 h3;obtain⟨d,bd,hd⟩:=fF ba rfl;simp only[List.map_cons,List.map_nil,h4]at bd
   have gR:∃ sz rs r,sl.x.val ρ=.rows sz rs/\sz=z'/\rs[iv.toNat]?=some r/\d=.rows z' [r]:=by
    cases hx:sl.x.val ρ with
    | rows sz rs =>
     rw[hx]at bd;simp only[aY.run]at bd;split at bd
     ·rename_i hc
      split at bd
      ·rename_i r hr
       simp only[Ob0,List.cons.injEq,and_true]at bd;exact⟨sz,rs,r,rfl,hc.1,hr,bd.symm⟩
      ·cases bd
     ·cases bd
    |_=>rw[hx]at bd;simp[aY.run]at bd
   obtain⟨sz,rs,r,hx,rfl,hr,rfl⟩:=gR;have gA:=hs.rd;rw[hx]at gA;obtain⟨A',b,n',c',vs,e1,e2,e3,e4,e5,e6,e7⟩:=gA.inv
   injection e1 with e1 e1' e1''
   have aq:iv.toNat<rs.length:=(Ob2.1 hr).1;have hA:some ad=some b:=by rw[e1];exact e4.resolve_left (by omega)
   obtain rfl:=Pbu hA;have xg:r.length=sz:=e5 r (List.mem_of_getElem? hr)
   obtain⟨q1,q2,q3,q4⟩:=sZ hR hI h2 oE nq (l:=.rp [] z (.v s.nv)) fun G' dc a7=>by
    simp only[aB];refine⟨⟨by rw[h7];rfl,by simp⟩,fun _=>.inr ⟨_,r,h7,by rw[hd,xg],?_⟩⟩;have qe:∀ {b:Nat},allow G sl.deps b->allow G' [] b:=fun hb=>uU a7 (fun z hz=>Qbi hz) hb
    refine .rows _ (ad.add (iv.toNat*sz+0)) 1 1 r.length [r] (fun _ j=>vs iv.toNat j) rfl (Pbj _) (.inr rfl) (by simp) (fun i0 r0 nk j d0 hj=>?_) (fun i0 r0 nk j d0 hj=>?_)
    ·cases i0 with
     | zero =>
      simp only[Ob7,Ob0]at nk;subst nk;obtain⟨k1,k2⟩:=e6 _ _ hr j d0 hj;refine⟨by rw[add_block];exact qe k1,?_⟩;rw[add_add];rw[show iv.toNat*sz+0+(0*r.length+j)=iv.toNat*sz+j by omega];exact k2
     |succ i0=>simp at nk
    ·cases i0 with
     | zero =>
      simp only[Ob7,Ob0]at nk;subst nk;exact (e7 _ _ hr j d0 hj).mono fun b hb=>⟨qe hb,rfl⟩
     |succ i0=>simp at nk
   exact⟨q1,⟨q2.nr_,q2.free⟩,q3,rfl⟩
  ·simp[jD]at h
 ·simp only[Ob0,Pbl]at h
  obtain⟨rfl,rfl,rfl⟩:=h;exact⟨⟨G,hR⟩,hI.succ,rfl,rfl⟩
 ·simp only[Ob0,Pbl]at h
  obtain⟨rfl,rfl,rfl⟩:=h;exact⟨⟨G,hR⟩,hI.succ,rfl,rfl⟩
 ·simp[jD]at h
theorem tC:∀ {ps:List Pos} {i:Nat} {s s':St} {ls:List Step} {xs:List aI} {G:Gh},jA E nr ps i s=some (ls,s',xs)->RI nr len i s->i+ps.length=len->R E.ntmps F s.get ρ a w G->aJ cf ρ none s.nv ls ->
  (∃ G',R E.ntmps F s'.get ρ a w G')/\s'.nt=s.nt/\s'.nr=s.nr/\s'.nv=s.nv+bD ls
 | [], i, s, s', ls, xs, G, h, hI, hl, hR, ba => by
  simp only[jA,Ob0,Pbl]at h;obtain⟨rfl,rfl,rfl⟩:=h;exact⟨⟨G,hR⟩,rfl,rfl,rfl⟩
 | p :: ps, i, s, s', ls, xs, G, h, hI, hl, hR, ba => by
  simp only[jA,bind,Oby]at h;obtain⟨⟨l1,s1,x1⟩,h1,⟨l2,s2,xs2⟩,h2,h3⟩:=h;simp only[Ob0,Pbl]at h3;obtain⟨rfl,rfl,rfl⟩:=h3;simp only[Pb9]at hl;obtain⟨nn,l7⟩:=aJ.append ba;obtain⟨⟨G1,qg⟩,hI1,h4,h5⟩:=Ka9 h1 hI (by omega) hR nn;rw[<- h5]at l7;obtain⟨h6,h7,h8,h9⟩:=tC h2 hI1 (by omega) qg l7;refine⟨h6,h7.trans h4,h8.trans (hI1.nr_.trans hI.nr_.symm),?_⟩;rw[h9,h5,eB,Nat.add_assoc]
theorem nM:∀ {ps:List Pos} {i:Nat} {s s':St} {ls:List Step} {xs:List aI},jA E nr ps i s=some (ls,s',xs)->xs.length=ps.length
 | [], i, s, s', ls, xs, h => by
  simp only[jA,Ob0,Pbl]at h;obtain⟨rfl,rfl,rfl⟩:=h;rfl
 | p :: ps, i, s, s', ls, xs, h => by
  simp only[jA,bind,Oby]at h;obtain⟨⟨l1,s1,x1⟩,h1,⟨l2,s2,xs2⟩,h2,h3⟩:=h;simp only[Ob0,Pbl]at h3;obtain⟨rfl,rfl,rfl⟩:=h3;simp[nM h2]
theorem kX {τ:St}:∀ {rs:List Nat} {s s':St} {G:Gh},gJ τ rs s=some s'->R E.ntmps F s.get ρ a w G->∃ G',R E.ntmps F s'.get ρ a w G'
 | [], s, s', G, h, hR => by
  simp only[gJ,Ob0]at h;subst h;exact⟨G,hR⟩
 | r :: rs, s, s', G, h, hR => by
  simp only[gJ]at h;split at h
  ·rename_i x m v _ hk
   have dq:(dD [r]).eval s.get=some [(kR r,.root x m v .frozen)]:=by
    simp only[dD,aA,aP,Ob6];rw[hk];rfl
   obtain⟨G',gw,-,-,-⟩:=hR.freeze dq;have hg:(s.puts [(kR r,.root x m v .frozen)]).get=upds s.get [(kR r,.root x m v .frozen)]:=vL (Fab dq);rw[<- hg]at gw;exact kX h gw
  ·exact kX h hR
theorem Faa {s:St}(h:lM s.tr s.nr len=true):RI s.nr len 0 { s with nr:=s.nr+len }:=by
 refine⟨rfl,fun j _ hj=>?_⟩;unfold St.get;dsimp only;rw[vT h (s.nr+j) (by omega) (by omega)];cases sJ s.nt s.nb (s.nr+len) (kR (s.nr+j))<;>rfl
theorem Qas {s:St}(h:lM s.tr s.nr len=true):({ s with nr:=s.nr+len }:St).get=s.get:=by
 funext k;unfold St.get;dsimp only;unfold sJ
 cases b0:Nat.beq (k % 3) 0 with
 |true=>rfl
 | false =>
  rw[cond_false,cond_false]
  cases b1:Nat.beq (k % 3) 1 with
  |true=>rfl
  | false =>
   rw[cond_false,cond_false];have n0:k % 3≠0:=fun e=>by rw[e]at b0;cases b0
   have n1:k % 3≠1:=fun e=>by rw[e]at b1;cases b1
   cases hb:Qbg (k / 3) s.nr with
   | true =>
    have:Qbg (k / 3) (s.nr+len)=true:=by simp only[Pb2]at hb ⊢;omega
    rw[this]
   | false =>
    cases cI:Qbg (k / 3) (s.nr+len) with
    |false=>rfl
    | true =>
     simp only[Pb2]at cI
     have mf:s.nr<=k / 3:=by
      rcases Pbo (k / 3) s.nr with h1|h1
      ·rw[<- Pb2,hb]at h1;cases h1
      ·exact h1
     have:k=kR (k / 3):=by unfold kR;omega
     rw[cond_true,cond_false,this];exact vT h _ mf cI
theorem Oaw {s0:St}{br:Nat}{a6:List Pos}{τ:St}{kind:Kind}{r:Tm St}(h:Fat E s0.nv s0.nr br a6 τ kind s=some r)(kq:wX E s0 br a6.length τ){ρ0 e:List D}(hρ:ρ=ρ0++e)(h0:ρ0.length=s0.nv)
  {o:Out St} (ho:Ec cf r ρ=some o) (hl:ρ.length=s.nv) (hi:Aar E s) :
  o.kind=kind/\o.vals.length=a6.length/\∀ a w G,R E.ntmps F s.get ρ a w G->∃ G',R E.ntmps F τ.get (ρ0++o.vals) a w G':=by
 unfold Fat at h;simp only[bind,Oby]at h;obtain⟨⟨ls,s1,xs⟩,h1,s2,h2,h3⟩:=h;dsimp only at h1 h2 h3;generalize hb:(lI E s0.nv xs s0.nr br s.nr a6.length τ s2&&lM s.tr s.nr a6.length&&Nat.ble s0.nr s.nr&&dR s.nv ls&&xs.all (aX (s.nv+bD ls)))=b at h3
 cases b with
 |false=>simp[jD]at h3
 | true =>
  rw[cond_true]at h3;obtain rfl:=Pbu h3;simp only[Obz,Qba]at hb;obtain⟨⟨⟨⟨oo,kA⟩,sE⟩,hb4⟩,hb5⟩:=hb;obtain⟨ds,h4,h5,h6⟩:=sQ (g:=none) rfl (by rw[hl];exact hb4) ho;rw[fD]at h5;obtain rfl:=Pbu h5;refine⟨rfl,by simp[Out.vals,nM h1],fun a w G hR=>?_⟩;have h6':=h6 [];rw[Pbz,hl]at h6'
  have qg:R E.ntmps F ({ s with nr:=s.nr+a6.length }:St).get (ρ++ds) a w G:=by
   rw[Qas kA];exact hR.ext hi.sc (by omega) ds
  obtain⟨⟨G1,xq⟩,h7,h8,h9⟩:=tC (cf:=cf) h1 (Faa kA) (by simp) qg h6';obtain⟨G2,hR3⟩:=kX h2 xq;subst hρ;rw[Pbd]at hR3;have:=hR3.fit h0 (nM h1) kq oo sE;rw[Pbd];exact this
end
theorem oL (b c k:Nat):jV b c (jV b c k)=k:=by
 unfold jV
 cases h1:Nat.beq k b with
 | true =>
  simp only[Pbq]at h1;subst h1;rw[cond_true]
  cases h2:Nat.beq c k with
  |true=>simp only[Pbq]at h2;rw[cond_true];exact h2
  |false=>rw[cond_false,show Nat.beq c c=true by simp,cond_true]
 | false =>
  rw[cond_false]
  cases h2:Nat.beq k c with
  | true =>
   simp only[Pbq]at h2;subst h2;rw[cond_true,show Nat.beq b b=true by simp,cond_true]
  |false=>rw[cond_false,h1,h2,cond_false,cond_false]
theorem Kal {b c k K:Nat}(hk:k<K)(hb:K<=b)(hc:K<=c):jV b c k=k:=by
 unfold jV
 have h1:Nat.beq k b=false:=by cases h:Nat.beq k b with
  |false=>rfl
  |true=>simp only[Pbq]at h;omega
 have h2:Nat.beq k c=false:=by cases h:Nat.beq k c with
  |false=>rfl
  |true=>simp only[Pbq]at h;omega
 rw[h1,h2];rfl
theorem Xa5 {b c k n:Nat}(hb:b<n)(hc:c<n):jV b c k<n↔k<n:=by
 unfold jV
 cases h1:Nat.beq k b with
 |true=>simp only[Pbq]at h1;rw[cond_true];omega
 | false =>
  rw[cond_false]
  cases h2:Nat.beq k c with
  |true=>simp only[Pbq]at h2;rw[cond_true];omega
  |false=>rw[cond_false]
def swS (b c:Nat)(σ:Nat->Option aN):Nat->Option aN:=fun k=>(σ (kU b c k)).map (lY b c)
def swO (b c:Nat):Ow->Ow
 |.box j=>.box (jV b c j)
 |o=>o
def swG (b c:Nat)(G:Gh):Gh:=⟨fun x=>swO b c (G.own x),G.hdr,fun j=>G.bx (jV b c j)⟩
theorem zR (b c r:Nat):kU b c (kR r)=kR r:=by
 unfold kU;rw[show Nat.beq (kR r % 3) 1=false by unfold kR;rw[show (3*r+2) % 3=2 by omega];rfl];rfl
theorem Lat (b c j:Nat):kU b c (kB j)=kB (jV b c j):=by
 unfold kU;have e1:kB j % 3=1:=by unfold kB;omega
 have e2:kB j / 3=j:=by unfold kB;omega
 rw[e1,e2];rfl
theorem Iak {b c:Nat}{o:Ow}:swO b c o=.frz↔o=.frz:=by cases o<;>simp[swO]
theorem Iaj {b c:Nat}{o:Ow}{r:Nat}{p:List Nat}:swO b c o=.slc r p↔o=.slc r p:=by cases o<;>simp[swO]
theorem Jar {b c:Nat}{y:aN}{x:aI}{m v:Nat}{st:RSt}:lY b c y=.root x m v st↔y=.root x m v st:=by cases y<;>simp[lY]
theorem Iai {b c:Nat}{σ:Nat->Option aN}{r:Nat}{x:aI}{m v:Nat}{st:RSt}:swS b c σ (kR r)=some (.root x m v st)↔σ (kR r)=some (.root x m v st):=by
 unfold swS;rw[zR]
 cases σ (kR r) with
 |none=>simp
 |some y=>simp only[Pb6,Ob0];exact Jar
theorem Daa {b c:Nat}{σ:Nat->Option aN}{k:Nat}:(swS b c σ k).isSome=(σ (kU b c k)).isSome:=by
 unfold swS;cases σ (kU b c k)<;>rfl
section
variable {b c:Nat} {σ:Nat->Option aN} {ρ:List D} {G:Gh} {w:World}
theorem Pag {r k:Nat}:kL (swS b c σ) r k↔kL σ r k:=by
 unfold kL;simp only[Iai]
theorem Pah {r k:Nat}:iK (swS b c σ) r k↔iK σ r k:=by
 unfold iK;simp only[Iai]
theorem Naq {r k m:Nat}:wD (swS b c σ) r k m↔wD σ r k m:=by
 unfold wD;simp only[Iai]
theorem Pai {deps:List (Nat×Nat)}{x:Nat}(h:allow G deps x):allow (swG b c G) deps x:=by
 rcases h with h|⟨r,k,p,hm,h⟩
 ·exact .inl (Iak.2 h)
 ·exact .inr ⟨r,k,p,hm,Iaj.2 h⟩
theorem Abx {r:Nat}{p:List Nat}{m:Nat}{v:Value}{d:D}(h:Rp G.own w r p m v d):Rp (swG b c G).own w r p m v d:=by
 have:=h.mono (own':=(swG b c G).own) (w':=w) (r':=r) (q:=[]) (q':=[]) (fun x hx=>⟨Iak.2 hx,rfl⟩) p rfl (fun x t hx=>⟨Iaj.2 hx,rfl⟩);simpa using this
theorem Aby {r:Nat}{q p:List Nat}{v u:Value}(h:wG G.own w r q v p u):wG (swG b c G).own w r q v p u :=
 wG.mono p q q v u (fun x t hx=>⟨Iaj.2 hx,rfl⟩) h
theorem Dbi {deps:List (Nat×Nat)}{v:Value}{d:D}{p:Pth}(h:Aaq σ ρ G w deps v d p):Aaq (swS b c σ) ρ (swG b c G) w deps v d p:=by
 cases p with
 |no=>trivial
 |view=>exact fun r k m e hl=>Abx (h r k m e (Naq.1 hl))
 |suf sz lo=>exact fun r k m e hl=>h r k m e (Naq.1 hl)
 | path p =>
  intro r k m e hl;obtain⟨h1,h2,h3⟩:=h r k m e (Naq.1 hl);exact⟨h1,Abx h2,Aby h3⟩
mutual
theorem Iag:∀ (l:aM) (v:Value),aB σ ρ G w l v->aB (swS b c σ) ρ (swG b c G) w (l.swap b c) v
 |.dead,_,hl=>by simpa[aB,aM.swap] using hl
 |.sc x,v,hl=>by simpa[aB,aM.swap] using hl
 |.su g x,v,hl=>by simpa[aB,aM.swap] using hl
 | .ex r, v, hl => by
  simp only[aB,aM.swap]at hl ⊢;exact⟨hl.1,by rw[Daa,zR];exact hl.2.1,hl.2.2⟩
 | .sn deps p nie x, v, hl => by
  simp only[aB,aM.swap]at hl ⊢;refine⟨⟨hl.1.1,fun z hz=>Pah.2 (hl.1.2 z hz)⟩,fun hv=>?_⟩;obtain⟨h1,h2,h3⟩:=hl.2 (fun z hz=>Pag.1 (hv z hz));exact⟨h1.mono fun x hx=>⟨Pai hx,rfl⟩,h2,Dbi h3⟩
 | .px k off, v, hl => by
  simp only[aB,aM.swap]at hl ⊢;refine⟨?_,?_⟩
  ·show v=.pointer (some ((G.bx (jV b c (jV b c k))).add off))
   rw[oL];exact hl.1
  ·rw[Daa,Lat,oL];exact hl.2
 | .pe l sz i off, v, hl => by
  simp only[aB,aM.swap]at hl ⊢;obtain⟨a,n,c',k,iv,h1,h2⟩:=hl;exact⟨a,n,c',k,iv,Iag l _ h1,h2⟩
 | .rp deps sz x, v, hl => by
  simp only[aB,aM.swap]at hl ⊢;refine⟨⟨hl.1.1,fun z hz=>Pah.2 (hl.1.2 z hz)⟩,fun hv=>?_⟩
  rcases hl.2 (fun z hz=>Pag.1 (hv z hz)) with h1|⟨a,row,h1,h2,h3⟩
  ·exact .inl h1
  ·exact .inr ⟨a,row,h1,h2,h3.mono fun x hx=>⟨Pai hx,rfl⟩⟩
 |.pn,v,hl=>by simpa[aB,aM.swap] using hl
 | .clo f eN, v, hl => by
  simp only[aB,aM.swap]at hl ⊢;obtain⟨vs,h1,h2⟩:=hl;exact⟨vs,h1,yG eN vs h2⟩
theorem yG:∀ (ls:List aM) (vs:List Value),aG σ ρ G w ls vs->aG (swS b c σ) ρ (swG b c G) w (bP b c ls) vs
 |[],vs,hl=>by simpa[aG,bP] using hl
 | l :: ls, vs, hl => by
  simp only[aG,bP]at hl ⊢;obtain⟨u,us,e,h1,h2⟩:=hl;exact⟨u,us,e,Iag l u h1,yG ls us h2⟩
end
theorem Za7:∀ (ts:List (Bool×List aM)) (us:List Value),gY σ ρ G w ts us->gY (swS b c σ) ρ (swG b c G) w (ts.map fun t=>(t.1,bP b c t.2)) us
 |[],_,ht=>ht
 | (a, ls) :: r, us, ht => by
  obtain⟨u,cD,vs,e,h1,h2,h3⟩:=ht;exact⟨u,cD,vs,e,yG ls vs h1,h2,Za7 r cD h3⟩
theorem Ib6 {v:SV}{u:Value}(hv:bS σ ρ G w v u):bS (swS b c σ) ρ (swG b c G) w (Tal b c v) u:=by
 cases v with
 |dead=>trivial
 |one l=>exact Iag l u hv
 |agg ls=>obtain⟨vs,e,h1⟩:=hv;exact⟨vs,e,yG ls vs h1⟩
 |tup ts=>obtain⟨us,e,h1⟩:=hv;exact⟨us,e,Za7 ts us h1⟩
theorem zJ:∀ (ls:List aM) (j:Nat),(bP b c ls)[j]?=(ls[j]?).map (aM.swap b c)
 |[],j=>by simp[bP]
 |l::ls,0=>by simp[bP]
 |l::ls,j+1=>by simp[bP,zJ ls j]
theorem wR:∀ (ls:List aM),(bP b c ls).length=ls.length
 |[]=>rfl
 |l::ls=>by simp[bP,wR ls]
end
def Bau (F:bC)(K:Nat):Prop:=∀ x j,x<F.w0.heap.size->F.own0 x=.box j->j<K
theorem R.swap {n:Nat}{F:bC}{σ:Nat->Option aN}{ρ:List D}{a:Act}{w:World}{G:Gh}(h:R n F σ ρ a w G){K:Nat}(hF:Bau F K){b c:Nat}(hb:K<=b)(hc:K<=c):R n F (swS b c σ) ρ a w (swG b c G):=by
 refine⟨h.tmps,h.defers,fun k y hk=>?_,⟨h.frame.os,h.frame.tape,h.frame.output,h.frame.size,fun x hx ho=>?_,fun x j hx ho=>?_,fun x hx=>Iak.2 (h.frame.fresh x hx)⟩,fun j ls hk hx ho=>?_⟩
 ·unfold swS at hk
  rw[Pbc]at hk;obtain⟨z,hz,rfl⟩:=hk;have hr:=h.cont _ _ hz
  cases z with
  | slot g v =>
   obtain⟨t,e,h1⟩:=hr
   have ek:k=kT t:=by
    unfold kU at e
    cases hm:Nat.beq (k % 3) 1 with
    |true=>rw[hm,cond_true]at e;exact absurd e.symm kF
    |false=>rw[hm,cond_false]at e;exact e
   exact⟨t,ek,fun hg=>Ib6 (h1 hg)⟩
  | box ro ls =>
   obtain⟨j,e,h1,h2,h3⟩:=hr
   have ek:k=kB (jV b c j):=by
    unfold kU at e
    cases hm:Nat.beq (k % 3) 1 with
    | true =>
     rw[hm,cond_true]at e;simp only[Pbq]at hm;have:=zT e;rw[<- this,oL];unfold kB;omega
    | false =>
     rw[hm,cond_false]at e;rw[e]at hm;have:kB j % 3=1:=by unfold kB;omega
     rw[this]at hm;cases hm
   refine⟨jV b c j,ek,?_,?_,fun i l hl=>?_⟩
   ·show (G.bx (jV b c (jV b c j))).spot=none
    rw[oL];exact h1
   ·show swO b c (G.own (G.bx (jV b c (jV b c j))).block)=_
    rw[oL,h2];cases ro<;>rfl
   ·rw[zJ,Pbc]at hl
    obtain⟨l0,lO,rfl⟩:=hl;obtain⟨v,h4,h5,h6⟩:=h3 i l0 lO;show ∃ v,w.cell? ((G.bx (jV b c (jV b c j))).add i)=some v/\w.frozen? ((G.bx (jV b c (jV b c j))).add i)=false/\_
    rw[oL];exact⟨v,h4,h5,Iag l0 v h6⟩
  | root x m aE st =>
   obtain⟨r,e,h1,h2⟩:=hr
   have ek:k=kR r:=by
    unfold kU at e
    cases hm:Nat.beq (k % 3) 1 with
    |true=>rw[hm,cond_true]at e;exact absurd e eD
    |false=>rw[hm,cond_false]at e;exact e
   refine⟨r,ek,by rw[Daa,zR];exact h1,?_⟩
   cases st with
   |live=>exact Abx h2
   |frozen=>exact⟨h2.1.mono fun x hx=>⟨Iak.2 hx,rfl⟩,fun x p hx=>h2.2 x p (Iaj.1 hx)⟩
   |gone=>trivial
   |fwd r'=>exact⟨h2.1,by rw[Daa,zR];exact h2.2⟩
 ·obtain⟨h1,h2⟩:=h.frame.keep x hx ho
  refine⟨h1,?_⟩;show swO b c (G.own x)=_
  rw[h2]
  rcases ho with ho|ho<;>rw[ho]<;>rfl
 ·obtain⟨h1,h2⟩:=h.frame.boxes x j hx ho
  refine⟨?_,h2⟩;show swO b c (G.own x)=_
  rw[h1];show Ow.box (jV b c j)=_
  rw[Kal (hF x j hx ho) hb hc]
 ·have hj:=hF _ j hx ho
  have e:=Kal hj hb hc
  have jh:σ (kB j)=some (.box false ls)\/∃ l0,σ (kB j)=some (.box false l0)/\l0.length=ls.length:=by
   unfold swS at hk;rw[Lat,e,Pbc]at hk;obtain⟨z,hz,hs⟩:=hk
   cases z with
   |slot=>simp[lY]at hs
   |root=>simp[lY]at hs
   | box ro l0 =>
    simp only[lY,aN.box.injEq]at hs;obtain⟨rfl,rfl⟩:=hs;exact .inr ⟨l0,hz,(wR l0).symm⟩
  have e2:(swG b c G).bx j=G.bx j:=by show G.bx (jV b c j)=_;rw[e]
  rw[e2]at hx ho ⊢
  rcases jh with jh|⟨l0,jh,hl⟩
  ·exact h.rng j ls jh hx ho
  ·rw[<- hl];exact h.rng j l0 jh hx ho
theorem Haa {f:Nat->Option aN}:∀ (L:List Nat) (t:Tr aN) (k:Nat),(Lab f L t).get k=if k∈L then f k else t.get k
 |[],t,k=>by simp[Lab]
 | x :: L, t, k => by
  rw[Lab,Haa L _ k];by_cases h:k∈L
  ·rw[if_pos h,if_pos (Pbb _ h)]
  ·rw[if_neg h,Tr.get_set]
   by_cases e:k=x
   ·subst e;rw[if_pos rfl,if_pos Pbf]
   ·rw[if_neg e,if_neg (by simp only[Ob8,not_or];exact⟨e,h⟩)]
theorem Eb4 {nt nb nr k:Nat}:k∈(range 0 nt).map kT++(range 0 nb).map kB++(range 0 nr).map kR↔sJ nt nb nr k=true:=by
 unfold sJ;simp only[List.mem_append,Pb5,mem_range];constructor
 ·rintro ((⟨x,hx,rfl⟩|⟨x,hx,rfl⟩)|⟨x,hx,rfl⟩)
  ·rw[show kT x % 3=0 by unfold kT;omega,show kT x / 3=x by unfold kT;omega];simpa using hx.2
  ·rw[show kB x % 3=1 by unfold kB;omega,show kB x / 3=x by unfold kB;omega];simpa using hx.2
  ·rw[show kR x % 3=2 by unfold kR;omega,show kR x / 3=x by unfold kR;omega];simpa using hx.2
 ·have a4r:k % 3=0\/k % 3=1\/k % 3=2:=by omega
  rcases a4r with h|h|h<;>rw[h]<;>intro hk
  ·have jh:k / 3<nt:=by simpa using hk
   exact .inl (.inl ⟨k / 3,⟨Qbn _,by omega⟩,by unfold kT;omega⟩)
  ·have jh:k / 3<nb:=by simpa using hk
   exact .inl (.inr ⟨k / 3,⟨Qbn _,by omega⟩,by unfold kB;omega⟩)
  ·have jh:k / 3<nr:=by simpa using hk
   exact .inr ⟨k / 3,⟨Qbn _,by omega⟩,by unfold kR;omega⟩
theorem Ra6 {nt nb nr b c k:Nat}(hb:b<nb)(hc:c<nb):sJ nt nb nr (kU b c k)=sJ nt nb nr k:=by
 unfold kU
 cases h:Nat.beq (k % 3) 1 with
 |false=>rfl
 | true =>
  rw[cond_true];simp only[Pbq]at h;unfold sJ;rw[show kB (jV b c (k / 3)) % 3=1 by unfold kB;omega,show kB (jV b c (k / 3)) / 3=jV b c (k / 3) by unfold kB;omega,h];show Qbg _ _=Qbg _ _
  have:=Xa5 (k:=k / 3) hb hc;cases h1:Qbg (jV b c (k / 3)) nb<;>cases h2:Qbg (k / 3) nb<;>first|rfl|skip
  ·simp only[Pb2]at h2
   have:=this.2 h2;rw[<- Pb2,h1]at this;cases this
  ·simp only[Pb2]at h1
   have:=this.1 h1;rw[<- Pb2,h2]at this;cases this
theorem Paf {s:St}{b c:Nat}(hb:b<s.nb)(hc:c<s.nb):(s.swap b c).get=swS b c s.get:=by
 funext k;have e0:(s.swap b c).get k=bif sJ s.nt s.nb s.nr k then (s.swap b c).tr.get k else none:=rfl;have e1:(s.swap b c).tr.get k=if k∈(range 0 s.nt).map kT++(range 0 s.nb).map kB++(range 0 s.nr).map kR then swS b c s.get k else s.tr.get k:=Haa _ _ k
 rw[e0,e1]
 cases h:sJ s.nt s.nb s.nr k with
 |true=>rw[cond_true,if_pos (Eb4.2 h)]
 | false =>
  rw[cond_false];unfold swS St.get;rw[Ra6 hb hc,h];rfl
theorem Hao {b c N:Nat}:∀ l:aM,(l.swap b c).inScope N=l.inScope N:=by
 intro l
 induction l using aM.rec (motive_2:=fun ls=>bB N (bP b c ls)=bB N ls) with
 |dead=>rfl
 |sc=>rfl
 |su=>rfl
 |ex=>rfl
 |sn=>rfl
 |px=>rfl
 |pe l sz i off ih=>simp only[aM.swap,aM.inScope,ih]
 |rp=>rfl
 |pn=>rfl
 |clo f eN ih=>simp only[aM.swap,aM.inScope,ih]
 |nil=>rfl
 |cons l ls h1 h2=>simp only[bP,bB,h1,h2]
theorem nN {b c N:Nat}:∀ ls:List aM,bB N (bP b c ls)=bB N ls
 |[]=>rfl
 |l::ls=>by simp only[bP,bB,Hao,nN ls]
theorem Sar {b c N:Nat}(y:aN):bQ N (lY b c y)=bQ N y:=by
 cases y with
 | slot g v =>
  simp only[lY,bQ];congr 1
  cases v with
  |dead=>rfl
  |one l=>exact Hao l
  |agg ls=>exact nN ls
  | tup ts =>
   simp only[Tal,vF,List.all_map];congr 1;funext t;exact nN t.2
 |box ro ls=>exact nN ls
 |root=>rfl
theorem Aar.swap {E:Env}{s:St}(h:Aar E s){b c:Nat}(hb:b<s.nb)(hc:c<s.nb):Aar E (s.swap b c):=by
 refine⟨h.nt,?_⟩;rw[Paf hb hc];intro k y hk;unfold swS at hk;rw[Pbc]at hk;obtain⟨z,hz,rfl⟩:=hk;rw[Sar];exact h.sc _ _ hz
theorem vM {E:Env}{F:bC}(hF:Bau F E.nbx){τ:St}:∀ (ts:List Nat) (s:St),Aar E s->Aar E (Oad E τ ts s)/\(Oad E τ ts s).nv=s.nv/\∀ {ρ:List D} {a:Act} {w:World} {G:Gh},R E.ntmps F s.get ρ a w G->∃ G',R E.ntmps F (Oad E τ ts s).get ρ a w G'
 |[],s,hi=>⟨hi,rfl,fun hR=>⟨_,hR⟩⟩
 | t :: ts, s, hi => by
  unfold Oad;split
  ·rename_i b c _ _
   cases hg:(!(Nat.beq b c)&&Nat.ble E.nbx b&&Nat.ble E.nbx c&&Qbg b s.nb&&Qbg c s.nb) with
   |false=>rw[cond_false];exact vM hF ts s hi
   | true =>
    rw[cond_true];simp only[Obz,Qba,Pb2]at hg;obtain⟨⟨⟨⟨-,h1⟩,h2⟩,h3⟩,h4⟩:=hg;obtain⟨k1,k2,k3⟩:=vM hF ts (s.swap b c) (hi.swap h3 h4);refine⟨k1,k2,fun hR=>?_⟩;have:=hR.swap hF h1 h2;rw[<- Paf h3 h4]at this;exact k3 this
  ·exact vM hF ts s hi
section
variable {E:Env} {F:bC} {cf:Nat->List D->Option (List D)} {ρ:List D} {s:St}
theorem Hay (hF:Bau F E.nbx){s0:St}{br:Nat}{a6:List Pos}{τ:St}{kind:Kind}{r:Tm St}(h:coerce E s0.nv s0.nr br a6 τ kind s=some r)(kq:wX E s0 br a6.length τ){ρ0 e:List D}(hρ:ρ=ρ0++e)(h0:ρ0.length=s0.nv)
  {o:Out St} (ho:Ec cf r ρ=some o) (hl:ρ.length=s.nv) (hi:Aar E s) :
  o.kind=kind/\o.vals.length=a6.length/\∀ a w G,R E.ntmps F s.get ρ a w G->∃ G',R E.ntmps F τ.get (ρ0++o.vals) a w G':=by
 obtain⟨h1,h2,h3⟩:=vM hF (τ:=τ) E.pxs s hi;obtain⟨h4,h5,h6⟩:=Oaw (F:=F) h kq hρ h0 ho (hl.trans h2.symm) h1;refine⟨h4,h5,fun a w G hR=>?_⟩;obtain⟨G',gw⟩:=h3 hR;exact h6 a w G' gw
end
def Vak:Kind->Exit
 |.fall=>.normal
 |.exit id=>.exit id
 |.ret=>.ret
 |_=>.outgrown
def Jbe:Kind->Prop
 |.cont=>False
 |.yield _=>False
 |_=>True
structure Post (E:Env) (ρ:List D) (o:Out St):Prop where
 nice:Jbe o.kind
 len:o.env.length=o.ext.nv
 inv:Aar E o.ext
 pre:∃ ds,o.env=ρ++ds
def Wp (P:Program)(E:Env)(F:bC)(c:Code)(s:St)(ρ:List D)(o:Out St):Prop :=
 ∀ a w G Q,R E.ntmps F s.get ρ a w G->(∀ a' w' G',R E.ntmps F o.ext.get o.env a' w' G'->Q (Vak o.kind) a' w')->c.wp P Q a w
theorem Post.trans {E:Env}{ρ ds:List D}{o:Out St}(h:Post E (ρ++ds) o):Post E ρ o:=by
 obtain⟨es,h1⟩:=h.pre;exact⟨h.nice,h.len,h.inv,ds++es,by rw[h1,Pbd]⟩
theorem Ha4 {k:Kind}:nG k=true↔k=.fall:=by cases k<;>simp[nG]
section
variable {P:Program} {E:Env} {F:bC} {cf:Nat->List D->Option (List D)} {ρ:List D}
theorem kP {g:Option (aI×Bool)}{kind:Kind}{xs:List aI}{s:St}:∀ {ls:List Step} {ρ:List D} {o:Out St},Ec cf (mJ g (.leaf kind xs s) ls) ρ=some o->o.kind=kind
 | [], ρ, o, h => by
  rw[mJ,fD]at h;obtain rfl:=Pbu h;rfl
 | .prim p ys n :: r, ρ, o, h => by
  rw[mJ,Ja3]at h;split at h
  ·simp only[Oby]at h
   obtain⟨ds,-,h⟩:=h;split at h
   ·exact kP h
   ·cases h
  ·exact kP h
 | .call f ys n olds :: r, ρ, o, h => by
  rw[mJ,rG]at h;split at h
  ·simp only[Oby]at h
   obtain⟨ds,-,h⟩:=h;split at h
   ·exact kP h
   ·cases h
  ·exact kP h
theorem Ma1 {n dw br:Nat}{a6:List Pos}{τ s:St}{kind:Kind}{r:Tm St}(h:Fat E n dw br a6 τ kind s=some r){ρ:List D}{o:Out St}(ho:Ec cf r ρ=some o):o.kind=kind:=by
 unfold Fat at h;simp only[bind,Oby]at h;obtain⟨⟨ls,s1,xs⟩,h1,s2,h2,h3⟩:=h;dsimp only at h3
 revert h3
 generalize (lI E n xs dw br s.nr a6.length τ s2&&lM s.tr s.nr a6.length&&Nat.ble dw s.nr&&dR s.nv ls&&xs.all (aX (s.nv+bD ls)))=b;intro h3
 cases b with
 |false=>simp[jD]at h3
 | true =>
  rw[cond_true]at h3;obtain rfl:=Pbu h3;exact kP ho
theorem Fas {n dw br:Nat}{a6:List Pos}{τ s:St}{kind:Kind}{r:Tm St}(h:coerce E n dw br a6 τ kind s=some r){ρ:List D}{o:Out St}(ho:Ec cf r ρ=some o):o.kind=kind:=Ma1 h ho
theorem Yaw {live:Nat}{s0:St}{i:Nat}{ij:Kind->Bool}{ends:List St}{t t':Tm St}{τ:St}(h:join E live s0 i ij ends t=some (t',τ)) :
  ∃ a6 fk,wX E s0 fk a6.length τ/\t.turn (.yield i) ij (coerce E s0.nv s0.nr fk a6 τ (.yield i))=some t':=by
 unfold join at h;dsimp only at h
 revert h
 generalize hb:Bax E s0 _ _ _=b;intro h
 cases b with
 |false=>simp[jD]at h
 | true =>
  rw[cond_true,Pbc]at h;obtain⟨t1,h1,h2⟩:=h;obtain⟨rfl,rfl⟩:=Prod.mk.inj h2;exact⟨_,_,xC hb,h1⟩
theorem Uax (hF:Bau F E.nbx){live:Nat}{s0:St}{i:Nat}{ij:Kind->Bool}{ends:List St}{t t' k:Tm St}{τ:St}(h:join E live s0 i ij ends t=some (t',τ))(hc:ij .cont=false)(hy:∀ i,ij (.yield i)=false)
  {o:Out St} (ho:Ec cf (.bind i t' k) ρ=some o) (hl:ρ.length=s0.nv) (hP:∀ o1,Ec cf t ρ=some o1->Post E ρ o1) :
  ∃ o1,Ec cf t ρ=some o1/\((ij o1.kind=true/\∃ vals,Ec cf k (ρ++vals)=some o/\(ρ++vals).length=τ.nv/\Aar E τ/\∀ a w G,R E.ntmps F o1.ext.get o1.env a w G->∃ G',R E.ntmps F τ.get (ρ++vals) a w G')\/(ij o1.kind=false/\o=o1)):=by
 obtain⟨a6,fk,kq,ht⟩:=Yaw h;simp only[oI,Oby]at ho;obtain⟨o',h1,h2⟩:=ho;obtain⟨o1,h3,h4⟩:=jW (fun s r hr ρ o ho=>Fas hr ho) hc hy ht h1;refine⟨o1,h3,?_⟩;have hp:=hP o1 h3
 rcases h4 with ⟨h5,h6,r,h7,h8⟩|⟨h5,h6⟩
 ·refine .inl ⟨h5,?_⟩
  rw[if_pos h6]at h2;obtain⟨ds,h9⟩:=hp.pre;obtain⟨cd,db,fj⟩:=Hay hF h7 kq h9 hl h8 hp.len hp.inv;exact⟨o'.vals,h2,by rw[Pbg,hl,db,kq.nv],⟨kq.nt1,kq.inScope⟩,fj⟩
 ·refine .inr ⟨h5,?_⟩
  subst h6
  have:o'.kind≠.yield i:=fun e=>by
   have:=hp.nice;rw[e]at this;exact this
  rw[if_neg this]at h2;exact (Pbu h2).symm
theorem Eax {live:Nat}{s:St}{body:St->Option (Tm St)}:∀ {fuel:Nat} {a6:List Pos} {keys:List Nat} {fk:Nat} {seen:List St} {t:Tm St},Eay E live s body fuel a6 keys fk seen=some t ->
  ∃ a6 fk τ tb ou xs s1 s2,body τ=some tb/\wX E s fk a6.length τ/\jA E s.nr a6 0 { s with nr:=s.nr+a6.length }=some ([],s1,xs)/\gJ τ (range 0 s.nr) s1=some s2 /\
   lI E s.nv xs s.nr fk s.nr a6.length τ s2=true/\lM s.tr s.nr a6.length=true/\tb.turn .cont nG (coerce E s.nv s.nr fk a6 τ .cont)=some ou/\t=.loop xs ou
 |0,_,_,_,_,t,h=>by simp[Eay,jD]at h
 | fuel + 1, a6, keys, fk, seen, t, h => by
  simp only[Eay]at h;split at h
  ·cases h
  ·rename_i tb hb
   revert h
   generalize hc:(Oac a6 _&&_&&_)=b;intro h
   cases b with
   | false =>
    rw[cond_false]at h;exact Eax h
   | true =>
    rw[cond_true]at h;simp only[bind,Oby]at h;obtain⟨⟨pre,s1,xs⟩,h1,s2,h2,h3⟩:=h;dsimp only at h1 h2 h3
    revert h3
    generalize hd:(lI E s.nv xs s.nr fk s.nr a6.length _ s2&&lM s.tr s.nr a6.length&&pre.isEmpty&&Bax E s fk a6.length _)=b;intro h3
    cases b with
    |false=>simp[jD]at h3
    | true =>
     rw[cond_true]at h3;simp only[Oby,Ob0]at h3;obtain⟨ou,h4,h5⟩:=h3;simp only[Obz,Rbv]at hd;obtain⟨⟨⟨gp,qf⟩,rfl⟩,hd4⟩:=hd;exact⟨a6,fk,_,tb,ou,xs,s1,s2,hb,xC hd4,h1,h2,gp,qf,h4,h5.symm⟩
theorem Laq {s:St}{body:St->Option (Tm St)}{H:List (Nat×Nat×Nat×Nat)×List Nat×Nat×List Nat}{t:Tm St}(h:Ia8 E s body H=some t) :
  ∃ a6 fk τ tb ou xs s1 s2,body τ=some tb/\wX E s fk a6.length τ/\jA E s.nr a6 0 { s with nr:=s.nr+a6.length }=some ([],s1,xs)/\gJ τ (range 0 s.nr) s1=some s2 /\
   lI E s.nv xs s.nr fk s.nr a6.length τ s2=true/\lM s.tr s.nr a6.length=true/\tb.turn .cont nG (coerce E s.nv s.nr fk a6 τ .cont)=some ou/\t=.loop xs ou:=by
 unfold Ia8 at h
 revert h
 generalize (H.1.map fun p=>(⟨p.1,p.2.1,Fba p.2.2.1 p.2.2.2⟩:Pos))=a6;generalize s.nr+H.2.2.1=fk;intro h;dsimp only at h;split at h
 ·cases h
 ·rename_i tb hb
  simp only[bind,Oby]at h;obtain⟨⟨pre,s1,xs⟩,h1,s2,h2,h3⟩:=h;dsimp only at h1 h2 h3
  revert h3
  generalize hd:(lI E s.nv xs s.nr fk s.nr a6.length _ s2&&lM s.tr s.nr a6.length&&pre.isEmpty&&Bax E s fk a6.length _)=b;intro h3
  cases b with
  |false=>simp[jD]at h3
  | true =>
   rw[cond_true]at h3;simp only[Oby,Ob0]at h3;obtain⟨ou,h4,h5⟩:=h3;simp only[Obz,Rbv]at hd;obtain⟨⟨⟨gp,qf⟩,rfl⟩,hd4⟩:=hd;exact⟨a6,fk,_,tb,ou,xs,s1,s2,hb,xC hd4,h1,h2,gp,qf,h4,h5.symm⟩
theorem least {p:Nat->Prop}(h:∃ n,p n):∃ n,p n/\∀ m,p m->n<=m:=by
 obtain⟨n,hn⟩:=h
 induction n using Nat.strongRecOn with
 | _ n ih =>
  by_cases h:∃ m,m<n/\p m
  ·obtain⟨m,h1,h2⟩:=h
   exact ih m h1 h2
  ·refine⟨n,hn,fun m hm=>?_⟩
   rcases Pbo m n with h1|h1
   ·exact absurd ⟨m,h1,hm⟩ h
   ·exact h1
open Classical in
theorem Ja9 {c:Code}{Q:Exit->Act->World->Prop}(K:Nat->Act->World->Prop)
  (round:∀ n a w,K n a w->c.wp P (Exit.then (fun a' w'=>∃ m,m<n/\K m a' w') Q) a w) {n:Nat} {a:Act} {w:World} (h0:K n a w):(Code.loop c).wp P Q a w:=by
 refine wp_loop (fun a w=>∃ n,K n a w) (fun a w=>if h:∃ n,K n a w then (least h).choose else 0) ⟨n,h0⟩ fun a w h=>?_
 have h1:=round _ a w (least h).choose_spec.1;refine wp_mono h1 fun e a' w' hq=>?_
 cases e with
 | normal =>
  obtain⟨m,hm,hK⟩:=hq;have h':∃ n,K n a' w':=⟨m,hK⟩;refine⟨h',?_⟩;rw[dif_pos h',dif_pos h];exact Nat.lt_of_le_of_lt ((least h').choose_spec.2 m hK) hm
 |_=>exact hq
theorem Ga3 (hF:Bau F E.nbx){s:St}{body:St->Option (Tm St)}{c:Code}
  (hbody:∀ {τ:St} {t:Tm St} {ρ:List D} {o:Out St},body τ=some t->Ec cf t ρ=some o->ρ.length=τ.nv->Aar E τ->Post E ρ o/\Wp P E F c τ ρ o)
  {t:Tm St} (h:∃ a6 fk τ tb ou xs s1 s2,body τ=some tb/\wX E s fk a6.length τ/\jA E s.nr a6 0 { s with nr:=s.nr+a6.length }=some ([],s1,xs)/\gJ τ (range 0 s.nr) s1=some s2 /\
   lI E s.nv xs s.nr fk s.nr a6.length τ s2=true/\lM s.tr s.nr a6.length=true/\tb.turn .cont nG (coerce E s.nv s.nr fk a6 τ .cont)=some ou/\t=.loop xs ou) {o:Out St} (ho:Ec cf t ρ=some o) (hl:ρ.length=s.nv) (hi:Aar E s):Post E ρ o/\Wp P E F (.loop c) s ρ o:=by
 obtain⟨a6,fk,τ,tb,ou,xs,s1,s2,h1,kq,h2,h3,h4,h5,h6,rfl⟩:=h;have a5h:Aar E τ:=⟨kq.nt1,kq.inScope⟩;have oY:=nM h2;rw[Ja4]at ho
 have sb:∀ vs o',vs.length=a6.length->Ec cf ou (ρ++vs)=some o'->∃ o1,Ec cf tb (ρ++vs)=some o1/\Post E (ρ++vs) o1/\Wp P E F c τ (ρ++vs) o1 /\
   ((o1.kind=.fall/\o'.kind=.cont/\o'.vals.length=a6.length/\∀ a w G,R E.ntmps F o1.ext.get o1.env a w G->∃ G',R E.ntmps F τ.get (ρ++o'.vals) a w G')\/(o1.kind≠.fall/\o'=o1)):=by
  intro vs o' kd he;obtain⟨o1,h7,h8⟩:=jW (fun s r hr ρ o ho=>Fas hr ho) rfl (fun _=>rfl) h6 he;obtain⟨hp,hw⟩:=hbody h1 h7 (by rw[Pbg,hl,kd,kq.nv]) a5h;refine⟨o1,h7,hp,hw,?_⟩
  rcases h8 with ⟨h9,cd,r,db,fj⟩|⟨h9,cd⟩
  ·obtain⟨ds,hJ⟩:=hp.pre
   obtain⟨j9,ll,l8⟩:=Hay hF db kq (hJ.trans (Pbd ..)) hl fj hp.len hp.inv;exact .inl ⟨Ha4.1 h9,j9,ll,l8⟩
  ·exact .inr ⟨(fun e=>by rw[e]at h9;cases h9),cd⟩
 refine⟨?_,fun a w G Q hR hQ=>?_⟩
 ·refine Wal (C:=fun vs o=>vs.length=a6.length->Post E ρ o) (fun vs o' he hk kd=>?_) (fun vs o' o2 he hk hC _ kd=>?_) ho (by simp[oY])
  ·obtain⟨o1,-,hp,-,h8⟩:=sb vs o' kd he
   rcases h8 with ⟨-,h9,-⟩|⟨-,h9⟩
   ·exact absurd h9 hk
   ·rw[h9];exact hp.trans
  ·obtain⟨o1,-,hp,-,h8⟩:=sb vs o' kd he
   rcases h8 with ⟨-,-,h9,-⟩|⟨-,h9⟩
   ·exact hC h9
   ·subst h9
    have:=hp.nice;rw[hk]at this;exact this.elim
 ·
  have qg:R E.ntmps F ({ s with nr:=s.nr+a6.length }:St).get ρ a w G:=by rw[Qas h5];exact hR
  obtain⟨⟨G1,xq⟩,-⟩:=tC (cf:=cf) h2 (Faa h5) (by simp) qg trivial;obtain⟨G2,hR3⟩:=kX h3 xq;obtain⟨G3,hR4⟩:=R.fit (ρ0:=ρ) (e:=[]) (by rw[Pbz];exact hR3) hl oY kq h4 (Pbj _);rw[Pbz]at hR4;have qt:=ho;unfold Lc at qt;obtain⟨N,hN⟩:=(fK (Jbu (cf:=cf) ou ρ (xs.map (·.val ρ)))).1 qt;refine Ja9 (fun n a w=>∃ vs G,iter n (fun vs=>runT cf N ou (ρ++vs)) vs=some o/\vs.length=a6.length/\R E.ntmps F τ.get (ρ++vs) a w G) (fun n a w hK=>?_) (n:=N) ⟨_,G3,hN,by simp[oY],hR4⟩;obtain⟨vs,G,hn,kd,hRv⟩:=hK
  cases n with
  |zero=>cases hn
  | succ m =>
   simp only[iter,Oby]at hn;obtain⟨o',h7,h8⟩:=hn;obtain⟨o1,h9,hp,hw,cd⟩:=sb vs o' kd (Fa6.2 ⟨N,h7⟩);refine hw a w G _ hRv fun a' w' G' gw=>?_
   rcases cd with ⟨db,fj,hJ,j9⟩|⟨db,fj⟩
   ·rw[if_pos fj]at h8
    rw[db];obtain⟨G'',rj⟩:=j9 a' w' G' gw;exact⟨m,Nat.lt_succ_self m,o'.vals,G'',h8,hJ,rj⟩
   ·subst fj
    have hk:o'.kind≠.cont:=fun e=>by
     have:=hp.nice;rw[e]at this;exact this
    rw[if_neg hk]at h8;obtain rfl:=Pbu h8;have:=hQ a' w' G' gw
    revert this db
    have:=hp.nice
    revert this
    cases o'.kind<;>intro h1 h2 h3<;>first|exact h1.elim|exact (h2 rfl).elim|exact h3
theorem nY (hF:Bau F E.nbx)(hti:sM P E.ti)(b7:xZ P E F cf)(hm:P.follows .mixedOrders=true){rb:Nat}:∀ (c:Code) {ex:List (Nat×Nat)} {live:Nat} {s:St} {t:Tm St} {ρ:List D} {o:Out St},sxC E false rb c ex live s=some t ->
  Ec cf t ρ=some o->ρ.length=s.nv->Aar E s->Post E ρ o/\Wp P E F c s ρ o
 | .skip, ex, live, s, t, ρ, o, h, ho, hl, hi => by
  simp only[sxC,Ob0]at h;subst h;rw[fD]at ho;obtain rfl:=Pbu ho;exact⟨⟨trivial,hl,hi,[],by simp⟩,fun a w G Q hR hQ=>wp_skip (hQ a w G hR)⟩
 | .label _, ex, live, s, t, ρ, o, h, ho, hl, hi => by
  simp only[sxC,Ob0]at h;subst h;rw[fD]at ho;obtain rfl:=Pbu ho;exact⟨⟨trivial,hl,hi,[],by simp⟩,fun a w G Q hR hQ=>wp_label (hQ a w G hR)⟩
 | .ret, ex, live, s, t, ρ, o, h, ho, hl, hi => by
  simp only[sxC,Ob0]at h;subst h;rw[fD]at ho;obtain rfl:=Pbu ho;exact⟨⟨trivial,hl,hi,[],by simp⟩,fun a w G Q hR hQ=>wp_ret (hQ a w G hR)⟩
 | .exit id, ex, live, s, t, ρ, o, h, ho, hl, hi => by
  simp only[sxC,Ob0]at h;subst h;rw[fD]at ho;obtain rfl:=Pbu ho;exact⟨⟨trivial,hl,hi,[],by simp⟩,fun a w G Q hR hQ=>wp_exit (hQ a w G hR)⟩
 | .region jv ops draw, ex, live, s, t, ρ, o, h, ho, hl, hi => by
  simp only[sxC,Ob0]at h;subst h;obtain⟨⟨h1,h2,h3,h4⟩,h5⟩:=Kav hti b7 hm ho hl hi
  exact⟨⟨by rw[h1];trivial,h2,h3,h4⟩,fun a w G Q hR hQ=>h5 a w G Q hR fun a' w' G' gw=>by
   have:=hQ a' w' G' gw;rw[h1]at this;exact this⟩
 | .seq a b, ex, live, s, t, ρ, o, h, ho, hl, hi => by
  simp only[sxC,bind,Oby]at h;obtain⟨ta,hta,h⟩:=h;have yu:=fun {o1:Out St} (h1:Ec cf ta ρ=some o1)=>nY hF hti b7 hm a hta h1 hl hi
  have la:∀ o1:Out St,Post E ρ o1->Wp P E F a s ρ o1->o1.kind≠.fall->Wp P E F (.seq a b) s ρ o1:=by
   intro o1 hp hw hk a' w G Q hR hQ;refine wp_seq (hw a' w G _ hR fun a1 w1 G1 qg=>?_);have:=hQ a1 w1 G1 qg
   revert this hk
   have:=hp.nice
   revert this
   cases o1.kind<;>intro h1 h2 h3<;>first|exact h1.elim|exact (h2 rfl).elim|exact h3
  cases ub:ta.no nG with
  | true =>
   rw[ub,cond_true,Ob0]at h;subst h;obtain⟨hp,hw⟩:=yu ho;exact⟨hp,la o hp hw fun e=>by have:=tO ub ho;rw[e]at this;cases this⟩
  | false =>
   rw[ub,cond_false]at h
   have eI:∀ {o1:Out St} {s2:St} {tb:Tm St} {ρ2:List D},Ec cf ta ρ=some o1->o1.kind=.fall->sxC E false rb b ex live s2=some tb->Ec cf tb ρ2=some o->ρ2.length=s2.nv->Aar E s2->(∃ ds,ρ2=ρ++ds) ->
     (∀ a w G,R E.ntmps F o1.ext.get o1.env a w G->∃ G',R E.ntmps F s2.get ρ2 a w G')->Post E ρ o/\Wp P E F (.seq a b) s ρ o:=by
    intro o1 s2 tb ρ2 h1 hk h2 h3 h4 h5 ⟨ds,h6⟩ h7;obtain⟨hp,hw⟩:=nY hF hti b7 hm b h2 h3 h4 h5;obtain⟨hp1,y3⟩:=yu h1;subst h6;refine⟨hp.trans,fun a' w G Q hR hQ=>wp_seq (y3 a' w G _ hR fun a1 w1 G1 qg=>?_)⟩;rw[hk];obtain⟨G2,xq⟩:=h7 a1 w1 G1 qg;exact hw a1 w1 G2 Q xq hQ
   split at h
   ·obtain⟨o1,h1,h2⟩:=nQ h ho
    rcases h2 with ⟨h3,tb,h4,h5⟩|⟨h3,h4⟩
    ·obtain⟨hp,-⟩:=yu h1
     exact eI h1 h3 h4 h5 hp.len hp.inv hp.pre fun a w G hR=>⟨G,hR⟩
    ·subst h4
     obtain⟨hp,hw⟩:=yu h1;exact⟨hp,la _ hp hw h3⟩
   ·simp only[Oby]at h
    obtain⟨⟨t',τ⟩,hj,k,hk,h⟩:=h;simp only[Ob0]at h;subst h;obtain⟨o1,h1,h2⟩:=Uax hF hj rfl (fun _=>rfl) ho hl fun o1 h1=>(yu h1).1
    rcases h2 with ⟨h3,vals,h4,h5,h6,h7⟩|⟨h3,h4⟩
    ·exact eI h1 (Ha4.1 h3) hk h4 h5 h6 ⟨vals,rfl⟩ fun a w G hR=>h7 a w G hR
    ·subst h4
     obtain⟨hp,hw⟩:=yu h1;exact⟨hp,la _ hp hw fun e=>by rw[e]at h3;cases h3⟩
 | .cond c a b, ex, live, s, t, ρ, o, h, ho, hl, hi => by
  simp only[sxC]at h
  have yr:∀ v,Va0 c=some v->c=.const (.bool v):=by
   intro v hv;unfold Va0 at hv;split at hv
   ·cases hv;rfl
   ·cases hv
  split at h
  ·rename_i hc
   obtain rfl:=yr _ hc;obtain⟨hp,hw⟩:=nY hF hti b7 hm a h ho hl hi;exact⟨hp,fun a' w G Q hR hQ=>wp_cond_true rfl (hw a' w G Q hR hQ)⟩
  ·rename_i hc
   obtain rfl:=yr _ hc;obtain⟨hp,hw⟩:=nY hF hti b7 hm b h ho hl hi;exact⟨hp,fun a' w G Q hR hQ=>wp_cond_false rfl (hw a' w G Q hR hQ)⟩
  rename_i hcn;clear hcn yr;split at h
  ·rename_i x tt hk
   cases hb:(aX s.nv x&&Qbg tt E.ntmps) with
   | false =>
    rw[hb]at h;simp only[Bool.not_false,cond_true,Ob0]at h;subst h;rw[iM]at ho;cases ho
   | true =>
    rw[hb]at h;simp only[Qbz,cond_false,bind,Oby,Ob0]at h;obtain⟨ta,hta,tb,htb,rfl⟩:=h;simp only[Obz,Pb2]at hb
    have hev:∀ a' w G,R E.ntmps F s.get ρ a' w G->Sc (a'.eval (.tmp tt)) (x.val ρ):=by
     intro a' w G hR;have:=hR.slot hk rfl;simp only[bS,aB,yA]at this;rw[if_pos hb.2]at this
     have e:a'.eval (.tmp tt)=a'.tmps.getD tt undef:=by
      simp[Act.eval,Pb3]
     rw[e];exact this
    rw[Cau]at ho;split at ho
    ·rename_i hx
     obtain⟨hp,hw⟩:=nY hF hti b7 hm a hta ho hl hi;refine⟨hp,fun a' w G Q hR hQ=>wp_cond_true ?_ (hw a' w G Q hR hQ)⟩;have:=hev a' w G hR;rw[hx]at this;exact this.bool_inv
    ·rename_i hx
     obtain⟨hp,hw⟩:=nY hF hti b7 hm b htb ho hl hi;refine⟨hp,fun a' w G Q hR hQ=>wp_cond_false ?_ (hw a' w G Q hR hQ)⟩;have:=hev a' w G hR;rw[hx]at this;exact this.bool_inv
    ·cases ho
  ·simp only[Ob0]at h
   subst h;rw[iM]at ho;cases ho
 | .block id b, ex, live, s, t, ρ, o, h, ho, hl, hi => by
  simp only[sxC,bind,Oby]at h;obtain⟨tb,htb,h⟩:=h;have zj:=fun {o1:Out St} (h1:Ec cf tb ρ=some o1)=>nY hF hti b7 hm b htb h1 hl hi
  have la:∀ o1:Out St,Post E ρ o1->Wp P E F b s ρ o1->mW id o1.kind=false->Wp P E F (.block id b) s ρ o1:=by
   intro o1 hp hw hk a' w G Q hR hQ;refine wp_block (hw a' w G _ hR fun a1 w1 G1 qg=>?_);have:=hQ a1 w1 G1 qg
   revert this hk
   have:=hp.nice
   revert this
   cases o1.kind with
   | exit j =>
    intro h1 h2 h3;simp only[Vak,Exit.inBlock];rw[if_neg]
    ·exact h3
    ·intro e
     simp[mW,e]at h2
   |fall=>exact fun h1 h2 h3=>h3
   |ret=>exact fun h1 h2 h3=>h3
   |cont=>exact fun h1 h2 h3=>h1.elim
   |yield i=>exact fun h1 h2 h3=>h1.elim
  cases ub:tb.no (mW id) with
  | true =>
   rw[ub,cond_true,Ob0]at h;subst h;obtain⟨hp,hw⟩:=zj ho;exact⟨hp,la o hp hw (tO ub ho)⟩
  | false =>
   rw[ub,cond_false]at h
   have ue:∀ {o1:Out St} {o:Out St},Ec cf tb ρ=some o1->Ma9 id o1.kind=true->o.kind=.fall->(∀ a w G,R E.ntmps F o1.ext.get o1.env a w G->∃ G',R E.ntmps F o.ext.get o.env a w G')->Wp P E F (.block id b) s ρ o:=by
    intro o1 o h1 hk ho hg a' w G Q hR hQ;obtain⟨hp,hw⟩:=zj h1;refine wp_block (hw a' w G _ hR fun a1 w1 G1 qg=>?_);obtain⟨G2,xq⟩:=hg a1 w1 G1 qg;have:=hQ a1 w1 G2 xq;rw[ho]at this
    revert hk
    cases o1.kind with
    | exit j =>
     intro hk;simp only[Ma9,Pbq]at hk;simp only[Vak,Exit.inBlock];rw[if_pos hk.symm];exact this
    |fall=>exact fun _=>this
    |ret=>intro hk;cases hk
    |cont=>intro hk;cases hk
    |yield i=>intro hk;cases hk
   split at h
   ·obtain⟨o1,h1,h2⟩:=iQ h ho
    obtain⟨hp,hw⟩:=zj h1
    rcases h2 with ⟨h3,h4⟩|⟨h3,h4⟩
    ·subst h4
     refine⟨⟨trivial,hp.len,hp.inv,hp.pre⟩,ue h1 ?_ rfl fun a w G hR=>⟨G,hR⟩⟩
     revert h3
     cases o1.kind<;>simp[mW,Ma9]
    ·subst h4
     exact⟨hp,la _ hp hw h3⟩
   ·simp only[Oby]at h
    obtain⟨⟨t',τ⟩,hj,h⟩:=h;simp only[Ob0]at h;subst h;obtain⟨o1,h1,h2⟩:=Uax hF hj rfl (fun _=>rfl) ho hl fun o1 h1=>(zj h1).1
    rcases h2 with ⟨h3,vals,h4,h5,h6,h7⟩|⟨h3,h4⟩
    ·rw[fD]at h4
     obtain rfl:=Pbu h4;exact⟨⟨trivial,h5,h6,vals,rfl⟩,ue h1 h3 rfl fun a w G hR=>h7 a w G hR⟩
    ·subst h4
     obtain⟨hp,hw⟩:=zj h1;refine⟨hp,la _ hp hw ?_⟩
     revert h3
     cases o.kind<;>simp[mW,Ma9]
 | .loop b, ex, live, s, t, ρ, o, h, ho, hl, hi => by
  simp only[sxC]at h;split at h
  ·exact Ga3 hF (fun h1 h2 h3 h4=>nY hF hti b7 hm b h1 h2 h3 h4) (Laq h) ho hl hi
  ·exact Ga3 hF (fun h1 h2 h3 h4=>nY hF hti b7 hm b h1 h2 h3 h4) (Eax h) ho hl hi
 | .scope _, ex, live, s, t, ρ, o, h, ho, hl, hi => by
  simp only[sxC,Ob0]at h;subst h;rw[iM]at ho;cases ho
 | .goto _, ex, live, s, t, ρ, o, h, ho, hl, hi => by
  simp only[sxC,Ob0]at h;subst h;rw[iM]at ho;cases ho
 | .rangeFunc _ _ _ _, ex, live, s, t, ρ, o, h, ho, hl, hi => by
  simp only[sxC,Ob0]at h;subst h;rw[iM]at ho;cases ho
 | .refuse _, ex, live, s, t, ρ, o, h, ho, hl, hi => by
  simp only[sxC,Ob0]at h;subst h;rw[iM]at ho;cases ho
end
end Go.Proofs.YtcbkmmhkccnamaaGreat.Rf
