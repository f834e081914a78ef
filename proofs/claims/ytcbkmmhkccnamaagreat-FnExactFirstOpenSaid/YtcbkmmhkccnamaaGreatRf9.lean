import Derived.Test.YtcbkmmhkccnamaaGreatRf8
set_option linter.all false
open Bool renaming and_eq_true → Obz, false_eq_true → Ob9, or_eq_true → Qbb
open List renaming mem_append_left → Ob1, getElem?_eq_some_iff → Ob2, mem_singleton → Ob3, mem_append_right → Ob4, getElem?_eq_getElem → Ob5, mem_cons → Ob8, getD_eq_getElem?_getD → Pba, mem_cons_of_mem → Pbb, append_assoc → Pbd, mem_append → Pbe, mem_cons_self → Pbf, length_append → Pbg, replicate → Pbp, length_map → Pbt, all_eq_true → Pbv, append_nil → Pbz, mem_map → Pb5, length_cons → Pb9, mem_map_of_mem → Qbi, mem_iff_getElem? → Qbl, length_take → Qbs, mem_filter → Qbu, length_replicate → Qbv, pairwise_cons → Qb1, any_eq_true → Qb3, length_nil → Qb4, mem_iff_getElem → Qb5, foldl_cons → Qb7, length_drop → Rba, take_append_drop → Rbc, mem_of_mem_drop → Rbe, getElem_mem → Rbg, mem_range → Rbr, map_append → Rbs, range → Rbx, length_filter_le → Rb0, pairwise_map → Rb4, getElem_append_left → Rb7
open List.cons renaming injEq → Qbf
open Nat renaming le_refl → Pbj, lt_or_ge → Pbo, le_trans → Pb8, zero_le → Qbn
namespace Go.Proofs.YtcbkmmhkccnamaaGreat.Rf
def prL (y:List Int):Int×Int:=(atI y 0,atI y 1)
def toL (p:Int×Int):List Int:=[p.1,p.2]
theorem sN {y:List Int}(h:y.length=2):toL (prL y)=y:=by
 match y,h with
 |[a,b],_=>rfl
theorem Ta6 (p:Int×Int):prL (toL p)=p:=rfl
def ltL (y z:List Int):Prop:=ltQ (prL y) (prL z)=true
theorem oD {y z:List Int}:ltL y z↔atI y 0<atI z 0\/(atI y 0=atI z 0/\atI y 1<atI z 1):=Ia7
def uV (l:List (List Int)):Prop:=l.Pairwise ltL
theorem yK:∀ {xs ys:List (List Int)},uV xs->uV ys->(∀ x,x∈xs↔x∈ys)->xs=ys
 |[],[],_,_,_=>rfl
 |[],y::ys,_,_,h=>by have:=(h y).2 Pbf;cases this
 |x::xs,[],_,_,h=>by have:=(h x).1 Pbf;cases this
 | x :: xs, y :: ys, hx, hy, h => by
  unfold uV at hx hy;rw[Qb1]at hx hy
  have e:x=y:=by
   rcases Ob8.1 ((h x).1 Pbf) with h1|h1
   ·exact h1
   ·rcases Ob8.1 ((h y).2 Pbf) with h2|h2
    ·exact h2.symm
    ·have h3:=oD.1 (hx.1 y h2)
     have h4:=oD.1 (hy.1 x h1);omega
  subst e;congr 1;refine yK hx.2 hy.2 fun z=>?_
  constructor
  ·intro hz
   rcases Ob8.1 ((h z).1 (Pbb _ hz)) with h1|h1
   ·subst h1
    have:=oD.1 (hx.1 z hz);omega
   ·exact h1
  ·intro hz
   rcases Ob8.1 ((h z).2 (Pbb _ hz)) with h1|h1
   ·subst h1
    have:=oD.1 (hy.1 z hz);omega
   ·exact h1
theorem Eag {l:List (List Int)}(h2:∀ y∈l,y.length=2)(hn:l.Nodup):uV ((wB id (l.map prL)).map toL)/\∀ y,y∈(wB id (l.map prL)).map toL↔y∈l:=by
 have hp:=oM id (l.map prL);have hs:=sU id (l.map prL)
 have y9:(l.map prL).Nodup:=by
  unfold List.Nodup;rw[Rb4];refine List.Pairwise.imp_of_mem (fun {a b} ha hb qe e=>qe ?_) hn;rw[<- sN (h2 a ha),<- sN (h2 b hb),e]
 have a5q:(wB id (l.map prL)).Nodup:=hp.nodup_iff.2 y9;constructor
 ·unfold uV
  rw[Rb4];have h3:=List.pairwise_and_iff.2 ⟨hs,a5q⟩;refine h3.imp fun {a b} qe=>?_
  unfold ltL;rw[Ta6,Ta6];have h4:ltQ b a=false:=qe.1
  cases h5:ltQ a b with
  |true=>rfl
  |false=>exact absurd (Pa4 h5 h4) qe.2
 ·intro y
  rw[Pb5];constructor
  ·rintro⟨p,hp1,rfl⟩
   obtain⟨z,hz,rfl⟩:=Pb5.1 (hp.mem_iff.1 hp1);rw[sN (h2 z hz)];exact hz
  ·intro hy
   exact⟨prL y,hp.mem_iff.2 (Pb5.2 ⟨y,hy,rfl⟩),sN (h2 y hy)⟩
theorem Paw (l:List (Int×Int)):rL (l.map toL)=.rows 1 (l.map fun p=>[Ear p]):=by
 simp only[rL,List.map_map];rfl
theorem Cbo {l:List (List Int)}(h2:∀ y∈l,y.length=2)(hl:l.length<=1000000):Eah [rL l]=some [rL ((wB id (l.map prL)).map toL)]:=by
 have e:l=(l.map prL).map toL:=by
  rw[List.map_map]
  conv=>lhs;rw[<- List.map_id l]
  exact List.map_congr_left fun y hy=>(sN (h2 y hy)).symm
 have e1:rL l=.rows 1 ((l.map prL).map fun p=>[Ear p]):=by rw[<- Paw,<- e]
 rw[e1,Paw];simp only[Eah,Hag,Option.bind_some];rw[if_pos (by rw[Pbt];exact hl)]
def fB (n:Int)(y:List Int):Prop:=y.length=2/\inst n (atI y 0) (atI y 1)=true
def kI (n:Nat):List (List Int):=(Rbx n).flatMap fun k:Nat=>(Rbx 6).map fun i:Nat=>[(k:Int),(i:Int)+1]
theorem rD {n:Nat}{y:List Int}:y∈kI n↔fB n y:=by
 unfold kI fB;simp only[List.mem_flatMap,Rbr,Pb5];constructor
 ·rintro⟨k,hk,i,hi,rfl⟩
  refine⟨rfl,?_⟩;simp only[atI,inst,inR,Obz,decide_eq_true_eq];simp;omega
 ·rintro⟨h1,h2⟩
  match y,h1 with
  | [a, b], _ =>
   have h3:=gF h2;simp only[atI]at h3;simp at h3;refine⟨a.toNat,by omega,(b-1).toNat,by omega,?_⟩;rw[show ((a.toNat:Nat):Int)=a by omega,show (((b-1).toNat:Nat):Int)=b-1 by omega,show b-1+1=b by omega]
theorem xW (n:Nat):(kI n).length=6*n:=by
 unfold kI;rw[List.length_flatMap];simp[List.map_const'];omega
theorem Cas (n:Nat):uV (kI n):=by
 unfold uV kI;rw[List.pairwise_flatMap];refine⟨fun k hk=>?_,?_⟩
 ·rw[Rb4]
  refine List.pairwise_lt_range.imp fun {a b} qe=>?_
  rw[oD];simp[atI];omega
 ·refine List.pairwise_lt_range.imp fun {a b} qe=>?_
  intro x hx y hy;obtain⟨i,hi,rfl⟩:=Pb5.1 hx;obtain⟨j,hj,rfl⟩:=Pb5.1 hy;rw[oD];simp[atI];omega
theorem oV {α:Type}[DecidableEq α]:∀ {l m:List α},l.Nodup->(∀ x∈l,x∈m)->l.length<=m.length
 |[],_,_,_=>Qbn _
 | x :: l, m, hn, hs => by
  rw[List.nodup_cons]at hn;have hx:=hs x Pbf
  have:=oV (l:=l) (m:=m.erase x) hn.2 fun y hy=>by
   have ct:y≠x:=fun e=>hn.1 (by rw[<- e];exact hy)
   exact (List.mem_erase_of_ne ct).2 (hs y (Pbb _ hy))
  have h1:=List.length_erase_of_mem hx;have h2:=List.length_pos_of_mem hx;simp only[Pb9];omega
theorem qK {n:Int}{l:List (List Int)}(hg:eF n=true)(hn:l.Nodup)(h:∀ y∈l,fB n y):l.length<=30:=by
 have h1:=bL hg;have e:((n.toNat:Nat):Int)=n:=by omega
 have:=oV hn (m:=kI n.toNat) fun y hy=>rD.2 (by rw[e];exact h y hy)
 rw[xW]at this;omega
def Ua6 (k:Int)(m:Nat):List (List Int):=(Rbx m).map fun i:Nat=>[k,(i:Int)+1]
def Bbw (deps:List Int)(m:Nat):List (List Int):=(Rbx m).flatMap fun k:Nat=>Ua6 k (atI deps (k:Int)).toNat
def Ca3 (t:aU)(x:List Int):List (List Int):=Bbw (dK t (atI x 0) (atI x 1)).attr.deps (dK t (atI x 0) (atI x 1)).attr.deps.length
theorem La7 {deps:List Int}{m:Nat}{y:List Int}:y∈Bbw deps m↔∃ k i:Nat,k<m/\(i:Int)<atI deps (k:Int)/\y=[(k:Int),(i:Int)+1]:=by
 unfold Bbw Ua6;simp only[List.mem_flatMap,Rbr,Pb5];constructor
 ·rintro⟨k,hk,i,hi,rfl⟩
  exact⟨k,i,hk,by omega,rfl⟩
 ·rintro⟨k,i,hk,hi,rfl⟩
  exact⟨k,hk,i,by omega,rfl⟩
theorem Ra9 {t:aU}(ht:fU t=true){x y:List Int}(hx:fB t.n x)(hy:y∈Ca3 t x):fB t.n y:=by
 unfold Ca3 at hy;obtain⟨k,i,hk,hi,rfl⟩:=La7.1 hy;have h1:=Tac ht hx.2;have h2:=Raq (Nag ht hx.2) (bX ht) _ (at_mem hk);refine⟨rfl,?_⟩;simp only[atI,inst,inR,Obz,decide_eq_true_eq]at h2 ⊢;simp only[atI]at hi;simp;omega
theorem Mat {t:aU}{x y:List Int}(hx:x.length=2):y∈Ibo t (atI x 0) (atI x 1)↔y∈Ca3 t x/\y≠x:=by
 unfold Ibo Ca3;rw[Zab,La7]
 match x,hx with
 | [a, b], _ =>
  constructor
  ·rintro⟨k,i,h1,h2,h3,rfl⟩
   refine⟨⟨k,i,h1,h2,rfl⟩,fun e=>h3 ?_⟩;simp only[Qbf,and_true]at e;exact e
  ·rintro⟨⟨k,i,h1,h2,rfl⟩,ct⟩
   refine⟨k,i,h1,h2,fun e=>ct ?_,rfl⟩;have e1:(k:Int)=a:=e.1;have e2:(i:Int)+1=b:=e.2;rw[e1,e2]
def Ma0 (t:aU)(y:List Int):Bool:=(dK t (atI y 0) (atI y 1)).state==3
inductive Dao (t:aU) (x:List Int):List Int->Prop
 |base:Dao t x x
 |step {z y:List Int} (h:Dao t x z) (hc:Ma0 t z=true) (hy:y∈Ca3 t z):Dao t x y
theorem Dao.inst {t:aU}(ht:fU t=true){x y:List Int}(hx:fB t.n x)(h:Dao t x y):fB t.n y:=by
 induction h with
 |base=>exact hx
 |step _ _ hy ih=>exact Ra9 ht ih hy
open Classical in
noncomputable def Faz (t:aU)(x:List Int):List (List Int):=(kI t.n.toNat).filter fun y=>decide (Dao t x y/\Ma0 t y=false)
theorem Fay (t:aU)(x:List Int):uV (Faz t x):=by
 unfold Faz;exact (Cas _).filter _
open Classical in
theorem Ha1 {t:aU}(ht:fU t=true){x y:List Int}(hx:fB t.n x):y∈Faz t x↔Dao t x y/\Ma0 t y=false:=by
 have h1:=bL (bX ht);have e:((t.n.toNat:Nat):Int)=t.n:=by omega
 unfold Faz;rw[Qbu,decide_eq_true_eq,rD,e];exact⟨fun h=>h.2,fun h=>⟨h.1.inst ht hx,h⟩⟩
theorem xD {l:List (List Int)}(h:uV l):l.Nodup:=by
 unfold uV at h;refine h.imp fun {a b} qe e=>?_
 subst e;have:=oD.1 qe;omega
structure BSt where
 met:List (List Int)
 out:List (List Int)
 wait:List (List Int)
def Ha2 (t:aU)(s:BSt)(y:List Int):BSt:=if s.met.any (fun z=>decide (y=z)) then s else if Ma0 t y then ⟨s.met++[y],s.out,s.wait++[y]⟩ else ⟨s.met++[y],s.out++[y],s.wait⟩
def Ibr (t:aU)(s:BSt):BSt:=let r:=(Ca3 t (atI s.wait 0)).foldl (Ha2 t) s;⟨r.met,r.out,r.wait.drop 1⟩
structure BPre (t:aU) (x:List Int) (s:BSt):Prop where
 base:x∈s.met
 nd:s.met.Nodup
 rch:∀ y∈s.met,Dao t x y
 out:∀ y,y∈s.out↔y∈s.met/\Ma0 t y=false
 ond:s.out.Nodup
 wm:∀ y∈s.wait,y∈s.met/\Ma0 t y=true
structure BInv (t:aU) (x:List Int) (s:BSt):Prop extends BPre t x s where
 cl:∀ z∈s.met,Ma0 t z=true->z∈s.wait\/∀ y∈Ca3 t z,y∈s.met
theorem Baq {l:List (List Int)}{y:List Int}:(l.any fun z=>decide (y=z))=true↔y∈l:=by
 rw[Qb3];constructor
 ·rintro⟨z,h1,h2⟩
  rw[of_decide_eq_true h2];exact h1
 ·exact fun h=>⟨y,h,by simp⟩
theorem Jaz {l:List (List Int)}{y:List Int}(h:y∉l):(l.any fun z=>decide (y=z))=false:=by
 cases e:l.any fun z=>decide (y=z) with
 |false=>rfl
 |true=>exact absurd (Baq.1 e) h
theorem oU {l:List (List Int)}{y:List Int}(h:l.Nodup)(hy:y∉l):(l++[y]).Nodup:=by
 rw[List.nodup_append];refine⟨h,by simp,fun a ha b hb e=>?_⟩;rw[Ob3.1 hb]at e;exact hy (e▸ha)
theorem Wag {t:aU}{x:List Int}{s:BSt}(h:BPre t x s){y:List Int}(hy:Dao t x y) :
  BPre t x (Ha2 t s y)/\y∈(Ha2 t s y).met/\(∀ z∈s.met,z∈(Ha2 t s y).met)/\(∃ w,(Ha2 t s y).wait=s.wait++w)/\(∀ z∈(Ha2 t s y).met,Ma0 t z=true->z∈(Ha2 t s y).wait\/z∈s.met) /\
   (Ha2 t s y).wait.length+s.met.length<=s.wait.length+(Ha2 t s y).met.length:=by
 unfold Ha2;by_cases hm:y∈s.met
 ·rw[Baq.2 hm,if_pos rfl]
  exact⟨h,hm,fun z hz=>hz,⟨[],by simp⟩,fun z hz _=>.inr hz,Pbj _⟩
 ·rw[Jaz hm]
  simp only[Ob9,if_false];have b9:∀ z,z∈s.met++[y]↔z∈s.met\/z=y:=fun z=>by simp
  cases hc:Ma0 t y with
  | true =>
   simp only[if_true];refine⟨⟨Ob1 _ h.base,oU h.nd hm,fun z hz=>?_,fun z=>?_,h.ond,fun z hz=>?_⟩,by simp,fun z hz=>Ob1 _ hz,⟨[y],rfl⟩,fun z hz _=>?_,by simp<;>omega⟩
   ·rcases (b9 z).1 hz with hz|rfl
    ·exact h.rch z hz
    ·exact hy
   ·rw[h.out,b9]
    constructor
    ·exact fun ⟨h1,h2⟩=>⟨.inl h1,h2⟩
    ·rintro⟨h1|rfl,h2⟩
     ·exact⟨h1,h2⟩
     ·rw[hc]at h2;cases h2
   ·rcases Pbe.1 hz with hz|hz
    ·exact⟨Ob1 _ (h.wm z hz).1,(h.wm z hz).2⟩
    ·rw[Ob3.1 hz]
     exact⟨by simp,hc⟩
   ·rcases (b9 z).1 hz with hz|rfl
    ·exact .inr hz
    ·exact .inl (by simp)
  | false =>
   simp only[Ob9,if_false];refine⟨⟨Ob1 _ h.base,oU h.nd hm,fun z hz=>?_,fun z=>?_,oU h.ond (fun hz=>hm ((h.out y).1 hz).1),fun z hz=>?_⟩,by simp,fun z hz=>Ob1 _ hz,⟨[],by simp⟩,fun z hz hcz=>?_,by simp<;>omega⟩
   ·rcases (b9 z).1 hz with hz|rfl
    ·exact h.rch z hz
    ·exact hy
   ·rw[Pbe,h.out,b9,Ob3]
    constructor
    ·rintro (⟨h1,h2⟩|rfl)
     ·exact⟨.inl h1,h2⟩
     ·exact⟨.inr rfl,hc⟩
    ·rintro⟨h1|rfl,h2⟩
     ·exact .inl ⟨h1,h2⟩
     ·exact .inr rfl
   ·exact⟨Ob1 _ (h.wm z hz).1,(h.wm z hz).2⟩
   ·rcases (b9 z).1 hz with hz|rfl
    ·exact .inr hz
    ·rw[hc]at hcz;cases hcz
theorem Ma7 {t:aU}{x:List Int}:∀ {ys:List (List Int)} {s:BSt},BPre t x s->(∀ y∈ys,Dao t x y) ->
  BPre t x (ys.foldl (Ha2 t) s)/\(∀ y∈ys,y∈(ys.foldl (Ha2 t) s).met)/\(∀ z∈s.met,z∈(ys.foldl (Ha2 t) s).met)/\(∃ w,(ys.foldl (Ha2 t) s).wait=s.wait++w)/\(∀ z∈(ys.foldl (Ha2 t) s).met,Ma0 t z=true->z∈(ys.foldl (Ha2 t) s).wait\/z∈s.met) /\
   (ys.foldl (Ha2 t) s).wait.length+s.met.length<=s.wait.length+(ys.foldl (Ha2 t) s).met.length
 |[],s,h,_=>⟨h,by simp,fun z hz=>hz,⟨[],by simp⟩,fun z hz _=>.inr hz,Pbj _⟩
 | y :: ys, s, h, hr => by
  obtain⟨h1,h2,h3,⟨w,h4⟩,h5,h6⟩:=Wag h (hr y Pbf);obtain⟨k1,k2,k3,⟨w',k4⟩,k5,k6⟩:=Ma7 (ys:=ys) h1 fun z hz=>hr z (Pbb _ hz)
  rw[Qb7];refine⟨k1,fun z hz=>?_,fun z hz=>k3 z (h3 z hz),⟨w++w',by rw[k4,h4,Pbd]⟩,fun z hz hc=>?_,by omega⟩
  ·rcases Ob8.1 hz with rfl|hz
   ·exact k3 _ h2
   ·exact k2 z hz
  ·rcases k5 z hz hc with h7|h7
   ·exact .inl h7
   ·rcases h5 z h7 hc with h8|h8
    ·exact .inl (by rw[k4];exact Ob1 _ h8)
    ·exact .inr h8
theorem BInv.step {t:aU}{x:List Int}{s:BSt}(h:BInv t x s)(hw:s.wait≠[]):BInv t x (Ibr t s)/\(Ibr t s).wait.length+s.met.length<s.wait.length+(Ibr t s).met.length:=by
 obtain⟨z,w,e⟩:∃ z w,s.wait=z::w:=by
  cases hs:s.wait with
  |nil=>exact absurd hs hw
  |cons z w=>exact⟨z,w,rfl⟩
 have wo:atI s.wait 0=z:=by rw[e];rfl
 obtain⟨hzm,yt⟩:=h.wm z (by rw[e];exact Pbf);have hr:∀ y∈Ca3 t z,Dao t x y:=fun y hy=>.step (h.rch z hzm) yt hy
 obtain⟨k1,k2,k3,⟨w',k4⟩,k5,k6⟩:=Ma7 (ys:=Ca3 t z) h.toBPre hr;have k4':((Ca3 t z).foldl (Ha2 t) s).wait.drop 1=w++w':=by rw[k4,e];rfl
 unfold Ibr;rw[wo];dsimp only;refine⟨⟨⟨k1.base,k1.nd,k1.rch,k1.out,k1.ond,fun y hy=>k1.wm y (Rbe hy)⟩,fun y hy hc=>?_⟩,?_⟩
 ·dsimp only at hy ⊢
  by_cases hyz:y=z
  ·subst hyz
   exact .inr k2
  ·rw[k4']
   rcases k5 y hy hc with h1|h1
   ·rw[k4,e]at h1
    rcases Pbe.1 h1 with h1|h1
    ·rcases Ob8.1 h1 with h1|h1
     ·exact absurd h1 hyz
     ·exact .inl (Ob1 _ h1)
    ·exact .inl (Ob4 _ h1)
   ·rcases h.cl y h1 hc with h2|h2
    ·rw[e]at h2
     rcases Ob8.1 h2 with h2|h2
     ·exact absurd h2 hyz
     ·exact .inl (Ob1 _ h2)
    ·exact .inr fun u hu=>k3 u (h2 u hu)
 ·have:0<((Ca3 t z).foldl (Ha2 t) s).wait.length:=by rw[k4,e];simp<;>omega
  rw[Rba];omega
theorem BInv.start {t:aU}{x:List Int}(hc:Ma0 t x=true):BInv t x ⟨[x],[],[x]⟩:=by
 refine⟨⟨by simp,by simp,fun y hy=>?_,fun y=>?_,by simp,fun y hy=>?_⟩,fun z hz _=>.inl hz⟩
 ·rw[Ob3.1 hy];exact .base
 ·constructor
  ·intro hy;cases hy
  ·rintro⟨h1,h2⟩
   rw[Ob3.1 h1,hc]at h2;cases h2
 ·rw[Ob3.1 hy]
  exact⟨by simp,hc⟩
theorem BInv.done {t:aU}(ht:fU t=true){x:List Int}(hx:fB t.n x){s:BSt}(h:BInv t x s)(hw:s.wait=[]):(wB id (s.out.map prL)).map toL=Faz t x:=by
 have cE:∀ y,Dao t x y->y∈s.met:=by
  intro y hy
  induction hy with
  |base=>exact h.base
  | step _ hc hy ih =>
   rcases h.cl _ ih hc with h1|h1
   ·rw[hw]at h1;cases h1
   ·exact h1 _ hy
 obtain⟨h1,h2⟩:=Eag (l:=s.out) (fun y hy=>((h.rch y ((h.out y).1 hy).1).inst ht hx).1) h.ond;refine yK h1 (Fay t x) fun y=>?_
 rw[h2,h.out,Ha1 ht hx];exact⟨fun ⟨h3,h4⟩=>⟨h.rch y h3,h4⟩,fun ⟨h3,h4⟩=>⟨cE y h3,h4⟩⟩
theorem BPre.len {t:aU}(ht:fU t=true){x:List Int}(hx:fB t.n x){s:BSt}(h:BPre t x s):s.met.length<=30/\s.out.length<=30:=by
 have h1:=qK (bX ht) h.nd fun y hy=>(h.rch y hy).inst ht hx
 have h2:=qK (bX ht) h.ond fun y hy=>(h.rch y ((h.out y).1 hy).1).inst ht hx
 exact⟨h1,h2⟩
def gtL (y x:List Int):Bool:=decide (atI x 0<atI y 0)||((atI y 0==atI x 0)&&decide (atI x 1<atI y 1))
def Dak (l:List (List Int))(x:List Int):Nat->Nat
 |0=>0
 |k+1=>if gtL (atI l (k:Int)) x then Dak l x k else k+1
def Eb9 (l:List (List Int))(x:List Int):List (List Int):=l.take (Dak l x l.length)++[x]++l.drop (Dak l x l.length)
theorem Ua3 (l:List (List Int))(x:List Int):∀ m,Dak l x m<=m
 |0=>Pbj _
 | m + 1 => by
  unfold Dak;split
  ·exact Nat.le_succ_of_le (Ua3 l x m)
  ·exact Pbj _
theorem Ua4 {l:List (List Int)}{x:List Int}:∀ {m j:Nat},Dak l x m<=j->j<m->gtL (atI l (j:Int)) x=true
 |0,j,_,h=>by omega
 | m + 1, j, h, hj => by
  unfold Dak at h;split at h
  ·rename_i hg
   rcases Pbo j m with h1|h1
   ·exact Ua4 h h1
   ·obtain rfl:j=m:=by omega
    exact hg
  ·omega
theorem Ua2 {l:List (List Int)}{x:List Int}:∀ {m:Nat},0<Dak l x m->gtL (atI l ((Dak l x m-1:Nat):Int)) x=false
 |0,h=>by simp[Dak]at h
 | m + 1, h => by
  unfold Dak at h ⊢;split
  ·rename_i hg
   rw[if_pos hg]at h;exact Ua2 h
  ·rename_i hg
   simpa using hg
theorem Ua9 {y x:List Int}:gtL y x=true↔ltL x y:=by
 rw[oD];unfold gtL;simp only[Qbb,Obz,decide_eq_true_eq,beq_iff_eq];omega
theorem Jaj {l:List (List Int)}{x y:List Int}:y∈Eb9 l x↔y∈l\/y=x:=by
 unfold Eb9
 have e:∀ k,y∈l.take k++[x]++l.drop k↔y∈l\/y=x:=by
  intro k;have h:=Rbc k l;rw[Pbd,Pbe,Pbe,Ob3];constructor
  ·rintro (h1|h1|h1)
   ·exact .inl (List.mem_of_mem_take h1)
   ·exact .inr h1
   ·exact .inl (Rbe h1)
  ·rintro (h1|h1)
   ·rw[<- h]at h1
    rcases Pbe.1 h1 with h1|h1
    ·exact .inl h1
    ·exact .inr (.inr h1)
   ·exact .inr (.inl h1)
 exact e _
theorem Ua1 {l:List (List Int)}{x:List Int}(h:uV l)(h2:∀ y∈l,y.length=2)(nc:x.length=2)(hx:x∉l):uV (Eb9 l x):=by
 have hk:=Ua3 l x l.length;have iq:=Rbc (Dak l x l.length) l
 have oc:∀ y∈l.take (Dak l x l.length),ltL y x:=by
  intro y hy;obtain⟨j,hj⟩:=Qbl.1 hy
  have lz:j<Dak l x l.length:=by
   have:=(Ob2.1 hj).1;rw[Qbs]at this;omega
  rw[List.getElem?_take,if_pos lz]at hj;have vj:=Ua2 (l:=l) (x:=x) (m:=l.length) (by omega);have si:Dak l x l.length-1<l.length:=by omega
  rw[cK si]at vj;have ya:¬ ltL x l[Dak l x l.length-1]:=fun e=>by rw[<- Ua9,vj]at e;cases e
  have ct:l[Dak l x l.length-1]≠x:=fun e=>hx (e▸Rbg si)
  have lj:ltL l[Dak l x l.length-1] x:=by
   rw[oD]at ya ⊢;have k9:=h2 _ (Rbg si);generalize l[Dak l x l.length-1]=z at ya ct k9 ⊢
   have hz:¬ (atI z 0=atI x 0/\atI z 1=atI x 1):=by
    rintro⟨e1,e2⟩
    match z,x,k9,nc with
    | [a, b], [c, d], _, _ =>
     have e1':a=c:=e1;have e2':b=d:=e2;exact ct (by rw[e1',e2'])
   omega
  rcases Pbo j (Dak l x l.length-1) with h1|h1
  ·unfold uV at h
   rw[List.pairwise_iff_getElem]at h;have a4o:j<l.length:=by omega
   have h3:=h j (Dak l x l.length-1) a4o si h1;rw[(Ob2.1 hj).2]at h3;rw[oD]at h3 lj ⊢;omega
  ·have e:j=Dak l x l.length-1:=by omega
   subst e;rw[(Ob2.1 hj).2]at lj;exact lj
 have uc:∀ y∈l.drop (Dak l x l.length),ltL x y:=by
  intro y hy;obtain⟨j,hj⟩:=Qbl.1 hy;rw[List.getElem?_drop]at hj;have lz:=(Ob2.1 hj).1;have:=Ua4 (l:=l) (x:=x) (m:=l.length) (j:=Dak l x l.length+j) (by omega) lz;rw[cK lz,(Ob2.1 hj).2]at this;exact Ua9.1 this
 unfold Eb9 uV;unfold uV at h;rw[<- iq,List.pairwise_append]at h;rw[Pbd,List.pairwise_append];refine⟨h.1,?_,fun a ha b hb=>?_⟩
 ·rw[List.singleton_append,Qb1]
  exact⟨uc,h.2.1⟩
 ·rcases Pbe.1 hb with hb|hb
  ·rw[Ob3.1 hb]
   exact oc a ha
  ·exact h.2.2 a ha b hb
structure SSt where
 met:List (List Int)
 out:List (List Int)
def Sa2 (t:aU)(s:SSt)(y:List Int):SSt:=if s.met.any (fun z=>decide (y=z))||s.out.any (fun z=>decide (y=z)) then s else if Ma0 t y then ⟨s.met++[y],s.out⟩ else ⟨s.met,Eb9 s.out y⟩
def Jb4 (t:aU)(s:SSt)(i:Nat):SSt:=(Ibo t (atI (atI s.met (i:Int)) 0) (atI (atI s.met (i:Int)) 1)).foldl (Sa2 t) s
structure SPre (t:aU) (x:List Int) (s:SSt):Prop where
 base:x∈s.met
 nd:s.met.Nodup
 rch:∀ y∈s.met,Dao t x y/\Ma0 t y=true
 och:∀ y∈s.out,Dao t x y/\Ma0 t y=false
 srt:uV s.out
structure Cbp (t:aU) (x:List Int) (i:Nat) (s:SSt):Prop extends SPre t x s where
 le:i<=s.met.length
 cl:∀ j,j<i->∀ y∈Ca3 t (atI s.met (j:Int)),y∈s.met\/y∈s.out
theorem Tam {t:aU}(ht:fU t=true){x:List Int}(hx:fB t.n x){s:SSt}(h:SPre t x s){y:List Int}(hy:Dao t x y) :
  SPre t x (Sa2 t s y)/\(y∈(Sa2 t s y).met\/y∈(Sa2 t s y).out)/\(∃ m,(Sa2 t s y).met=s.met++m)/\(∀ z∈s.out,z∈(Sa2 t s y).out):=by
 unfold Sa2;by_cases hm:y∈s.met
 ·rw[Baq.2 hm,Bool.true_or,if_pos rfl]
  exact⟨h,.inl hm,⟨[],by simp⟩,fun z hz=>hz⟩
 ·by_cases ho:y∈s.out
  ·rw[Baq.2 ho,Bool.or_true,if_pos rfl]
   exact⟨h,.inr ho,⟨[],by simp⟩,fun z hz=>hz⟩
  ·rw[Jaz hm,Jaz ho]
   simp only[Bool.or_false,Ob9,if_false]
   cases hc:Ma0 t y with
   | true =>
    simp only[if_true];refine⟨⟨Ob1 _ h.base,oU h.nd hm,fun z hz=>?_,h.och,h.srt⟩,.inl (by simp),⟨[y],rfl⟩,fun z hz=>hz⟩
    rcases Pbe.1 hz with hz|hz
    ·exact h.rch z hz
    ·rw[Ob3.1 hz];exact⟨hy,hc⟩
   | false =>
    simp only[Ob9,if_false];refine⟨⟨h.base,h.nd,h.rch,fun z hz=>?_,Ua1 h.srt (fun z hz=>((h.och z hz).1.inst ht hx).1) (hy.inst ht hx).1 ho⟩,.inr (Jaj.2 (.inr rfl)),⟨[],by simp⟩,fun z hz=>Jaj.2 (.inl hz)⟩
    rcases Jaj.1 hz with hz|rfl
    ·exact h.och z hz
    ·exact⟨hy,hc⟩
theorem Kat {t:aU}(ht:fU t=true){x:List Int}(hx:fB t.n x):∀ {ys:List (List Int)} {s:SSt},SPre t x s->(∀ y∈ys,Dao t x y) ->
  SPre t x (ys.foldl (Sa2 t) s)/\(∀ y∈ys,y∈(ys.foldl (Sa2 t) s).met\/y∈(ys.foldl (Sa2 t) s).out)/\(∃ m,(ys.foldl (Sa2 t) s).met=s.met++m)/\(∀ z∈s.out,z∈(ys.foldl (Sa2 t) s).out)
 |[],s,h,_=>⟨h,by simp,⟨[],by simp⟩,fun z hz=>hz⟩
 | y :: ys, s, h, hr => by
  obtain⟨h1,h2,⟨m,h3⟩,h4⟩:=Tam ht hx h (hr y Pbf);obtain⟨k1,k2,⟨m',k3⟩,k4⟩:=Kat ht hx (ys:=ys) h1 fun z hz=>hr z (Pbb _ hz)
  rw[Qb7];refine⟨k1,fun z hz=>?_,⟨m++m',by rw[k3,h3,Pbd]⟩,fun z hz=>k4 z (h4 z hz)⟩
  rcases Ob8.1 hz with rfl|hz
  ·rcases h2 with h2|h2
   ·exact .inl (by rw[k3];exact Ob1 _ h2)
   ·exact .inr (k4 _ h2)
  ·exact k2 z hz
theorem Zau {α:Type}[Inhabited α]{l m:List α}{j:Nat}(h:j<l.length):atI (l++m) (j:Int)=atI l (j:Int):=by
 rw[cK h,cK (by rw[Pbg];omega),Rb7 h]
theorem Cbp.step {t:aU}(ht:fU t=true){x:List Int}(hx:fB t.n x){i:Nat}{s:SSt}(h:Cbp t x i s)(hi:i<s.met.length):Cbp t x (i+1) (Jb4 t s i):=by
 have hzm:=at_mem hi;obtain⟨hzr,yt⟩:=h.rch _ hzm;have p4:=(hzr.inst ht hx).1;unfold Jb4;obtain⟨k1,k2,⟨m,k3⟩,k4⟩:=Kat ht hx (ys:=Ibo t (atI (atI s.met (i:Int)) 0) (atI (atI s.met (i:Int)) 1)) h.toSPre fun y hy=>.step hzr yt ((Mat p4).1 hy).1
 refine⟨k1,by rw[k3,Pbg];omega,fun j hj y hy=>?_⟩;have lz:j<s.met.length:=by omega
 rw[k3,Zau lz]at hy
 rcases Pbo j i with hji|hji
 ·rcases h.cl j hji y hy with h1|h1
  ·exact .inl (by rw[k3];exact Ob1 _ h1)
  ·exact .inr (k4 y h1)
 ·obtain rfl:j=i:=by omega
  by_cases e:y=atI s.met (j:Int)
  ·exact .inl (by rw[k3,e];exact Ob1 _ hzm)
  ·exact k2 y ((Mat p4).2 ⟨hy,e⟩)
theorem Cbp.start {t:aU}{x:List Int}(hc:Ma0 t x=true):Cbp t x 0 ⟨[x],[]⟩:=by
 have h1:∀ y∈[x],Dao t x y/\Ma0 t y=true:=fun y hy=>by rw[Ob3.1 hy];exact⟨.base,hc⟩
 exact⟨⟨by simp,by simp,h1,fun y hy=>absurd hy (List.not_mem_nil),List.Pairwise.nil⟩,Qbn _,fun j hj=>absurd hj (Nat.not_lt_zero _)⟩
theorem Cbp.done {t:aU}(ht:fU t=true){x:List Int}(hx:fB t.n x){s:SSt}(h:Cbp t x s.met.length s):s.out=Faz t x:=by
 have cE:∀ y,Dao t x y->y∈s.met\/y∈s.out:=by
  intro y hy
  induction hy with
  |base=>exact .inl h.base
  | step _ hc hy ih =>
   rcases ih with h1|h1
   ·obtain⟨j,hj,e⟩:=Qb5.1 h1
    refine h.cl j hj _ ?_;rw[cK hj,e];exact hy
   ·rw[(h.och _ h1).2]at hc;cases hc
 refine yK h.srt (Fay t x) fun y=>?_
 rw[Ha1 ht hx];refine⟨h.och y,fun ⟨h1,h2⟩=>?_⟩
 rcases cE y h1 with h3|h3
 ·rw[(h.rch y h3).2]at h2;cases h2
 ·exact h3
theorem SPre.len {t:aU}(ht:fU t=true){x:List Int}(hx:fB t.n x){s:SSt}(h:SPre t x s):s.met.length<=30/\s.out.length<=30:=by
 have h1:=qK (bX ht) h.nd fun y hy=>(h.rch y hy).1.inst ht hx
 have h2:=qK (bX ht) (xD h.srt) fun y hy=>(h.och y hy).1.inst ht hx
 exact⟨h1,h2⟩
noncomputable def Obv (t:aU)(x:List Int):Bool:=decide ((0:Int)<((Faz t x).length:Nat))
noncomputable def Laa (t:aU):List (List Int):=(Cb7 t.rows).filter fun x=>!Obv t x
def GOk (G:List (List Int)):Prop:=∀ r∈G,∀ x∈r,InB G x
inductive Rch (G:List (List Int)) (a:Int):Int->Prop
 |refl:Rch G a a
 |step {b c:Int}:Rch G a b->c∈atI G b->Rch G a c
theorem GOk.out {G:List (List Int)}(hg:GOk G){b c:Int}(hb:InB G b)(hc:c∈atI G b):InB G c:=hg _ (jF hb) c hc
theorem Rch.inb {G:List (List Int)}(hg:GOk G){a b:Int}(ha:InB G a)(h:Rch G a b):InB G b:=by
 induction h with
 |refl=>exact ha
 |step _ hc ih=>exact hg.out ih hc
theorem Rch.trans {G:List (List Int)}{a b c:Int}(h:Rch G a b)(h2:Rch G b c):Rch G a c:=by
 induction h2 with
 |refl=>exact h
 |step _ hc ih=>exact .step ih hc
def nums (n:Nat):List Int:=(Rbx n).map fun k:Nat=>(k:Int)
theorem Pa1 (n:Nat):(nums n).length=n:=by simp[nums]
theorem Dag {n:Nat}{x:Int}:x∈nums n↔0<=x/\x<n:=by
 unfold nums;rw[Pb5];constructor
 ·rintro⟨k,hk,rfl⟩
  rw[Rbr]at hk;omega
 ·rintro⟨h1,h2⟩
  exact⟨x.toNat,Rbr.2 (by omega),by omega⟩
theorem Eat (n:Nat):kN (nums n):=by
 unfold nums kN;rw[Rb4];exact List.pairwise_lt_range.imp fun {a b} h=>by omega
theorem Ba5 {l:List Int}(h:kN l):l.Nodup:=by
 unfold kN at h;exact h.imp fun {a b} qe e=>by omega
open Classical in
noncomputable def Ebs (G:List (List Int))(a j:Int):Bool:=decide (Rch G a j)
theorem Iav {G:List (List Int)}{a j:Int}:Ebs G a j=true↔Rch G a j:=by
 classical
 unfold Ebs;exact decide_eq_true_iff
noncomputable def Rau (G:List (List Int))(a:Int):List Int:=(nums G.length).filter (Ebs G a)
theorem xG (G:List (List Int))(a:Int):kN (Rau G a):=by
 unfold Rau kN;exact List.Pairwise.filter _ (Eat _)
theorem qE {G:List (List Int)}(hg:GOk G){a j:Int}(ha:InB G a):j∈Rau G a↔Rch G a j:=by
 unfold Rau;rw[Qbu,Iav,Dag];exact⟨fun h=>h.2,fun h=>⟨h.inb hg ha,h⟩⟩
structure GSt where
 marks:List Bool
 todo:List Int
def GSt.left (s:GSt):Nat:=s.todo.length+s.marks.countP fun b=>!b
def gI (s:GSt)(c:Int):GSt:=if atI s.marks c then s else ⟨lK s.marks c true,s.todo++[c]⟩
def gO (G:List (List Int))(s:GSt):GSt:=⟨((atI G (atI s.todo 0)).foldl gI s).marks,((atI G (atI s.todo 0)).foldl gI s).todo.drop 1⟩
structure GPre (G:List (List Int)) (a:Int) (s:GSt):Prop where
 len:s.marks.length=G.length
 rch:∀ j,InB G j->atI s.marks j=true->Rch G a j
 sta:InB G a
 st:atI s.marks a=true
 tm:∀ x∈s.todo,InB G x/\atI s.marks x=true
 cnt:s.left<=G.length
structure GInv (G:List (List Int)) (a:Int) (s:GSt):Prop extends GPre G a s where
 cl:∀ j,InB G j->atI s.marks j=true->j∉s.todo->∀ c∈atI G j,atI s.marks c=true
theorem mF {α:Type}[Inhabited α]{xs:List α}{j k:Int}{x:α}(hj:0<=j)(hk:0<=k)(h:j≠k):atI (lK xs k x) j=atI xs j:=by
 have:k.toNat≠j.toNat:=by omega
 unfold atI lK;rw[Pba,Pba,List.getElem?_set_ne this]
theorem mO {α:Type}[Inhabited α]{xs:List α}{k:Int}{x:α}(h:InB xs k):atI (lK xs k x) k=x:=Cbn.1 h
theorem xQ:∀ {l:List Bool} {i:Nat},i<l.length->l.getD i default=false->(l.set i true).countP (fun b=>!b)+1=l.countP fun b=>!b
 |[],i,h,_=>by simp at h
 | b :: l, 0, _, h => by
  have hb:b=false:=h;subst hb;simp
 | b :: l, i + 1, h, h2 => by
  have:=xQ (l:=l) (i:=i) (by simpa using h) h2;simp only[List.set_cons_succ,List.countP_cons];omega
theorem Bb2 {G:List (List Int)}{a:Int}{s:GSt}(h:GPre G a s){c:Int}(hc:InB G c)(hr:Rch G a c) :
  GPre G a (gI s c)/\(∀ j,InB G j->atI s.marks j=true->atI (gI s c).marks j=true)/\atI (gI s c).marks c=true/\(∃ w,(gI s c).todo=s.todo++w)/\(∀ j,InB G j->atI (gI s c).marks j=true->atI s.marks j=true\/j∈(gI s c).todo)/\(gI s c).left=s.left:=by
 unfold gI
 cases hm:atI s.marks c with
 |true=>exact⟨h,fun _ _ hj=>hj,hm,⟨[],by simp⟩,fun _ _ hj=>.inl hj,rfl⟩
 | false =>
  have u9:InB s.marks c:=by unfold InB at hc ⊢;rw[h.len];exact hc
  have rr:∀ j,InB G j->atI s.marks j=true->atI (lK s.marks c true) j=true:=by
   intro j hj jg;by_cases e:j=c
   ·subst e;exact mO u9
   ·rw[mF hj.1 hc.1 e];exact jg
  have ua:GSt.left ⟨lK s.marks c true,s.todo++[c]⟩=s.left:=by
   unfold GSt.left lK;have:=xQ (l:=s.marks) (i:=c.toNat) u9.lt hm;simp only[Pbg,Pb9,Qb4];omega
  simp only[Ob9,if_false];refine⟨⟨by dsimp only;rw[pY];exact h.len,fun j hj jg=>?_,h.sta,rr a h.sta h.st,fun x hx=>?_,by rw[ua];exact h.cnt⟩,rr,mO u9,⟨[c],rfl⟩,fun j hj jg=>?_,ua⟩
  ·by_cases e:j=c
   ·subst e;exact hr
   ·dsimp only at jg
    rw[mF hj.1 hc.1 e]at jg;exact h.rch j hj jg
  ·rcases Pbe.1 hx with hx|hx
   ·exact⟨(h.tm x hx).1,rr x (h.tm x hx).1 (h.tm x hx).2⟩
   ·rw[Ob3]at hx
    subst hx;exact⟨hc,mO u9⟩
  ·by_cases e:j=c
   ·subst e;exact .inr (by simp)
   ·try dsimp only at jg
    rw[mF hj.1 hc.1 e]at jg;exact .inl jg
theorem Vac {G:List (List Int)}{a:Int}:∀ {ys:List Int} {s:GSt},GPre G a s->(∀ c∈ys,InB G c/\Rch G a c) ->
  GPre G a (ys.foldl gI s)/\(∀ j,InB G j->atI s.marks j=true->atI (ys.foldl gI s).marks j=true)/\(∀ c∈ys,atI (ys.foldl gI s).marks c=true)/\(∃ w,(ys.foldl gI s).todo=s.todo++w)/\(∀ j,InB G j->atI (ys.foldl gI s).marks j=true->atI s.marks j=true\/j∈(ys.foldl gI s).todo)/\(ys.foldl gI s).left=s.left
 |[],s,h,_=>⟨h,fun _ _ hj=>hj,fun _ hc=>(by cases hc),⟨[],by simp⟩,fun _ _ hj=>.inl hj,rfl⟩
 | y :: ys, s, h, hy => by
  obtain⟨h1,h2⟩:=hy y Pbf;obtain⟨k1,k2,k3,⟨w1,k4⟩,k5,k6⟩:=Bb2 h h1 h2;obtain⟨l1,l2,l3,⟨w2,l4⟩,l5,l6⟩:=Vac (ys:=ys) k1 fun c hc=>hy c (Pbb _ hc)
  rw[Qb7];refine⟨l1,fun j hj jg=>l2 j hj (k2 j hj jg),fun c hc=>?_,⟨w1++w2,by rw[l4,k4,Pbd]⟩,fun j hj jg=>?_,by rw[l6,k6]⟩
  ·rcases Ob8.1 hc with hc|hc
   ·subst hc;exact l2 c h1 k3
   ·exact l3 c hc
  ·rcases l5 j hj jg with h3|h3
   ·rcases k5 j hj h3 with h4|h4
    ·exact .inl h4
    ·exact .inr (by rw[l4];exact Ob1 _ h4)
   ·exact .inr h3
theorem GInv.step {G:List (List Int)}(hg:GOk G){a:Int}{s:GSt}(h:GInv G a s)(hw:s.todo≠[]):GInv G a (gO G s)/\(gO G s).left+1=s.left/\GPre G a ((atI G (atI s.todo 0)).foldl gI s):=by
 have hb:InB s.todo 0:=by
  have:=List.length_pos_iff.2 hw;unfold InB;omega
 obtain⟨z1,z2⟩:=h.tm _ (jF hb);have zr:=h.rch _ z1 z2;have xn:∀ c∈atI G (atI s.todo 0),InB G c/\Rch G a c:=fun c hc=>⟨hg.out z1 hc,.step zr hc⟩
 obtain⟨l1,l2,l3,⟨w,l4⟩,l5,l6⟩:=Vac h.toGPre xn
 obtain⟨t,ht⟩:∃ t,s.todo=atI s.todo 0::t:=by
  cases e:s.todo with
  |nil=>exact absurd e hw
  |cons x t=>exact⟨t,rfl⟩
 unfold gO;generalize atI s.todo 0=z at *;generalize (atI G z).foldl gI s=u at *;rw[ht,List.cons_append]at l4
 have zq:GSt.left ⟨u.marks,u.todo.drop 1⟩+1=s.left:=by
  rw[<- l6];unfold GSt.left;rw[l4];simp only[List.drop_succ_cons,List.drop_zero,Pb9];omega
 refine⟨⟨⟨l1.len,l1.rch,l1.sta,l1.st,fun x hx=>l1.tm x (Rbe hx),by have:=h.cnt;omega⟩,fun j hj jg y4 c hc=>?_⟩,zq,l1⟩;dsimp only at jg y4 ⊢;by_cases e:j=z
 ·subst e
  exact l3 c hc
 ·have hju:j∉u.todo:=by
   rw[l4]at y4 ⊢;intro hm
   rcases Ob8.1 hm with h1|h1
   ·exact e h1
   ·exact y4 (by simpa using h1)
  rcases l5 j hj jg with h1|h1
  ·have h2:j∉s.todo:=fun hm=>hju (by
    rw[ht]at hm;rw[l4]
    rcases Ob8.1 hm with h1|h1
    ·exact absurd h1 e
    ·exact Pbb _ (Ob1 _ h1))
   exact l2 c (hg.out hj hc) (h.cl j hj h1 h2 c hc)
  ·exact absurd h1 hju
theorem Oat (n:Nat):(Pbp n false).countP (fun b=>!b)=n:=by
 induction n with
 |zero=>rfl
 |succ n ih=>rw[List.replicate_succ,List.countP_cons,ih];rfl
theorem GInv.start {G:List (List Int)}{a:Int}(ha:InB G a):GInv G a ⟨lK (Pbp G.length false) a true,[a]⟩:=by
 have hl:InB (Pbp G.length false) a:=by unfold InB at ha ⊢;rw[Qbv];exact ha
 have hf:(Pbp G.length false).getD a.toNat default=false:=by
  rw[Pba,Ob5 hl.lt,List.getElem_replicate];rfl
 have a1k:∀ j,InB G j->atI (lK (Pbp G.length false) a true) j=true->j=a:=by
  intro j hj jg;by_cases e:j=a
  ·exact e
  ·rw[mF hj.1 ha.1 e]at jg
   have hlj:InB (Pbp G.length false) j:=by unfold InB at hj ⊢;rw[Qbv];exact hj
   unfold atI at jg;rw[Pba,Ob5 hlj.lt,List.getElem_replicate]at jg;cases jg
 refine⟨⟨by dsimp only;rw[pY,Qbv],fun j hj jg=>by rw[a1k j hj jg];exact .refl,ha,mO hl,fun x hx=>?_,?_⟩,fun j hj jg y4=>absurd (by rw[a1k j hj jg];exact Ob3.2 rfl) y4⟩
 ·rw[Ob3]at hx
  subst hx;exact⟨ha,mO hl⟩
 ·unfold GSt.left lK
  have:=xQ (l:=Pbp G.length false) (i:=a.toNat) hl.lt hf;rw[Oat]at this;simp only[Pb9,Qb4];omega
theorem GInv.done {G:List (List Int)}(hg:GOk G){a:Int}{s:GSt}(h:GInv G a s)(hw:s.todo=[]){j:Int}(hj:InB G j):atI s.marks j=Ebs G a j:=by
 have cE:∀ b,Rch G a b->InB G b/\atI s.marks b=true:=by
  intro b hb
  induction hb with
  |refl=>exact⟨h.sta,h.st⟩
  |step _ hc ih=>exact⟨hg.out ih.1 hc,h.cl _ ih.1 ih.2 (by rw[hw];simp) _ hc⟩
 rw[Bool.eq_iff_iff,Iav];exact⟨h.rch j hj,fun hr=>(cE j hr).2⟩
structure HSt where
 met:List Int
 que:List Int
def hI (s:HSt)(c:Int):HSt:=if Qag s.que c then s else ⟨Yaj s.met c,s.que++[c]⟩
theorem vR {xs:List Int}{n:Int}:Qag xs n=true↔n∈xs:=by
 unfold Qag;rw[Qb3];constructor
 ·rintro⟨x,hx,e⟩
  rw[<- beq_iff_eq.1 e];exact hx
 ·exact fun h=>⟨n,h,by simp⟩
structure HPre (G:List (List Int)) (a:Int) (s:HSt):Prop where
 rch:∀ x∈s.que,Rch G a x
 nd:s.que.Nodup
 srt:kN s.met
 eq:∀ x,x∈s.met↔x∈s.que
 sta:InB G a
 st:a∈s.que
structure Cbr (G:List (List Int)) (a:Int) (i:Nat) (s:HSt):Prop extends HPre G a s where
 le:i<=s.que.length
 cl:∀ k:Nat,k<i->∀ c∈atI G (atI s.que (k:Int)),c∈s.que
theorem HPre.len {G:List (List Int)}(hg:GOk G){a:Int}{s:HSt}(h:HPre G a s):s.que.length<=G.length/\s.met.length<=G.length:=by
 have h1:∀ x∈s.que,x∈nums G.length:=fun x hx=>Dag.2 ((h.rch x hx).inb hg h.sta)
 have h2:=oV h.nd h1;have h3:=oV (Ba5 h.srt) fun x hx=>h1 x ((h.eq x).1 hx)
 rw[Pa1]at h2 h3;exact⟨h2,h3⟩
theorem Bbx {G:List (List Int)}{a:Int}{s:HSt}(h:HPre G a s){c:Int}(hr:Rch G a c):HPre G a (hI s c)/\c∈(hI s c).que/\∃ w,(hI s c).que=s.que++w:=by
 unfold hI
 cases hm:Qag s.que c with
 |true=>exact⟨h,vR.1 hm,[],by simp⟩
 | false =>
  have hn:c∉s.que:=fun e=>by rw[vR.2 e]at hm;cases hm
  simp only[Ob9,if_false];refine⟨⟨fun x hx=>?_,?_,Eao h.srt,fun x=>?_,h.sta,Ob1 _ h.st⟩,by simp,[c],rfl⟩
  ·rcases Pbe.1 hx with hx|hx
   ·exact h.rch x hx
   ·rw[Ob3.1 hx];exact hr
  ·exact List.nodup_append.2 ⟨h.nd,by simp,fun x hx y hy e=>hn (by rw[Ob3]at hy;rw[<- hy,<- e];exact hx)⟩
  ·rw[Iay,h.eq]
   simp
theorem Ua8 {G:List (List Int)}{a:Int}:∀ {ys:List Int} {s:HSt},HPre G a s->(∀ c∈ys,Rch G a c)->HPre G a (ys.foldl hI s)/\(∀ c∈ys,c∈(ys.foldl hI s).que)/\∃ w,(ys.foldl hI s).que=s.que++w
 |[],s,h,_=>⟨h,fun _ hc=>(by cases hc),[],by simp⟩
 | y :: ys, s, h, hy => by
  obtain⟨k1,k2,w1,k3⟩:=Bbx h (hy y Pbf);obtain⟨l1,l2,w2,l3⟩:=Ua8 (ys:=ys) k1 fun c hc=>hy c (Pbb _ hc)
  rw[Qb7];refine⟨l1,fun c hc=>?_,w1++w2,by rw[l3,k3,Pbd]⟩
  rcases Ob8.1 hc with hc|hc
  ·subst hc
   rw[l3];exact Ob1 _ k2
  ·exact l2 c hc
theorem Cbr.step {G:List (List Int)}{a:Int}{i:Nat}{s:HSt}(h:Cbr G a i s)(hi:i<s.que.length):Cbr G a (i+1) ((atI G (atI s.que (i:Int))).foldl hI s):=by
 have hz:=h.rch _ (at_mem hi);obtain⟨l1,l2,w,l3⟩:=Ua8 h.toHPre (ys:=atI G (atI s.que (i:Int))) fun c hc=>.step hz hc
 generalize he:(atI G (atI s.que (i:Int))).foldl hI s=u at *
 have kb:∀ k:Nat,k<s.que.length->atI u.que (k:Int)=atI s.que (k:Int):=by
  intro k hk;rw[l3,cK (by rw[Pbg];omega),cK hk,Rb7 hk]
 refine⟨l1,by rw[l3,Pbg];omega,fun k hk c hc=>?_⟩;rw[kb k (by omega)]at hc
 rcases Pbo k i with h1|h1
 ·rw[l3]
  exact Ob1 _ (h.cl k h1 c hc)
 ·obtain rfl:k=i:=by omega
  exact l2 c hc
theorem Cbr.start {G:List (List Int)}{a:Int}(ha:InB G a):Cbr G a 0 ⟨[a],[a]⟩ :=
 ⟨⟨fun x hx=>by rw[Ob3.1 hx];exact .refl,by simp,by simp[kN],fun x=>Iff.rfl,ha,by simp⟩,Qbn _,fun k hk=>absurd hk (Nat.not_lt_zero _)⟩
theorem Cbr.done {G:List (List Int)}(hg:GOk G){a:Int}{s:HSt}(h:Cbr G a s.que.length s):s.met=Rau G a:=by
 refine Aa4 h.srt (xG _ _) fun x=>?_
 rw[h.eq,qE hg h.sta];refine⟨h.rch x,fun hr=>?_⟩
 induction hr with
 |refl=>exact h.st
 | step _ hc ih =>
  obtain⟨k,hk,e⟩:=Qb5.1 ih;exact h.cl k hk _ (by rw[cK hk,e];exact hc)
noncomputable def Saa (G:List (List Int))(a:Int):List Int:=(Rau G a).filter fun j=>Ebs G j a
theorem lW {G:List (List Int)}(hg:GOk G){a j:Int}(ha:InB G a):j∈Saa G a↔Rch G a j/\Rch G j a:=by
 unfold Saa;rw[Qbu,Iav,qE hg ha]
theorem Ea8 (G:List (List Int))(a:Int):kN (Saa G a):=List.Pairwise.filter _ (xG G a)
theorem Vaa {G:List (List Int)}(hg:GOk G){a:Int}(ha:InB G a):a∈Saa G a:=(lW hg ha).2 ⟨.refl,.refl⟩
theorem Vab {G:List (List Int)}(hg:GOk G){a j:Int}(ha:InB G a)(hj:j∈Saa G a):Saa G j=Saa G a:=by
 obtain⟨h1,h2⟩:=(lW hg ha).1 hj;refine Aa4 (Ea8 _ _) (Ea8 _ _) fun x=>?_
 rw[lW hg (h1.inb hg ha),lW hg ha];exact⟨fun h=>⟨h1.trans h.1,h.2.trans h2⟩,fun h=>⟨h2.trans h.1,h.2.trans h1⟩⟩
noncomputable def uP (G:List (List Int)):List (List Int):=((nums G.length).filter fun i=>atI (Saa G i) 0==i).map (Saa G)
theorem Yax {l:List Int}(h:l≠[]):atI l 0∈l:=jF (by have:=List.length_pos_iff.2 h;unfold InB;omega)
theorem Aak {G:List (List Int)}{C:List Int}(h:C∈uP G):∃ a,InB G a/\C=Saa G a/\atI C 0=a:=by
 unfold uP at h;obtain⟨a,ha,rfl⟩:=Pb5.1 h;obtain⟨h1,h2⟩:=Qbu.1 ha;exact⟨a,Dag.1 h1,rfl,beq_iff_eq.1 h2⟩
theorem Sau {G:List (List Int)}(hg:GOk G){j:Int}(hj:InB G j):∃ C∈uP G,j∈C:=by
 have hs:=Vaa hg hj;have hm:=Yax (List.ne_nil_of_mem hs);have hi:=((lW hg hj).1 hm).1.inb hg hj;have he:=Vab hg hj hm;refine⟨Saa G (atI (Saa G j) 0),Pb5.2 ⟨_,Qbu.2 ⟨Dag.2 hi,?_⟩,rfl⟩,by rw[he];exact hs⟩;rw[he];simp
theorem Maz (G:List (List Int)):(uP G).Nodup:=by
 unfold uP List.Nodup;rw[Rb4];refine List.Pairwise.imp_of_mem (fun {a b} ha hb qe e=>?_) (List.Pairwise.filter _ (Eat G.length));have h1:=beq_iff_eq.1 (Qbu.1 ha).2;have h2:=beq_iff_eq.1 (Qbu.1 hb).2;rw[e,h2]at h1;omega
theorem Sas (G:List (List Int)):(uP G).length<=G.length:=by
 unfold uP;rw[Pbt];have:=Rb0 (fun i=>atI (Saa G i) 0==i) (nums G.length);rw[Pa1]at this;exact this
structure CSt where
 rest:List (List Int)
 out:List (List Int)
structure Sa1 (G:List (List Int)) (s:CSt):Prop where
 nd:(s.rest++s.out).Nodup
 mem:∀ C,C∈s.rest++s.out↔C∈uP G
 cl:∀ C∈s.out,∀ j∈C,∀ k,Rch G j k->∃ D∈s.out,k∈D
def Bb9 (out:List (List Int))(j:Int):Bool:=out.any fun D=>Qag D j
theorem Mar {out:List (List Int)}{j:Int}:Bb9 out j=true↔∃ D∈out,j∈D:=by
 unfold Bb9;rw[Qb3];constructor
 ·rintro⟨D,h1,h2⟩;exact⟨D,h1,vR.1 h2⟩
 ·rintro⟨D,h1,h2⟩;exact⟨D,h1,vR.2 h2⟩
noncomputable def Gan (G:List (List Int))(out:List (List Int))(C:List Int):Bool:=(Rau G (atI C 0)).all fun j=>Bb9 out j||Qag C j
theorem Fac {G:List (List Int)}(hg:GOk G){out:List (List Int)}{C:List Int}(hC:InB G (atI C 0)):Gan G out C=true↔∀ j,Rch G (atI C 0) j->(∃ D∈out,j∈D)\/j∈C:=by
 unfold Gan;rw[Pbv];constructor
 ·intro h j hj
  have:=h j ((qE hg hC).2 hj);rw[Qbb,Mar,vR]at this;exact this
 ·intro h j hj
  rw[Qbb,Mar,vR];exact h j ((qE hg hC).1 hj)
theorem Sa1.sub {G:List (List Int)}{s:CSt}(h:Sa1 G s){C:List Int}(hC:C∈s.rest):C∈uP G:=(h.mem C).1 (Ob1 _ hC)
theorem Vad {G:List (List Int)}(hg:GOk G){s:CSt}(h:Sa1 G s):∀ (n:Nat) (C:List Int),C∈s.rest->(Rau G (atI C 0)).length<=n->∃ D∈s.rest,Gan G s.out D=true
 | n, C, hC, hn => by
  obtain⟨a,ha,he,vh⟩:=Aak (h.sub hC);have vl:InB G (atI C 0):=by rw[vh];exact ha
  by_cases hf:Gan G s.out C=true
  ·exact⟨C,hC,hf⟩
  rw[Fac hg vl]at hf;obtain⟨j,hf⟩:=Classical.not_forall.1 hf;obtain⟨hj,hf⟩:=Classical.not_imp.1 hf;rw[not_or]at hf;obtain⟨D,hD,hjD⟩:=Sau hg (hj.inb hg vl)
  have hDr:D∈s.rest:=by
   rcases Pbe.1 ((h.mem D).2 hD) with h1|h1
   ·exact h1
   ·exact absurd ⟨D,h1,hjD⟩ hf.1
  obtain⟨b,hb,hDe,heb⟩:=Aak hD;have hD0:InB G (atI D 0):=by rw[heb];exact hb
  have hjb:=(lW hg hb).1 (by rw[<- hDe];exact hjD);rw[<- heb]at hjb
  have hna:¬ Rch G (atI D 0) (atI C 0):=fun hr=>hf.2 (by
   rw[he,lW hg ha,<- vh];exact⟨hj,hjb.2.trans hr⟩)
  have aq:(Rau G (atI D 0)).length<(Rau G (atI C 0)).length:=by
   have b9:atI C 0∈Rau G (atI C 0):=(qE hg vl).2 .refl
   have h1:=oV (l:=Rau G (atI D 0)) (m:=(Rau G (atI C 0)).erase (atI C 0)) (Ba5 (xG _ _)) fun x hx=>by
    have nc:=(qE hg hD0).1 hx;refine (List.mem_erase_of_ne fun e=>hna ?_).2 ((qE hg vl).2 ((hj.trans hjb.2).trans nc));rw[<- e];exact nc
   have h2:=List.length_erase_of_mem b9;have h3:=List.length_pos_of_mem b9;omega
  match n with
  |0=>omega
  |n+1=>exact Vad hg h n D hDr (by omega)
noncomputable def Qa1 (G:List (List Int))(s:CSt):Nat:=(ixF (Gan G s.out) s.rest).toNat
noncomputable def cO (G:List (List Int))(s:CSt):CSt:=⟨s.rest.take (Qa1 G s)++s.rest.drop (Qa1 G s+1),s.out++[atI s.rest (Qa1 G s)]⟩
theorem Sa1.top {G:List (List Int)}(hg:GOk G){s:CSt}(h:Sa1 G s)(hr:s.rest≠[]):Qa1 G s<s.rest.length/\ixF (Gan G s.out) s.rest=(Qa1 G s:Int)/\Gan G s.out (atI s.rest (Qa1 G s))=true/\∀ k:Nat,k<Qa1 G s->Gan G s.out (atI s.rest (k:Int))=false:=by
 obtain⟨C,hC⟩:=List.exists_mem_of_ne_nil _ hr;obtain⟨D,hD,hf⟩:=Vad hg h _ C hC (Pbj _);obtain⟨k,hk,rfl⟩:=Qb5.1 hD;have h0:0<=ixF (Gan G s.out) s.rest:=Eb6 hk (by rw[cK hk];exact hf);obtain⟨h1,h2,h3⟩:=Jag h0;have e:ixF (Gan G s.out) s.rest=(Qa1 G s:Int):=by unfold Qa1;omega
 rw[e]at h1 h2;refine⟨aO.1 h1,e,h2,fun k hk=>h3 k ?_⟩;rw[e];omega
theorem Cbg {l out:List (List Int)}{i:Nat}(h:i<l.length):((l.take i++l.drop (i+1))++(out++[atI l (i:Int)])).Perm (l++out):=by
 have e:l=l.take i++atI l (i:Int)::l.drop (i+1):=by
  rw[cK h,<- List.drop_eq_getElem_cons h,Rbc]
 conv=>rhs;rw[e]
 generalize l.take i=A;generalize l.drop (i+1)=B;generalize atI l (i:Int)=C;rw[List.perm_iff_count];intro x;simp only[List.count_append,List.count_cons,List.count_nil];omega
theorem Sa1.step {G:List (List Int)}(hg:GOk G){s:CSt}(h:Sa1 G s)(hr:s.rest≠[]):Sa1 G (cO G s)/\(cO G s).rest.length+1=s.rest.length:=by
 obtain⟨h1,h2,h3,-⟩:=h.top hg hr;have hp:=Cbg (out:=s.out) h1;have hCr:atI s.rest (Qa1 G s:Int)∈s.rest:=at_mem h1;unfold cO;generalize Qa1 G s=i at *;refine⟨⟨hp.nodup_iff.2 h.nd,fun C=>by rw[hp.mem_iff];exact h.mem C,fun C hC j hj k hk=>?_⟩,by simp only[Pbg,Qbs,Rba];omega⟩;dsimp only at hC ⊢
 rcases Pbe.1 hC with hC|hC
 ·obtain⟨D,hD,hkD⟩:=h.cl C hC j hj k hk
  exact⟨D,Ob1 _ hD,hkD⟩
 ·rw[Ob3]at hC
  subst hC;obtain⟨a,ha,he,vh⟩:=Aak (h.sub hCr);have vl:InB G (atI (atI s.rest (i:Int)) 0):=by rw[vh];exact ha
  have hja:=(lW hg ha).1 (by rw[<- he];exact hj)
  rcases (Fac hg vl).1 h3 k (by rw[vh];exact hja.1.trans hk) with ⟨D,hD,hkD⟩|hkC
  ·exact⟨D,Ob1 _ hD,hkD⟩
  ·exact⟨_,Ob4 _ (Ob3.2 rfl),hkC⟩
theorem Sa1.start (G:List (List Int)):Sa1 G ⟨uP G,[]⟩ :=
 ⟨by dsimp only;rw[Pbz];exact Maz G,fun C=>by dsimp only;rw[Pbz],fun C hC=>by cases hC⟩
theorem Sa1.len {G:List (List Int)}{s:CSt}(h:Sa1 G s):s.rest.length+s.out.length<=G.length:=by
 have h1:=oV h.nd (m:=uP G) fun C hC=>(h.mem C).1 hC
 rw[Pbg]at h1;exact Pb8 h1 (Sas G)
theorem Ras {t:aU}{x:List Int}(h:x∈Laa t):x∈Cb7 t.rows:=by
 unfold Laa at h;exact (Qbu.1 h).1
theorem Ean {t:aU}(ht:fU t=true){x:List Int}(h:x∈Laa t):fB t.n x/\(dK t (atI x 0) (atI x 1)).state=3/\x=[atI x 0,atI x 1]/\InB x 0/\InB x 1:=by
 obtain⟨a,b,h1,h2,h3⟩:=Va2 ht (Ras h);exact⟨⟨h1,h2⟩,h3,(sN h1).symm,a,b⟩
def Bbq (t:aU)(x:List Int):Int:=100*(dK t (atI x 0) (atI x 1)).attr.seq+10*atI x 0+atI x 1
theorem Taz {n:Int}{r:dQ}(h:rowOk n r=true):0<=r.attr.seq/\r.attr.seq<=999:=by
 unfold rowOk at h;simp only[Obz]at h;obtain⟨-,h⟩:=h;split at h
 ·simp only[Obz,decide_eq_true_eq]at h
  rw[h.2];unfold none0;simp
 ·simp only[Obz]at h
  have:=h.2;unfold iW inR at this;simp only[Obz,decide_eq_true_eq]at this;omega
theorem Qaf {t:aU}(ht:fU t=true){x:List Int}(h:fB t.n x):0<=(dK t (atI x 0) (atI x 1)).attr.seq/\(dK t (atI x 0) (atI x 1)).attr.seq<=999/\0<=atI x 0/\atI x 0<=4/\1<=atI x 1/\atI x 1<=6:=by
 have h1:=Taz (Nag ht h.2);have h2:=gF h.2;have h3:=bL (bX ht);omega
theorem Yau {t:aU}(ht:fU t=true){x y:List Int}(hx:fB t.n x)(hy:fB t.n y)(h:Bbq t x=Bbq t y):x=y:=by
 have h1:=Qaf ht hx;have h2:=Qaf ht hy;unfold Bbq at h;rw[<- sN hx.1,<- sN hy.1];unfold toL prL;dsimp only;have e1:atI x 0=atI y 0:=by omega
 have e2:atI x 1=atI y 1:=by omega
 rw[e1,e2]
theorem Ya0 {n:Int}{l:List dQ}{no:Int}(h:no<=l.length):ext n l no=l:=by
 unfold ext;rw[show (no-l.length).toNat=0 by omega,List.replicate_zero,Pbz]
def Jbo (rd:List (List Int))(s:aU)(k:Nat)(i:Nat):aU:=if decide (Vai rd [(k:Int),(i:Int)+1]<0) then Abt s (k:Int) ((i:Int)+1) (row0 s.n) else s
def Ibp (rd:List (List Int))(k:Nat):Nat->aU->aU
 |0,s=>s
 |m+1,s=>Jbo rd (Ibp rd k m s) k m
def Jbn (rd:List (List Int))(t:aU):Nat->aU
 |0=>t
 |k+1=>Ibp rd k (atI t.rows (k:Int)).length (Jbn rd t k)
theorem Mae {rd:List (List Int)}{x:List Int}:Vai rd x<0↔x∉rd:=by
 have h:=dO (fun y=>decide (x=y)) rd;constructor
 ·intro h1 hm
  have:rd.any (fun y=>decide (x=y))=true:=Qb3.2 ⟨x,hm,by simp⟩;rw[this,decide_eq_true_eq]at h;unfold Vai at h1;omega
 ·intro hm
  have:rd.any (fun y=>decide (x=y))=false:=by
   rw[List.any_eq_false];intro y hy e;exact hm (by rw[of_decide_eq_true e];exact hy)
  rw[this,decide_eq_false_iff_not]at h;unfold Vai;omega
structure Sa7 (rd:List (List Int)) (t s:aU) (k m:Nat):Prop where
 ok:fU s=true
 n:s.n=t.n
 len:∀ j:Nat,(atI s.rows (j:Int)).length=(atI t.rows (j:Int)).length
 row:∀ rep no,inst t.n rep no=true->dK s rep no=if (rep<k\/(rep=k/\no<=m))/\[rep,no]∉rd then row0 t.n else dK t rep no
theorem Sa7.rowsLen {rd:List (List Int)}{t s:aU}{k m:Nat}(ht:fU t=true)(h:Sa7 rd t s k m):s.rows.length=t.rows.length:=by
 have h1:=fE ht;have h2:=fE h.ok;have h3:=h.n;omega
theorem Sa7.stepS {rd:List (List Int)}{t s:aU}{k m:Nat}(ht:fU t=true)(h:Sa7 rd t s k m)(hk:k<t.rows.length)(hm:m<(atI t.rows (k:Int)).length):Sa7 rd t (Jbo rd s k m) k (m+1):=by
 have hlen:=fE ht;have h6:=(jP ht (at_mem hk)).1
 have hi:inst t.n (k:Int) ((m:Int)+1)=true:=by
  unfold inst inR;simp only[Obz,decide_eq_true_eq];omega
 have fb:inst s.n (k:Int) ((m:Int)+1)=true:=by rw[h.n];exact hi
 unfold Jbo;cases hf:decide (Vai rd [(k:Int),(m:Int)+1]<0)
 ·have gE:[(k:Int),(m:Int)+1]∈rd:=by
   rw[decide_eq_false_iff_not,Mae]at hf;exact Classical.not_not.1 hf
  refine⟨h.ok,h.n,h.len,fun rep no hr=>?_⟩;simp only[Ob9,if_false];rw[h.row rep no hr];have h0:=gF hr;by_cases e:rep=(k:Int)/\no=(m:Int)+1
  ·obtain⟨e1,e2⟩:=e
   subst e1;subst e2
   rw[if_neg (fun hh=>hh.2 gE),if_neg (fun hh=>hh.2 gE)]
  ·have:(rep<(k:Int)\/rep=(k:Int)/\no<=(m:Int))↔(rep<(k:Int)\/rep=(k:Int)/\no<=((m+1:Nat):Int)):=by omega
   simp only[this]
 ·have sA:[(k:Int),(m:Int)+1]∉rd:=Mae.1 (of_decide_eq_true hf)
  simp only[if_true];refine⟨Abs h.ok fb (by rw[h.n];exact Ta0 (bX ht)),by unfold Abt;exact h.n,fun j=>?_,fun rep no hr=>?_⟩
  ·have xk:InB s.rows (k:Int):=aO.2 (by rw[h.rowsLen ht];exact hk)
   unfold Abt;dsimp only;by_cases e:j=k
   ·subst e
    rw[mO xk,pY,Ya0 (by rw[h.len];omega),h.len]
   ·rw[mF (by omega) (by omega) (by omega),h.len]
  ·rw[Tab h.ok fb (by rw[h.n];exact hr),h.row rep no hr,h.n]
   have h0:=gF hr;by_cases e:rep=(k:Int)/\no=(m:Int)+1
   ·obtain⟨e1,e2⟩:=e
    subst e1;subst e2
    rw[if_pos ⟨rfl,rfl⟩,if_pos ⟨.inr ⟨rfl,by omega⟩,sA⟩]
   ·rw[if_neg e]
    have:(rep<(k:Int)\/rep=(k:Int)/\no<=(m:Int))↔(rep<(k:Int)\/rep=(k:Int)/\no<=((m+1:Nat):Int)):=by omega
    simp only[this]
theorem Sa7.stepN {rd:List (List Int)}{t s:aU}{k:Nat}(ht:fU t=true)(h:Sa7 rd t s k 0)(hk:k<t.rows.length):∀ m,m<=(atI t.rows (k:Int)).length->Sa7 rd t (Ibp rd k m s) k m
 |0,_=>h
 |m+1,hm=>(Sa7.stepN ht h hk m (by omega)).stepS ht hk (by omega)
theorem Sa7.all {rd:List (List Int)}{t:aU}(ht:fU t=true)(gA:∀ x∈rd,x∈Cb7 t.rows):∀ k,k<=t.rows.length->Sa7 rd t (Jbn rd t k) k 0
 | 0, _ => by
  refine⟨ht,rfl,fun _=>rfl,fun rep no hr=>?_⟩;have h0:=gF hr;rw[if_neg (by omega)];rfl
 | k + 1, hk => by
  have h:=(Sa7.all ht gA k (by omega)).stepN ht (by omega) (atI t.rows (k:Int)).length (Pbj _);refine⟨h.ok,h.n,h.len,fun rep no hr=>?_⟩;show dK (Ibp rd k _ (Jbn rd t k)) rep no=_
  rw[h.row rep no hr];have h0:=gF hr;by_cases e:rep=(k:Int)/\¬ no<=((atI t.rows (k:Int)).length:Int)
  ·obtain⟨e1,e2⟩:=e
   have er:dK t rep no=row0 t.n:=by
    unfold dK;rw[e1,if_neg e2]
   rw[er,ite_self,ite_self]
  ·have:(rep<(k:Int)\/rep=(k:Int)/\no<=((atI t.rows (k:Int)).length:Int))↔(rep<((k+1:Nat):Int)\/rep=((k+1:Nat):Int)/\no<=((0:Nat):Int)):=by omega
   simp only[this]
section
variable {T:Nat->Ent} {β:Type}
end
def Aa6 (r:dQ)(k no:Int):Bool:=(r.state==3)&&decide (no<=atI r.attr.deps k)
def Lan (t:aU)(k no:Int):Bool:=decide (no<=((atI t.rows k).length:Int))||t.rows.any fun l=>l.any fun r=>Aa6 r k no
def Ia5 (t:aU):List (List Int):=(kI t.n.toNat).filter fun y=>Lan t (atI y 0) (atI y 1)
def sG (x:xX)(k:Int):aU:=(atI x.reps k).table
def Aa8 (x:xX)(ms:List Int)(y:List Int):Bool:=ms.any fun k=>!((dK (sG x k) (atI y 0) (atI y 1)).state==3)
def Uah (x:xX)(ms:List Int)(k no:Int):Bool:=ms.any fun m=>Lan (sG x m) k no
def Pa0 (x:xX)(ms:List Int):List (List Int):=(kI x.reps.length).filter fun y=>Uah x ms (atI y 0) (atI y 1)&&Aa8 x ms y
def zG (x:xX)(ms:List Int):Bool:=sI x&&decide (0<(ms.length:Int))&&Was ms 0 ((x.reps.length:Int)-1)
def Hav (x:xX)(k:Int)(y:List Int):Bool:=!((dK (sG x k) (atI y 0) (atI y 1)).state==3)
def Wau (x:xX)(ms:List Int):Int:=ixF (fun k=>(Pa0 x ms).any (Hav x k)) ms
def Bb4 (x:xX)(ms:List Int):List Int:=atI (Pa0 x ms) (ixF (Hav x (atI ms (Wau x ms))) (Pa0 x ms))
def Bb5 (x:xX)(ms:List Int):Int×Int×Int×Bool:=if decide (0<=Wau x ms) then (atI ms (Wau x ms),atI (Bb4 x ms) 0,atI (Bb4 x ms) 1,true) else (0,0,0,false)
def Wat (x:xX)(ms:List Int):Int×Int×Int×Bool:=if zG x ms then Bb5 x ms else (0,0,0,false)
theorem Pau {xs:List Int}{lo hi:Int}(h:Was xs lo hi=true):∀ k∈xs,lo<=k/\k<=hi:=by
 intro k hk;unfold Was at h;rw[jH]at h;obtain⟨i,hi,rfl⟩:=List.getElem_of_mem hk;have:=h i hi;simp only[Obz]at this;rw[cK hi]at this;exact Ua5.1 this.1
theorem Bbn {t:aU}{k no:Int}:Lan t k no=true↔no<=((atI t.rows k).length:Int)\/∃ l∈t.rows,∃ r∈l,Aa6 r k no=true:=by
 unfold Lan;simp only[Qbb,decide_eq_true_eq,Qb3]
theorem Pas {n:Int}{r:dQ}(h:rowOk n r=true)(hg:eF n=true):(r.attr.deps.length:Int)=n/\∀ d∈r.attr.deps,0<=d/\d<=6:=by
 have:=Rar h hg;unfold iW at this;simp only[Obz,beq_iff_eq,Pbv]at this;exact⟨this.1.2,fun d hd=>Ua5.1 (this.2 d hd)⟩
theorem Iaz {x:xX}{ms:List Int}{y:List Int}:y∈Pa0 x ms↔fB x.reps.length y/\Uah x ms (atI y 0) (atI y 1)=true/\Aa8 x ms y=true:=by
 unfold Pa0;rw[Qbu,rD,Obz]
theorem Eas (x:xX)(ms:List Int):uV (Pa0 x ms):=List.Pairwise.filter _ (Cas _)
theorem Ia4 {t:aU}{y:List Int}:y∈Ia5 t↔fB t.n.toNat y/\Lan t (atI y 0) (atI y 1)=true:=by
 unfold Ia5;rw[Qbu,rD]
structure Cov (n:Nat) (ms:List Int) (S:Int->Int->Prop):Prop where
 len:ms.length=n
 rng:∀ x∈ms,0<=x/\x<=6
 iff:∀ j no:Int,0<=j->j<n->1<=no->(no<=atI ms j↔S j no)
theorem Cov.congr {n:Nat}{ms:List Int}{S S':Int->Int->Prop}(h:Cov n ms S)(hs:∀ j no:Int,0<=j->j<n->1<=no->(S j no↔S' j no)):Cov n ms S' :=
 ⟨h.len,h.rng,fun j no h0 h1 h2=>(h.iff j no h0 h1 h2).trans (hs j no h0 h1 h2)⟩
theorem Cov.start (n:Nat):Cov n (Pbp n 0) fun _ _=>False:=by
 refine⟨Qbv,fun x hx=>by rw[List.eq_of_mem_replicate hx];omega,fun j no h0 h1 h2=>?_⟩
 have:atI (Pbp n (0:Int)) j=0:=by
  obtain⟨k,rfl⟩:∃ k:Nat,j=(k:Int):=⟨j.toNat,by omega⟩;rw[cK (by rw[Qbv];omega),List.getElem_replicate]
 rw[this];constructor
 ·intro h;omega
 ·exact False.elim
theorem Cov.most {n:Nat}{ms:List Int}{S:Int->Int->Prop}(h:Cov n ms S){j0 v:Int}(h0:0<=j0)(h1:j0<n)(hv:0<=v)(hv2:v<=6) :
  Cov n (lK ms j0 (max (atI ms j0) v)) fun j no=>S j no\/(j=j0/\no<=v):=by
 have hb:InB ms j0:=by unfold InB;rw[h.len];omega
 have hr:=h.rng _ (jF hb);refine⟨by rw[pY];exact h.len,fun x hx=>?_,fun j no k0 k1 k2=>?_⟩
 ·rcases Ia6 hx with hx|rfl
  ·exact h.rng x hx
  ·omega
 ·by_cases e:j=j0
  ·subst e
   rw[mO hb,<- h.iff j no k0 k1 k2];constructor
   ·intro h3
    rcases Int.le_total (atI ms j) v with h4|h4
    ·exact .inr ⟨rfl,by omega⟩
    ·exact .inl (by omega)
   ·rintro (h3|⟨-,h3⟩)<;>omega
  ·rw[mF k0 h0 e,h.iff j no k0 k1 k2]
   exact⟨.inl,fun h3=>h3.resolve_right fun h4=>e h4.1⟩
def nZ (f:List Int->Bool)(k:Int)(m:Nat):List (List Int):=((Rbx m).map fun i:Nat=>[k,(i:Int)+1]).filter f
theorem Aa7 (f:List Int->Bool)(k:Int)(m:Nat):nZ f k (m+1)=nZ f k m++(if f [k,(m:Int)+1] then [[k,(m:Int)+1]] else []):=by
 unfold nZ;rw[List.range_succ,Rbs,List.filter_append];congr 1;simp only[List.map_cons,List.map_nil,List.filter_cons,List.filter_nil]
def sH (f:List Int->Bool)(k:Nat):List (List Int):=(kI k).filter f
theorem Haf (f:List Int->Bool)(k:Nat):sH f (k+1)=sH f k++nZ f k 6:=by
 unfold sH nZ kI;rw[show Rbx (k+1)=Rbx k++[k] from List.range_succ,List.flatMap_append,List.filter_append];simp
theorem Ta5 {f:List Int->Bool}{k:Int}{m:Nat}(hm:m<=6)(h:∀ i:Nat,m<=i->i<6->f [k,(i:Int)+1]=false):nZ f k m=nZ f k 6:=by
 have key:∀ d,m+d<=6->nZ f k (m+d)=nZ f k m:=by
  intro d
  induction d with
  |zero=>intro _;rfl
  | succ d ih =>
   intro hd;rw[<- Nat.add_assoc,Aa7,ih (by omega),h (m+d) (by omega) (by omega)];simp
 have:=key (6-m) (by omega);rw[show m+(6-m)=6 by omega]at this;exact this.symm
theorem Lai (f:List Int->Bool)(k:Int)(m:Nat):(nZ f k m).length<=m:=by
 unfold nZ;refine Pb8 (Rb0 _ _) ?_;simp
theorem Lak (f:List Int->Bool)(k:Nat):(sH f k).length<=6*k:=by
 unfold sH;have:=Rb0 f (kI k);rw[xW]at this;exact this
structure Zay (x:xX) (ms:List Int) (S:List Int->Prop) (out:List (List Int)):Prop where
 nodup:out.Nodup
 iff:∀ y,y∈out↔S y/\Aa8 x ms y=true
 inst:∀ y∈out,fB x.reps.length y
theorem Zay.done {x:xX}{ms:List Int}{out:List (List Int)}(h:Zay x ms (fun y=>fB x.reps.length y/\Uah x ms (atI y 0) (atI y 1)=true) out):(wB id (out.map prL)).map toL=Pa0 x ms:=by
 obtain⟨h1,h2⟩:=Eag (l:=out) (fun y hy=>(h.inst y hy).1) h.nodup;refine yK h1 (Eas x ms) fun y=>?_
 rw[h2,h.iff,Iaz,and_assoc]
theorem Zay.step {x:xX}{ms:List Int}{S:List Int->Prop}{out:List (List Int)}(h:Zay x ms S out){y:List Int}(hy:fB x.reps.length y) :
  Zay x ms (fun z=>S z\/z=y) (if Aa8 x ms y&&!(out.any fun z=>decide (y=z)) then out++[y] else out):=by
 cases ho:Aa8 x ms y with
 | false =>
  simp only[Bool.false_and,Ob9,if_false];refine⟨h.nodup,fun z=>?_,h.inst⟩;rw[h.iff];constructor
  ·rintro⟨h1,h2⟩;exact⟨.inl h1,h2⟩
  ·rintro⟨h1|rfl,h2⟩
   ·exact⟨h1,h2⟩
   ·rw[ho]at h2;cases h2
 | true =>
  rw[Bool.true_and]
  cases ha:out.any fun z=>decide (y=z) with
  | true =>
   simp only[Bool.not_true,Ob9,if_false];have hm:=Baq.1 ha;refine⟨h.nodup,fun z=>?_,h.inst⟩;rw[h.iff];constructor
   ·rintro⟨h1,h2⟩;exact⟨.inl h1,h2⟩
   ·rintro⟨h1|rfl,h2⟩
    ·exact⟨h1,h2⟩
    ·exact (h.iff z).1 hm
  | false =>
   simp only[Bool.not_false,if_true];have hm:y∉out:=fun hc=>by rw[Baq.2 hc]at ha;cases ha
   refine⟨oU h.nodup hm,fun z=>?_,fun z hz=>?_⟩
   ·rw[Pbe,h.iff,Ob3]
    constructor
    ·rintro (⟨h1,h2⟩|rfl)
     ·exact⟨.inl h1,h2⟩
     ·exact⟨.inr rfl,ho⟩
    ·rintro⟨h1|rfl,h2⟩
     ·exact .inl ⟨h1,h2⟩
     ·exact .inr rfl
   ·rcases Pbe.1 hz with hz|hz
    ·exact h.inst z hz
    ·rw[Ob3.1 hz];exact hy
def Bef {α:Type}(l:List α)(x y:α):Prop:=∃ A B,l=A++B/\x∈A/\y∈B
theorem Bef.idx {α:Type}{l:List α}{x y:α}:Bef l x y↔∃ i j,∃ hi:i<l.length,∃ hj:j<l.length,i<j/\l[i]=x/\l[j]=y:=by
 constructor
 ·rintro⟨A,B,rfl,hx,hy⟩
  obtain⟨i,hi,rfl⟩:=Qb5.1 hx;obtain⟨j,hj,rfl⟩:=Qb5.1 hy;refine⟨i,A.length+j,by rw[Pbg];omega,by rw[Pbg];omega,by omega,?_,?_⟩
  ·rw[Rb7 hi]
  ·rw[List.getElem_append_right (by omega)]
   simp
 ·rintro⟨i,j,hi,hj,tA,rfl,rfl⟩
  refine⟨l.take (i+1),l.drop (i+1),(Rbc _ _).symm,?_,?_⟩
  ·exact Qb5.2 ⟨i,by rw[Qbs];omega,by rw[List.getElem_take]⟩
  ·exact Qb5.2 ⟨j-(i+1),by rw[Rba];omega,by rw[List.getElem_drop];congr 1;omega⟩
theorem Bef.map {α β:Type}{l:List α}{f:α->β}{x y:α}(h:Bef l x y):Bef (l.map f) (f x) (f y):=by
 obtain⟨A,B,rfl,hx,hy⟩:=h;exact⟨A.map f,B.map f,by rw[Rbs],Qbi hx,Qbi hy⟩
def Jbt (G:List (List Int))(out:List (List Int)):Prop:=∀ A C B,out=A++C::B->∀ j∈C,∀ k,Rch G j k->(∃ D∈A,k∈D)\/k∈C
theorem Jbt.step {G:List (List Int)}(hg:GOk G){s:CSt}(h:Sa1 G s)(hr:s.rest≠[])(hp:Jbt G s.out):Jbt G (cO G s).out:=by
 obtain⟨h1,h2,h3,-⟩:=h.top hg hr;have hCr:atI s.rest (Qa1 G s:Int)∈s.rest:=at_mem h1;unfold cO;dsimp only;generalize atI s.rest (Qa1 G s:Int)=C0 at *;intro A C B e j hj k hk
 rcases List.eq_nil_or_concat B with hB|⟨B',b,hB⟩
 ·subst hB
  obtain⟨e1,e2⟩:=List.append_inj' e rfl;rw[Qbf]at e2;obtain⟨rfl,-⟩:=e2;subst e1;obtain⟨a,ha,he,vh⟩:=Aak (h.sub hCr);have vl:InB G (atI C0 0):=by rw[vh];exact ha
  have hja:=(lW hg ha).1 (by rw[<- he];exact hj);exact (Fac hg vl).1 h3 k (by rw[vh];exact hja.1.trans hk)
 ·rw[List.concat_eq_append]at hB
  subst hB;have e':s.out++[C0]=(A++C::B')++[b]:=by rw[e];simp
  obtain⟨e1,-⟩:=List.append_inj' e' rfl;exact hp A C B' e1 j hj k hk
def Ibt (t:aU)(x y:List Int):Prop:=Dao t y x/\(¬ Dao t x y\/Bbq t x<Bbq t y)
theorem Ibt.total {t:aU}(ht:fU t=true){x y:List Int}(hx:x∈Laa t)(hy:y∈Laa t)(ct:x≠y)(h:Dao t x y\/Dao t y x):Ibt t x y\/Ibt t y x:=by
 unfold Ibt;by_cases h1:Dao t x y
 ·by_cases h2:Dao t y x
  ·rcases Int.lt_trichotomy (Bbq t x) (Bbq t y) with h3|h3|h3
   ·exact .inl ⟨h2,.inr h3⟩
   ·exact absurd (Yau ht (Ean ht hx).1 (Ean ht hy).1 h3) ct
   ·exact .inr ⟨h1,.inr h3⟩
  ·exact .inr ⟨h1,.inl h2⟩
 ·rcases h with h|h
  ·exact absurd h h1
  ·exact .inl ⟨h,.inl h1⟩
end Go.Proofs.YtcbkmmhkccnamaaGreat.Rf
