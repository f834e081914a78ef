/- Terms for qq program's functions, and my they are right: part 9 of 9. -/
import Derived.Test.YtcbkmmhkccnamaaGreatRf8
open Bool renaming and_eq_true → Obh, false_eq_true → Obp, or_eq_true → Pbo
open List renaming mem_append_left → Obi, mem_append_right → Obk, getElem?_eq_getElem → Obl, getD_eq_getElem?_getD → Obo, mem_cons_of_mem → Obq, append_assoc → Obs, mem_singleton → Obt, mem_cons_self → Obu, length_append → Obv, replicate → Ob3, length_map → Ob7, all_eq_true → Ob8, append_nil → Pbc, length_cons → Pbm, mem_map_of_mem → Pbu, length_take → Pb3, length_replicate → Pb6, length_nil → Qbc, foldl_cons → Qbe, length_drop → Qbg, take_append_drop → Qbi, mem_of_mem_drop → Qbl, mem_append → Qbn, any_eq_true → Qbo, getElem_mem → Qbp, pairwise_cons → Qbw, map_append → Qb0, mem_filter → Qb1, range → Qb6, length_filter_le → Qb9, mem_range → Rbb, pairwise_map → Rbd, getElem_append_left → Rbg
open Nat renaming le_refl → Oby, lt_or_ge → Ob2, le_trans → Pbl, zero_le → Pby
set_option linter.unusedSimpArgs false
set_option linter.unusedVariables false
set_option linter.unnecessarySimpa false
set_option linter.unusedSectionVars false
namespace Go.Proofs.YtcbkmmhkccnamaaGreat.Rf
def prL (y:List Int):Int×Int:=(atI y 0,atI y 1)
def toL (p:Int×Int):List Int:=[p.1,p.2]
theorem sH {y:List Int}(h:y.length=2):toL (prL y)=y:=by
 match y,h with
 |[a,b],_=>rfl
theorem Tay (p:Int×Int):prL (toL p)=p:=rfl
def ltL (y z:List Int):Prop:=ltQ (prL y) (prL z)=true
theorem nZ {y z:List Int}:ltL y z↔atI y 0<atI z 0\/(atI y 0=atI z 0/\atI y 1<atI z 1):=Iay
def uO (l:List (List Int)):Prop:=l.Pairwise ltL
theorem yD:∀ {xs ys:List (List Int)},uO xs->uO ys->(∀ x,x∈xs↔x∈ys)->xs=ys
 |[],[],_,_,_=>rfl
 |[],y::ys,_,_,h=>by have:=(h y).2 Obu;cases this
 |x::xs,[],_,_,h=>by have:=(h x).1 Obu;cases this
 | x :: xs, y :: ys, hx, hy, h => by
  unfold uO at hx hy;rw[Qbw]at hx hy
  have e:x=y:=by
   rcases List.mem_cons.1 ((h x).1 Obu) with h1|h1
   ·exact h1
   ·rcases List.mem_cons.1 ((h y).2 Obu) with h2|h2
    ·exact h2.symm
    ·have h3:=nZ.1 (hx.1 y h2)
     have h4:=nZ.1 (hy.1 x h1);omega
  subst e;congr 1;refine yD hx.2 hy.2 fun z=>?_
  constructor
  ·intro hz
   rcases List.mem_cons.1 ((h z).1 (Obq _ hz)) with h1|h1
   ·subst h1
    have:=nZ.1 (hx.1 z hz);omega
   ·exact h1
  ·intro hz
   rcases List.mem_cons.1 ((h z).2 (Obq _ hz)) with h1|h1
   ·subst h1
    have:=nZ.1 (hy.1 z hz);omega
   ·exact h1
theorem Da8 {l:List (List Int)}(h2:∀ y∈l,y.length=2)(hn:l.Nodup):uO ((vU id (l.map prL)).map toL)/\∀ y,y∈(vU id (l.map prL)).map toL↔y∈l:=by
 have hp:=oJ id (l.map prL);have hs:=sM id (l.map prL)
 have zm:(l.map prL).Nodup:=by
  unfold List.Nodup;rw[Rbd];refine List.Pairwise.imp_of_mem (fun {a b} ha hb qf e=>qf ?_) hn;rw[<- sH (h2 a ha),<- sH (h2 b hb),e]
 have a5m:(vU id (l.map prL)).Nodup:=hp.nodup_iff.2 zm;constructor
 ·unfold uO
  rw[Rbd];have h3:=List.pairwise_and_iff.2 ⟨hs,a5m⟩;refine h3.imp fun {a b} qf=>?_
  unfold ltL;rw[Tay,Tay];have h4:ltQ b a=false:=qf.1
  cases h5:ltQ a b with
  |true=>rfl
  |false=>exact absurd (Pau h5 h4) qf.2
 ·intro y
  rw[List.mem_map];constructor
  ·rintro⟨p,hp1,rfl⟩
   obtain⟨z,hz,rfl⟩:=List.mem_map.1 (hp.mem_iff.1 hp1);rw[sH (h2 z hz)];exact hz
  ·intro hy
   exact⟨prL y,hp.mem_iff.2 (List.mem_map.2 ⟨y,hy,rfl⟩),sH (h2 y hy)⟩
theorem Pan (l:List (Int×Int)):rL (l.map toL)=.rows 1 (l.map fun p=>[Eak p]):=by
 simp only[rL,List.map_map];rfl
theorem Cbc {l:List (List Int)}(h2:∀ y∈l,y.length=2)(hl:l.length<=1000000):Da9 [rL l]=some [rL ((vU id (l.map prL)).map toL)]:=by
 have e:l=(l.map prL).map toL:=by
  rw[List.map_map]
  conv=>lhs;rw[<- List.map_id l]
  exact List.map_congr_left fun y hy=>(sH (h2 y hy)).symm
 have e1:rL l=.rows 1 ((l.map prL).map fun p=>[Eak p]):=by rw[<- Pan,<- e]
 rw[e1,Pan];simp only[Da9,Ga9,Option.bind_some];rw[if_pos (by rw[Ob7];exact hl)]
def eZ (n:Int)(y:List Int):Prop:=y.length=2/\inst n (atI y 0) (atI y 1)=true
def kG (n:Nat):List (List Int):=(Qb6 n).flatMap fun k:Nat=>(Qb6 6).map fun i:Nat=>[(k:Int),(i:Int)+1]
theorem qX {n:Nat}{y:List Int}:y∈kG n↔eZ n y:=by
 unfold kG eZ;simp only[List.mem_flatMap,Rbb,List.mem_map];constructor
 ·rintro⟨k,hk,i,hi,rfl⟩
  refine⟨rfl,?_⟩;simp only[atI,inst,inR,Obh,decide_eq_true_eq];simp;omega
 ·rintro⟨h1,h2⟩
  match y,h1 with
  | [a, b], _ =>
   have h3:=jG h2;simp only[atI]at h3;simp at h3;refine⟨a.toNat,by omega,(b-1).toNat,by omega,?_⟩;rw[show ((a.toNat:Nat):Int)=a by omega,show (((b-1).toNat:Nat):Int)=b-1 by omega,show b-1+1=b by omega]
theorem xP (n:Nat):(kG n).length=6*n:=by
 unfold kG;rw[List.length_flatMap];simp[List.map_const'];omega
theorem Caj (n:Nat):uO (kG n):=by
 unfold uO kG;rw[List.pairwise_flatMap];refine⟨fun k hk=>?_,?_⟩
 ·rw[Rbd]
  refine List.pairwise_lt_range.imp fun {a b} qf=>?_
  rw[nZ];simp[atI];omega
 ·refine List.pairwise_lt_range.imp fun {a b} qf=>?_
  intro x hx y hy;obtain⟨i,hi,rfl⟩:=List.mem_map.1 hx;obtain⟨j,hj,rfl⟩:=List.mem_map.1 hy;rw[nZ];simp[atI];omega
theorem oP {α:Type}[DecidableEq α]:∀ {l m:List α},l.Nodup->(∀ x∈l,x∈m)->l.length<=m.length
 |[],_,_,_=>Pby _
 | x :: l, m, hn, hs => by
  rw[List.nodup_cons]at hn;have hx:=hs x Obu
  have:=oP (l:=l) (m:=m.erase x) hn.2 fun y hy=>by
   have cn:y≠x:=fun e=>hn.1 (by rw[<- e];exact hy)
   exact (List.mem_erase_of_ne cn).2 (hs y (Obq _ hy))
  have h1:=List.length_erase_of_mem hx;have h2:=List.length_pos_of_mem hx;simp only[Pbm];omega
theorem zN {n:Int}{l:List (List Int)}(hg:eB n=true)(hn:l.Nodup)(h:∀ y∈l,eZ n y):l.length<=30:=by
 have h1:=bL hg;have e:((n.toNat:Nat):Int)=n:=by omega
 have:=oP hn (m:=kG n.toNat) fun y hy=>qX.2 (by rw[e];exact h y hy)
 rw[xP]at this;omega
def Uaz (k:Int)(m:Nat):List (List Int):=(Qb6 m).map fun i:Nat=>[k,(i:Int)+1]
def Bbm (deps:List Int)(m:Nat):List (List Int):=(Qb6 m).flatMap fun k:Nat=>Uaz k (atI deps (k:Int)).toNat
def Caw (t:aT)(x:List Int):List (List Int):=Bbm (jI t (atI x 0) (atI x 1)).attr.deps (jI t (atI x 0) (atI x 1)).attr.deps.length
theorem Law {deps:List Int}{m:Nat}{y:List Int}:y∈Bbm deps m↔∃ k i:Nat,k<m/\(i:Int)<atI deps (k:Int)/\y=[(k:Int),(i:Int)+1]:=by
 unfold Bbm Uaz;simp only[List.mem_flatMap,Rbb,List.mem_map];constructor
 ·rintro⟨k,hk,i,hi,rfl⟩
  exact⟨k,i,hk,by omega,rfl⟩
 ·rintro⟨k,i,hk,hi,rfl⟩
  exact⟨k,hk,i,by omega,rfl⟩
theorem Raz {t:aT}(ht:fP t=true){x y:List Int}(hx:eZ t.n x)(hy:y∈Caw t x):eZ t.n y:=by
 unfold Caw at hy;obtain⟨k,i,hk,hi,rfl⟩:=Law.1 hy;have h1:=Sa2 ht hx.2;have h2:=Rag (Ma6 ht hx.2) (dL ht) _ (at_mem hk);refine⟨rfl,?_⟩;simp only[atI,inst,inR,Obh,decide_eq_true_eq]at h2 ⊢;simp only[atI]at hi;simp;omega
theorem Mai {t:aT}{x y:List Int}(hx:x.length=2):y∈Iba t (atI x 0) (atI x 1)↔y∈Caw t x/\y≠x:=by
 unfold Iba Caw;rw[Ya0,Law]
 match x,hx with
 | [a, b], _ =>
  constructor
  ·rintro⟨k,i,h1,h2,h3,rfl⟩
   refine⟨⟨k,i,h1,h2,rfl⟩,fun e=>h3 ?_⟩;simp only[List.cons.injEq,and_true]at e;exact e
  ·rintro⟨⟨k,i,h1,h2,rfl⟩,cn⟩
   refine⟨k,i,h1,h2,fun e=>cn ?_,rfl⟩;have e1:(k:Int)=a:=e.1;have e2:(i:Int)+1=b:=e.2;rw[e1,e2]
def Man (t:aT)(y:List Int):Bool:=(jI t (atI y 0) (atI y 1)).state==3
inductive Dah (t:aT) (x:List Int):List Int->Prop
 |base:Dah t x x
 |step {z y:List Int} (h:Dah t x z) (hc:Man t z=true) (hy:y∈Caw t z):Dah t x y
theorem Dah.inst {t:aT}(ht:fP t=true){x y:List Int}(hx:eZ t.n x)(h:Dah t x y):eZ t.n y:=by
 induction h with
 |base=>exact hx
 |step _ _ hy ih=>exact Raz ht ih hy
open Classical in
noncomputable def Fau (t:aT)(x:List Int):List (List Int):=(kG t.n.toNat).filter fun y=>decide (Dah t x y/\Man t y=false)
theorem Fat (t:aT)(x:List Int):uO (Fau t x):=by
 unfold Fau;exact (Caj _).filter _
open Classical in
theorem Hau {t:aT}(ht:fP t=true){x y:List Int}(hx:eZ t.n x):y∈Fau t x↔Dah t x y/\Man t y=false:=by
 have h1:=bL (dL ht);have e:((t.n.toNat:Nat):Int)=t.n:=by omega
 unfold Fau;rw[Qb1,decide_eq_true_eq,qX,e];exact⟨fun h=>h.2,fun h=>⟨h.1.inst ht hx,h⟩⟩
theorem Naq {l:List (List Int)}(h:uO l):l.Nodup:=by
 unfold uO at h;refine h.imp fun {a b} qf e=>?_
 subst e;have:=nZ.1 qf;omega
structure BSt where
 met:List (List Int)
 out:List (List Int)
 wait:List (List Int)
def Hav (t:aT)(s:BSt)(y:List Int):BSt:=if s.met.any (fun z=>decide (y=z)) then s else if Man t y then ⟨s.met++[y],s.out,s.wait++[y]⟩ else ⟨s.met++[y],s.out++[y],s.wait⟩
def Ibd (t:aT)(s:BSt):BSt:=let r:=(Caw t (atI s.wait 0)).foldl (Hav t) s;⟨r.met,r.out,r.wait.drop 1⟩
structure BPre (t:aT) (x:List Int) (s:BSt):Prop where
 base:x∈s.met
 nd:s.met.Nodup
 rch:∀ y∈s.met,Dah t x y
 out:∀ y,y∈s.out↔y∈s.met/\Man t y=false
 ond:s.out.Nodup
 wm:∀ y∈s.wait,y∈s.met/\Man t y=true
structure BInv (t:aT) (x:List Int) (s:BSt):Prop extends BPre t x s where
 cl:∀ z∈s.met,Man t z=true->z∈s.wait\/∀ y∈Caw t z,y∈s.met
theorem Baj {l:List (List Int)}{y:List Int}:(l.any fun z=>decide (y=z))=true↔y∈l:=by
 rw[Qbo];constructor
 ·rintro⟨z,h1,h2⟩
  rw[of_decide_eq_true h2];exact h1
 ·exact fun h=>⟨y,h,by simp⟩
theorem Jap {l:List (List Int)}{y:List Int}(h:y∉l):(l.any fun z=>decide (y=z))=false:=by
 cases e:l.any fun z=>decide (y=z) with
 |false=>rfl
 |true=>exact absurd (Baj.1 e) h
theorem oO {l:List (List Int)}{y:List Int}(h:l.Nodup)(hy:y∉l):(l++[y]).Nodup:=by
 rw[List.nodup_append];refine⟨h,by simp,fun a ha b hb e=>?_⟩;rw[List.mem_singleton.1 hb]at e;exact hy (e▸ha)
theorem Va9 {t:aT}{x:List Int}{s:BSt}(h:BPre t x s){y:List Int}(hy:Dah t x y) :
  BPre t x (Hav t s y)/\y∈(Hav t s y).met/\(∀ z∈s.met,z∈(Hav t s y).met)/\(∃ w,(Hav t s y).wait=s.wait++w)/\(∀ z∈(Hav t s y).met,Man t z=true->z∈(Hav t s y).wait\/z∈s.met) /\
   (Hav t s y).wait.length+s.met.length<=s.wait.length+(Hav t s y).met.length:=by
 unfold Hav;by_cases hm:y∈s.met
 ·rw[Baj.2 hm,if_pos rfl]
  exact⟨h,hm,fun z hz=>hz,⟨[],by simp⟩,fun z hz _=>.inr hz,Oby _⟩
 ·rw[Jap hm]
  simp only[Obp,if_false];have dh:∀ z,z∈s.met++[y]↔z∈s.met\/z=y:=fun z=>by simp
  cases hc:Man t y with
  | true =>
   simp only[if_true];refine⟨⟨Obi _ h.base,oO h.nd hm,fun z hz=>?_,fun z=>?_,h.ond,fun z hz=>?_⟩,by simp,fun z hz=>Obi _ hz,⟨[y],rfl⟩,fun z hz _=>?_,by simp<;>omega⟩
   ·rcases (dh z).1 hz with hz|rfl
    ·exact h.rch z hz
    ·exact hy
   ·rw[h.out,dh]
    constructor
    ·exact fun ⟨h1,h2⟩=>⟨.inl h1,h2⟩
    ·rintro⟨h1|rfl,h2⟩
     ·exact⟨h1,h2⟩
     ·rw[hc]at h2;cases h2
   ·rcases List.mem_append.1 hz with hz|hz
    ·exact⟨Obi _ (h.wm z hz).1,(h.wm z hz).2⟩
    ·rw[List.mem_singleton.1 hz]
     exact⟨by simp,hc⟩
   ·rcases (dh z).1 hz with hz|rfl
    ·exact .inr hz
    ·exact .inl (by simp)
  | false =>
   simp only[Obp,if_false];refine⟨⟨Obi _ h.base,oO h.nd hm,fun z hz=>?_,fun z=>?_,oO h.ond (fun hz=>hm ((h.out y).1 hz).1),fun z hz=>?_⟩,by simp,fun z hz=>Obi _ hz,⟨[],by simp⟩,fun z hz hcz=>?_,by simp<;>omega⟩
   ·rcases (dh z).1 hz with hz|rfl
    ·exact h.rch z hz
    ·exact hy
   ·rw[Qbn,h.out,dh,Obt]
    constructor
    ·rintro (⟨h1,h2⟩|rfl)
     ·exact⟨.inl h1,h2⟩
     ·exact⟨.inr rfl,hc⟩
    ·rintro⟨h1|rfl,h2⟩
     ·exact .inl ⟨h1,h2⟩
     ·exact .inr rfl
   ·exact⟨Obi _ (h.wm z hz).1,(h.wm z hz).2⟩
   ·rcases (dh z).1 hz with hz|rfl
    ·exact .inr hz
    ·rw[hc]at hcz;cases hcz
theorem Mav {t:aT}{x:List Int}:∀ {ys:List (List Int)} {s:BSt},BPre t x s->(∀ y∈ys,Dah t x y) ->
  BPre t x (ys.foldl (Hav t) s)/\(∀ y∈ys,y∈(ys.foldl (Hav t) s).met)/\(∀ z∈s.met,z∈(ys.foldl (Hav t) s).met)/\(∃ w,(ys.foldl (Hav t) s).wait=s.wait++w)/\(∀ z∈(ys.foldl (Hav t) s).met,Man t z=true->z∈(ys.foldl (Hav t) s).wait\/z∈s.met) /\
   (ys.foldl (Hav t) s).wait.length+s.met.length<=s.wait.length+(ys.foldl (Hav t) s).met.length
 |[],s,h,_=>⟨h,by simp,fun z hz=>hz,⟨[],by simp⟩,fun z hz _=>.inr hz,Oby _⟩
 | y :: ys, s, h, hr => by
  obtain⟨h1,h2,h3,⟨w,h4⟩,h5,h6⟩:=Va9 h (hr y Obu);obtain⟨k1,k2,k3,⟨w',k4⟩,k5,k6⟩:=Mav (ys:=ys) h1 fun z hz=>hr z (Obq _ hz)
  rw[Qbe];refine⟨k1,fun z hz=>?_,fun z hz=>k3 z (h3 z hz),⟨w++w',by rw[k4,h4,Obs]⟩,fun z hz hc=>?_,by omega⟩
  ·rcases List.mem_cons.1 hz with rfl|hz
   ·exact k3 _ h2
   ·exact k2 z hz
  ·rcases k5 z hz hc with h7|h7
   ·exact .inl h7
   ·rcases h5 z h7 hc with h8|h8
    ·exact .inl (by rw[k4];exact Obi _ h8)
    ·exact .inr h8
theorem BInv.step {t:aT}{x:List Int}{s:BSt}(h:BInv t x s)(hw:s.wait≠[]):BInv t x (Ibd t s)/\(Ibd t s).wait.length+s.met.length<s.wait.length+(Ibd t s).met.length:=by
 obtain⟨z,w,e⟩:∃ z w,s.wait=z::w:=by
  cases hs:s.wait with
  |nil=>exact absurd hs hw
  |cons z w=>exact⟨z,w,rfl⟩
 have xk:atI s.wait 0=z:=by rw[e];rfl
 obtain⟨hzm,yt⟩:=h.wm z (by rw[e];exact Obu);have hr:∀ y∈Caw t z,Dah t x y:=fun y hy=>.step (h.rch z hzm) yt hy
 obtain⟨k1,k2,k3,⟨w',k4⟩,k5,k6⟩:=Mav (ys:=Caw t z) h.toBPre hr;have k4':((Caw t z).foldl (Hav t) s).wait.drop 1=w++w':=by rw[k4,e];rfl
 unfold Ibd;rw[xk];dsimp only;refine⟨⟨⟨k1.base,k1.nd,k1.rch,k1.out,k1.ond,fun y hy=>k1.wm y (Qbl hy)⟩,fun y hy hc=>?_⟩,?_⟩
 ·dsimp only at hy ⊢
  by_cases hyz:y=z
  ·subst hyz
   exact .inr k2
  ·rw[k4']
   rcases k5 y hy hc with h1|h1
   ·rw[k4,e]at h1
    rcases List.mem_append.1 h1 with h1|h1
    ·rcases List.mem_cons.1 h1 with h1|h1
     ·exact absurd h1 hyz
     ·exact .inl (Obi _ h1)
    ·exact .inl (Obk _ h1)
   ·rcases h.cl y h1 hc with h2|h2
    ·rw[e]at h2
     rcases List.mem_cons.1 h2 with h2|h2
     ·exact absurd h2 hyz
     ·exact .inl (Obi _ h2)
    ·exact .inr fun u hu=>k3 u (h2 u hu)
 ·have:0<((Caw t z).foldl (Hav t) s).wait.length:=by rw[k4,e];simp<;>omega
  rw[Qbg];omega
theorem BInv.start {t:aT}{x:List Int}(hc:Man t x=true):BInv t x ⟨[x],[],[x]⟩:=by
 refine⟨⟨by simp,by simp,fun y hy=>?_,fun y=>?_,by simp,fun y hy=>?_⟩,fun z hz _=>.inl hz⟩
 ·rw[List.mem_singleton.1 hy];exact .base
 ·constructor
  ·intro hy;cases hy
  ·rintro⟨h1,h2⟩
   rw[List.mem_singleton.1 h1,hc]at h2;cases h2
 ·rw[List.mem_singleton.1 hy]
  exact⟨by simp,hc⟩
theorem BInv.done {t:aT}(ht:fP t=true){x:List Int}(hx:eZ t.n x){s:BSt}(h:BInv t x s)(hw:s.wait=[]):(vU id (s.out.map prL)).map toL=Fau t x:=by
 have cD:∀ y,Dah t x y->y∈s.met:=by
  intro y hy
  induction hy with
  |base=>exact h.base
  | step _ hc hy ih =>
   rcases h.cl _ ih hc with h1|h1
   ·rw[hw]at h1;cases h1
   ·exact h1 _ hy
 obtain⟨h1,h2⟩:=Da8 (l:=s.out) (fun y hy=>((h.rch y ((h.out y).1 hy).1).inst ht hx).1) h.ond;refine yD h1 (Fat t x) fun y=>?_
 rw[h2,h.out,Hau ht hx];exact⟨fun ⟨h3,h4⟩=>⟨h.rch y h3,h4⟩,fun ⟨h3,h4⟩=>⟨cD y h3,h4⟩⟩
theorem BPre.len {t:aT}(ht:fP t=true){x:List Int}(hx:eZ t.n x){s:BSt}(h:BPre t x s):s.met.length<=30/\s.out.length<=30:=by
 have h1:=zN (dL ht) h.nd fun y hy=>(h.rch y hy).inst ht hx
 have h2:=zN (dL ht) h.ond fun y hy=>(h.rch y ((h.out y).1 hy).1).inst ht hx
 exact⟨h1,h2⟩
def gtL (y x:List Int):Bool:=decide (atI x 0<atI y 0)||((atI y 0==atI x 0)&&decide (atI x 1<atI y 1))
def Dad (l:List (List Int))(x:List Int):Nat->Nat
 |0=>0
 |k+1=>if gtL (atI l (k:Int)) x then Dad l x k else k+1
def Ebv (l:List (List Int))(x:List Int):List (List Int):=l.take (Dad l x l.length)++[x]++l.drop (Dad l x l.length)
theorem Uaw (l:List (List Int))(x:List Int):∀ m,Dad l x m<=m
 |0=>Oby _
 | m + 1 => by
  unfold Dad;split
  ·exact Nat.le_succ_of_le (Uaw l x m)
  ·exact Oby _
theorem Uax {l:List (List Int)}{x:List Int}:∀ {m j:Nat},Dad l x m<=j->j<m->gtL (atI l (j:Int)) x=true
 |0,j,_,h=>by omega
 | m + 1, j, h, hj => by
  unfold Dad at h;split at h
  ·rename_i hg
   rcases Ob2 j m with h1|h1
   ·exact Uax h h1
   ·obtain rfl:j=m:=by omega
    exact hg
  ·omega
theorem Uav {l:List (List Int)}{x:List Int}:∀ {m:Nat},0<Dad l x m->gtL (atI l ((Dad l x m-1:Nat):Int)) x=false
 |0,h=>by simp[Dad]at h
 | m + 1, h => by
  unfold Dad at h ⊢;split
  ·rename_i hg
   rw[if_pos hg]at h;exact Uav h
  ·rename_i hg
   simpa using hg
theorem Ua2 {y x:List Int}:gtL y x=true↔ltL x y:=by
 rw[nZ];unfold gtL;simp only[Pbo,Obh,decide_eq_true_eq,beq_iff_eq];omega
theorem Ia9 {l:List (List Int)}{x y:List Int}:y∈Ebv l x↔y∈l\/y=x:=by
 unfold Ebv
 have e:∀ k,y∈l.take k++[x]++l.drop k↔y∈l\/y=x:=by
  intro k;have h:=Qbi k l;rw[Obs,Qbn,Qbn,Obt];constructor
  ·rintro (h1|h1|h1)
   ·exact .inl (List.mem_of_mem_take h1)
   ·exact .inr h1
   ·exact .inl (Qbl h1)
  ·rintro (h1|h1)
   ·rw[<- h]at h1
    rcases List.mem_append.1 h1 with h1|h1
    ·exact .inl h1
    ·exact .inr (.inr h1)
   ·exact .inr (.inl h1)
 exact e _
theorem Uau {l:List (List Int)}{x:List Int}(h:uO l)(h2:∀ y∈l,y.length=2)(nh:x.length=2)(hx:x∉l):uO (Ebv l x):=by
 have hk:=Uaw l x l.length;have im:=Qbi (Dad l x l.length) l
 have oe:∀ y∈l.take (Dad l x l.length),ltL y x:=by
  intro y hy;obtain⟨j,hj⟩:=List.mem_iff_getElem?.1 hy
  have l7:j<Dad l x l.length:=by
   have:=(List.getElem?_eq_some_iff.1 hj).1;rw[Pb3]at this;omega
  rw[List.getElem?_take,if_pos l7]at hj;have vr:=Uav (l:=l) (x:=x) (m:=l.length) (by omega);have q7:Dad l x l.length-1<l.length:=by omega
  rw[cB q7]at vr;have xp:¬ ltL x l[Dad l x l.length-1]:=fun e=>by rw[<- Ua2,vr]at e;cases e
  have cn:l[Dad l x l.length-1]≠x:=fun e=>hx (e▸Qbp q7)
  have kz:ltL l[Dad l x l.length-1] x:=by
   rw[nZ]at xp ⊢;have ln:=h2 _ (Qbp q7);generalize l[Dad l x l.length-1]=z at xp cn ln ⊢
   have hz:¬ (atI z 0=atI x 0/\atI z 1=atI x 1):=by
    rintro⟨e1,e2⟩
    match z,x,ln,nh with
    | [a, b], [c, d], _, _ =>
     have za:a=c:=e1;have e2':b=d:=e2;exact cn (by rw[za,e2'])
   omega
  rcases Ob2 j (Dad l x l.length-1) with h1|h1
  ·unfold uO at h
   rw[List.pairwise_iff_getElem]at h;have a3u:j<l.length:=by omega
   have h3:=h j (Dad l x l.length-1) a3u q7 h1;rw[(List.getElem?_eq_some_iff.1 hj).2]at h3;rw[nZ]at h3 kz ⊢;omega
  ·have e:j=Dad l x l.length-1:=by omega
   subst e;rw[(List.getElem?_eq_some_iff.1 hj).2]at kz;exact kz
 have tv:∀ y∈l.drop (Dad l x l.length),ltL x y:=by
  intro y hy;obtain⟨j,hj⟩:=List.mem_iff_getElem?.1 hy;rw[List.getElem?_drop]at hj;have l7:=(List.getElem?_eq_some_iff.1 hj).1;have:=Uax (l:=l) (x:=x) (m:=l.length) (j:=Dad l x l.length+j) (by omega) l7;rw[cB l7,(List.getElem?_eq_some_iff.1 hj).2]at this;exact Ua2.1 this
 unfold Ebv uO;unfold uO at h;rw[<- im,List.pairwise_append]at h;rw[Obs,List.pairwise_append];refine⟨h.1,?_,fun a ha b hb=>?_⟩
 ·rw[List.singleton_append,Qbw]
  exact⟨tv,h.2.1⟩
 ·rcases List.mem_append.1 hb with hb|hb
  ·rw[List.mem_singleton.1 hb]
   exact oe a ha
  ·exact h.2.2 a ha b hb
structure SSt where
 met:List (List Int)
 out:List (List Int)
def Sar (t:aT)(s:SSt)(y:List Int):SSt:=if s.met.any (fun z=>decide (y=z))||s.out.any (fun z=>decide (y=z)) then s else if Man t y then ⟨s.met++[y],s.out⟩ else ⟨s.met,Ebv s.out y⟩
def Jbq (t:aT)(s:SSt)(i:Nat):SSt:=(Iba t (atI (atI s.met (i:Int)) 0) (atI (atI s.met (i:Int)) 1)).foldl (Sar t) s
structure SPre (t:aT) (x:List Int) (s:SSt):Prop where
 base:x∈s.met
 nd:s.met.Nodup
 rch:∀ y∈s.met,Dah t x y/\Man t y=true
 och:∀ y∈s.out,Dah t x y/\Man t y=false
 srt:uO s.out
structure Cbd (t:aT) (x:List Int) (i:Nat) (s:SSt):Prop extends SPre t x s where
 le:i<=s.met.length
 cl:∀ j,j<i->∀ y∈Caw t (atI s.met (j:Int)),y∈s.met\/y∈s.out
theorem Tac {t:aT}(ht:fP t=true){x:List Int}(hx:eZ t.n x){s:SSt}(h:SPre t x s){y:List Int}(hy:Dah t x y) :
  SPre t x (Sar t s y)/\(y∈(Sar t s y).met\/y∈(Sar t s y).out)/\(∃ m,(Sar t s y).met=s.met++m)/\(∀ z∈s.out,z∈(Sar t s y).out):=by
 unfold Sar;by_cases hm:y∈s.met
 ·rw[Baj.2 hm,Bool.true_or,if_pos rfl]
  exact⟨h,.inl hm,⟨[],by simp⟩,fun z hz=>hz⟩
 ·by_cases ho:y∈s.out
  ·rw[Baj.2 ho,Bool.or_true,if_pos rfl]
   exact⟨h,.inr ho,⟨[],by simp⟩,fun z hz=>hz⟩
  ·rw[Jap hm,Jap ho]
   simp only[Bool.or_false,Obp,if_false]
   cases hc:Man t y with
   | true =>
    simp only[if_true];refine⟨⟨Obi _ h.base,oO h.nd hm,fun z hz=>?_,h.och,h.srt⟩,.inl (by simp),⟨[y],rfl⟩,fun z hz=>hz⟩
    rcases List.mem_append.1 hz with hz|hz
    ·exact h.rch z hz
    ·rw[List.mem_singleton.1 hz];exact⟨hy,hc⟩
   | false =>
    simp only[Obp,if_false];refine⟨⟨h.base,h.nd,h.rch,fun z hz=>?_,Uau h.srt (fun z hz=>((h.och z hz).1.inst ht hx).1) (hy.inst ht hx).1 ho⟩,.inr (Ia9.2 (.inr rfl)),⟨[],by simp⟩,fun z hz=>Ia9.2 (.inl hz)⟩
    rcases Ia9.1 hz with hz|rfl
    ·exact h.och z hz
    ·exact⟨hy,hc⟩
theorem Kaj {t:aT}(ht:fP t=true){x:List Int}(hx:eZ t.n x):∀ {ys:List (List Int)} {s:SSt},SPre t x s->(∀ y∈ys,Dah t x y) ->
  SPre t x (ys.foldl (Sar t) s)/\(∀ y∈ys,y∈(ys.foldl (Sar t) s).met\/y∈(ys.foldl (Sar t) s).out)/\(∃ m,(ys.foldl (Sar t) s).met=s.met++m)/\(∀ z∈s.out,z∈(ys.foldl (Sar t) s).out)
 |[],s,h,_=>⟨h,by simp,⟨[],by simp⟩,fun z hz=>hz⟩
 | y :: ys, s, h, hr => by
  obtain⟨h1,h2,⟨m,h3⟩,h4⟩:=Tac ht hx h (hr y Obu);obtain⟨k1,k2,⟨m',k3⟩,k4⟩:=Kaj ht hx (ys:=ys) h1 fun z hz=>hr z (Obq _ hz)
  rw[Qbe];refine⟨k1,fun z hz=>?_,⟨m++m',by rw[k3,h3,Obs]⟩,fun z hz=>k4 z (h4 z hz)⟩
  rcases List.mem_cons.1 hz with rfl|hz
  ·rcases h2 with h2|h2
   ·exact .inl (by rw[k3];exact Obi _ h2)
   ·exact .inr (k4 _ h2)
  ·exact k2 z hz
theorem Zaj {α:Type}[Inhabited α]{l m:List α}{j:Nat}(h:j<l.length):atI (l++m) (j:Int)=atI l (j:Int):=by
 rw[cB h,cB (by rw[Obv];omega),Rbg h]
theorem Cbd.step {t:aT}(ht:fP t=true){x:List Int}(hx:eZ t.n x){i:Nat}{s:SSt}(h:Cbd t x i s)(hi:i<s.met.length):Cbd t x (i+1) (Jbq t s i):=by
 have hzm:=at_mem hi;obtain⟨hzr,yt⟩:=h.rch _ hzm;have pD:=(hzr.inst ht hx).1;unfold Jbq;obtain⟨k1,k2,⟨m,k3⟩,k4⟩:=Kaj ht hx (ys:=Iba t (atI (atI s.met (i:Int)) 0) (atI (atI s.met (i:Int)) 1)) h.toSPre fun y hy=>.step hzr yt ((Mai pD).1 hy).1
 refine⟨k1,by rw[k3,Obv];omega,fun j hj y hy=>?_⟩;have l7:j<s.met.length:=by omega
 rw[k3,Zaj l7]at hy
 rcases Ob2 j i with hji|hji
 ·rcases h.cl j hji y hy with h1|h1
  ·exact .inl (by rw[k3];exact Obi _ h1)
  ·exact .inr (k4 y h1)
 ·obtain rfl:j=i:=by omega
  by_cases e:y=atI s.met (j:Int)
  ·exact .inl (by rw[k3,e];exact Obi _ hzm)
  ·exact k2 y ((Mai pD).2 ⟨hy,e⟩)
theorem Cbd.start {t:aT}{x:List Int}(hc:Man t x=true):Cbd t x 0 ⟨[x],[]⟩:=by
 have h1:∀ y∈[x],Dah t x y/\Man t y=true:=fun y hy=>by rw[List.mem_singleton.1 hy];exact⟨.base,hc⟩
 exact⟨⟨by simp,by simp,h1,fun y hy=>absurd hy (List.not_mem_nil),List.Pairwise.nil⟩,Pby _,fun j hj=>absurd hj (Nat.not_lt_zero _)⟩
theorem Cbd.done {t:aT}(ht:fP t=true){x:List Int}(hx:eZ t.n x){s:SSt}(h:Cbd t x s.met.length s):s.out=Fau t x:=by
 have cD:∀ y,Dah t x y->y∈s.met\/y∈s.out:=by
  intro y hy
  induction hy with
  |base=>exact .inl h.base
  | step _ hc hy ih =>
   rcases ih with h1|h1
   ·obtain⟨j,hj,e⟩:=List.mem_iff_getElem.1 h1
    refine h.cl j hj _ ?_;rw[cB hj,e];exact hy
   ·rw[(h.och _ h1).2]at hc;cases hc
 refine yD h.srt (Fat t x) fun y=>?_
 rw[Hau ht hx];refine⟨h.och y,fun ⟨h1,h2⟩=>?_⟩
 rcases cD y h1 with h3|h3
 ·rw[(h.rch y h3).2]at h2;cases h2
 ·exact h3
theorem SPre.len {t:aT}(ht:fP t=true){x:List Int}(hx:eZ t.n x){s:SSt}(h:SPre t x s):s.met.length<=30/\s.out.length<=30:=by
 have h1:=zN (dL ht) h.nd fun y hy=>(h.rch y hy).1.inst ht hx
 have h2:=zN (dL ht) (Naq h.srt) fun y hy=>(h.och y hy).1.inst ht hx
 exact⟨h1,h2⟩
noncomputable def Obd (t:aT)(x:List Int):Bool:=decide ((0:Int)<((Fau t x).length:Nat))
noncomputable def Ka0 (t:aT):List (List Int):=(Cbw t.rows).filter fun x=>!Obd t x
def GOk (G:List (List Int)):Prop:=∀ r∈G,∀ x∈r,InB G x
inductive Rch (G:List (List Int)) (a:Int):Int->Prop
 |refl:Rch G a a
 |step {b c:Int}:Rch G a b->c∈atI G b->Rch G a c
theorem GOk.out {G:List (List Int)}(hg:GOk G){b c:Int}(hb:InB G b)(hc:c∈atI G b):InB G c:=hg _ (jL hb) c hc
theorem Rch.inb {G:List (List Int)}(hg:GOk G){a b:Int}(ha:InB G a)(h:Rch G a b):InB G b:=by
 induction h with
 |refl=>exact ha
 |step _ hc ih=>exact hg.out ih hc
theorem Rch.trans {G:List (List Int)}{a b c:Int}(h:Rch G a b)(h2:Rch G b c):Rch G a c:=by
 induction h2 with
 |refl=>exact h
 |step _ hc ih=>exact .step ih hc
def nums (n:Nat):List Int:=(Qb6 n).map fun k:Nat=>(k:Int)
theorem Par (n:Nat):(nums n).length=n:=by simp[nums]
theorem Ca9 {n:Nat}{x:Int}:x∈nums n↔0<=x/\x<n:=by
 unfold nums;rw[List.mem_map];constructor
 ·rintro⟨k,hk,rfl⟩
  rw[Rbb]at hk;omega
 ·rintro⟨h1,h2⟩
  exact⟨x.toNat,List.mem_range.2 (by omega),by omega⟩
theorem Eal (n:Nat):kL (nums n):=by
 unfold nums kL;rw[Rbd];exact List.pairwise_lt_range.imp fun {a b} h=>by omega
theorem Bay {l:List Int}(h:kL l):l.Nodup:=by
 unfold kL at h;exact h.imp fun {a b} qf e=>by omega
open Classical in
noncomputable def Ebe (G:List (List Int))(a j:Int):Bool:=decide (Rch G a j)
theorem Ian {G:List (List Int)}{a j:Int}:Ebe G a j=true↔Rch G a j:=by
 classical
 unfold Ebe;exact decide_eq_true_iff
noncomputable def Raj (G:List (List Int))(a:Int):List Int:=(nums G.length).filter (Ebe G a)
theorem wZ (G:List (List Int))(a:Int):kL (Raj G a):=by
 unfold Raj kL;exact List.Pairwise.filter _ (Eal _)
theorem qA {G:List (List Int)}(hg:GOk G){a j:Int}(ha:InB G a):j∈Raj G a↔Rch G a j:=by
 unfold Raj;rw[Qb1,Ian,Ca9];exact⟨fun h=>h.2,fun h=>⟨h.inb hg ha,h⟩⟩
structure GSt where
 marks:List Bool
 todo:List Int
def GSt.left (s:GSt):Nat:=s.todo.length+s.marks.countP fun b=>!b
def gI (s:GSt)(c:Int):GSt:=if atI s.marks c then s else ⟨lH s.marks c true,s.todo++[c]⟩
def gO (G:List (List Int))(s:GSt):GSt:=⟨((atI G (atI s.todo 0)).foldl gI s).marks,((atI G (atI s.todo 0)).foldl gI s).todo.drop 1⟩
structure GPre (G:List (List Int)) (a:Int) (s:GSt):Prop where
 len:s.marks.length=G.length
 rch:∀ j,InB G j->atI s.marks j=true->Rch G a j
 sta:InB G a
 st:atI s.marks a=true
 tm:∀ x∈s.todo,InB G x/\atI s.marks x=true
 cnt:s.left<=G.length
structure GInv (G:List (List Int)) (a:Int) (s:GSt):Prop extends GPre G a s where
 cl:∀ j,InB G j->atI s.marks j=true->j∉s.todo->∀ c∈atI G j,atI s.marks c=true
theorem lY {α:Type}[Inhabited α]{xs:List α}{j k:Int}{x:α}(hj:0<=j)(hk:0<=k)(h:j≠k):atI (lH xs k x) j=atI xs j:=by
 have:k.toNat≠j.toNat:=by omega
 unfold atI lH;rw[Obo,Obo,List.getElem?_set_ne this]
theorem mI {α:Type}[Inhabited α]{xs:List α}{k:Int}{x:α}(h:InB xs k):atI (lH xs k x) k=x:=Cbb.1 h
theorem xK:∀ {l:List Bool} {i:Nat},i<l.length->l.getD i default=false->(l.set i true).countP (fun b=>!b)+1=l.countP fun b=>!b
 |[],i,h,_=>by simp at h
 | b :: l, 0, _, h => by
  have hb:b=false:=h;subst hb;simp
 | b :: l, i + 1, h, h2 => by
  have:=xK (l:=l) (i:=i) (by simpa using h) h2;simp only[List.set_cons_succ,List.countP_cons];omega
theorem Bbs {G:List (List Int)}{a:Int}{s:GSt}(h:GPre G a s){c:Int}(hc:InB G c)(hr:Rch G a c) :
  GPre G a (gI s c)/\(∀ j,InB G j->atI s.marks j=true->atI (gI s c).marks j=true)/\atI (gI s c).marks c=true/\(∃ w,(gI s c).todo=s.todo++w)/\(∀ j,InB G j->atI (gI s c).marks j=true->atI s.marks j=true\/j∈(gI s c).todo)/\(gI s c).left=s.left:=by
 unfold gI
 cases hm:atI s.marks c with
 |true=>exact⟨h,fun _ _ hj=>hj,hm,⟨[],by simp⟩,fun _ _ hj=>.inl hj,rfl⟩
 | false =>
  have vv:InB s.marks c:=by unfold InB at hc ⊢;rw[h.len];exact hc
  have sy:∀ j,InB G j->atI s.marks j=true->atI (lH s.marks c true) j=true:=by
   intro j hj jc;by_cases e:j=c
   ·subst e;exact mI vv
   ·rw[lY hj.1 hc.1 e];exact jc
  have tl:GSt.left ⟨lH s.marks c true,s.todo++[c]⟩=s.left:=by
   unfold GSt.left lH;have:=xK (l:=s.marks) (i:=c.toNat) vv.lt hm;simp only[Obv,Pbm,Qbc];omega
  simp only[Obp,if_false];refine⟨⟨by dsimp only;rw[pV];exact h.len,fun j hj jc=>?_,h.sta,sy a h.sta h.st,fun x hx=>?_,by rw[tl];exact h.cnt⟩,sy,mI vv,⟨[c],rfl⟩,fun j hj jc=>?_,tl⟩
  ·by_cases e:j=c
   ·subst e;exact hr
   ·dsimp only at jc
    rw[lY hj.1 hc.1 e]at jc;exact h.rch j hj jc
  ·rcases List.mem_append.1 hx with hx|hx
   ·exact⟨(h.tm x hx).1,sy x (h.tm x hx).1 (h.tm x hx).2⟩
   ·rw[Obt]at hx
    subst hx;exact⟨hc,mI vv⟩
  ·by_cases e:j=c
   ·subst e;exact .inr (by simp)
   ·try dsimp only at jc
    rw[lY hj.1 hc.1 e]at jc;exact .inl jc
theorem Ua5 {G:List (List Int)}{a:Int}:∀ {ys:List Int} {s:GSt},GPre G a s->(∀ c∈ys,InB G c/\Rch G a c) ->
  GPre G a (ys.foldl gI s)/\(∀ j,InB G j->atI s.marks j=true->atI (ys.foldl gI s).marks j=true)/\(∀ c∈ys,atI (ys.foldl gI s).marks c=true)/\(∃ w,(ys.foldl gI s).todo=s.todo++w)/\(∀ j,InB G j->atI (ys.foldl gI s).marks j=true->atI s.marks j=true\/j∈(ys.foldl gI s).todo)/\(ys.foldl gI s).left=s.left
 |[],s,h,_=>⟨h,fun _ _ hj=>hj,fun _ hc=>(by cases hc),⟨[],by simp⟩,fun _ _ hj=>.inl hj,rfl⟩
 | y :: ys, s, h, hy => by
  obtain⟨h1,h2⟩:=hy y Obu;obtain⟨k1,k2,k3,⟨w1,k4⟩,k5,k6⟩:=Bbs h h1 h2;obtain⟨l1,l2,l3,⟨w2,l4⟩,l5,l6⟩:=Ua5 (ys:=ys) k1 fun c hc=>hy c (Obq _ hc)
  rw[Qbe];refine⟨l1,fun j hj jc=>l2 j hj (k2 j hj jc),fun c hc=>?_,⟨w1++w2,by rw[l4,k4,Obs]⟩,fun j hj jc=>?_,by rw[l6,k6]⟩
  ·rcases List.mem_cons.1 hc with hc|hc
   ·subst hc;exact l2 c h1 k3
   ·exact l3 c hc
  ·rcases l5 j hj jc with h3|h3
   ·rcases k5 j hj h3 with h4|h4
    ·exact .inl h4
    ·exact .inr (by rw[l4];exact Obi _ h4)
   ·exact .inr h3
theorem GInv.step {G:List (List Int)}(hg:GOk G){a:Int}{s:GSt}(h:GInv G a s)(hw:s.todo≠[]):GInv G a (gO G s)/\(gO G s).left+1=s.left/\GPre G a ((atI G (atI s.todo 0)).foldl gI s):=by
 have hb:InB s.todo 0:=by
  have:=List.length_pos_iff.2 hw;unfold InB;omega
 obtain⟨z1,z2⟩:=h.tm _ (jL hb);have zr:=h.rch _ z1 z2;have yf:∀ c∈atI G (atI s.todo 0),InB G c/\Rch G a c:=fun c hc=>⟨hg.out z1 hc,.step zr hc⟩
 obtain⟨l1,l2,l3,⟨w,l4⟩,l5,l6⟩:=Ua5 h.toGPre yf
 obtain⟨t,ht⟩:∃ t,s.todo=atI s.todo 0::t:=by
  cases e:s.todo with
  |nil=>exact absurd e hw
  |cons x t=>exact⟨t,rfl⟩
 unfold gO;generalize atI s.todo 0=z at *;generalize (atI G z).foldl gI s=u at *;rw[ht,List.cons_append]at l4
 have a04:GSt.left ⟨u.marks,u.todo.drop 1⟩+1=s.left:=by
  rw[<- l6];unfold GSt.left;rw[l4];simp only[List.drop_succ_cons,List.drop_zero,Pbm];omega
 refine⟨⟨⟨l1.len,l1.rch,l1.sta,l1.st,fun x hx=>l1.tm x (Qbl hx),by have:=h.cnt;omega⟩,fun j hj jc yr c hc=>?_⟩,a04,l1⟩;dsimp only at jc yr ⊢;by_cases e:j=z
 ·subst e
  exact l3 c hc
 ·have hju:j∉u.todo:=by
   rw[l4]at yr ⊢;intro hm
   rcases List.mem_cons.1 hm with h1|h1
   ·exact e h1
   ·exact yr (by simpa using h1)
  rcases l5 j hj jc with h1|h1
  ·have h2:j∉s.todo:=fun hm=>hju (by
    rw[ht]at hm;rw[l4]
    rcases List.mem_cons.1 hm with h1|h1
    ·exact absurd h1 e
    ·exact Obq _ (Obi _ h1))
   exact l2 c (hg.out hj hc) (h.cl j hj h1 h2 c hc)
  ·exact absurd h1 hju
theorem Oak (n:Nat):(Ob3 n false).countP (fun b=>!b)=n:=by
 induction n with
 |zero=>rfl
 |succ n ih=>rw[List.replicate_succ,List.countP_cons,ih];rfl
theorem GInv.start {G:List (List Int)}{a:Int}(ha:InB G a):GInv G a ⟨lH (Ob3 G.length false) a true,[a]⟩:=by
 have hl:InB (Ob3 G.length false) a:=by unfold InB at ha ⊢;rw[Pb6];exact ha
 have hf:(Ob3 G.length false).getD a.toNat default=false:=by
  rw[Obo,Obl hl.lt,List.getElem_replicate];rfl
 have zp:∀ j,InB G j->atI (lH (Ob3 G.length false) a true) j=true->j=a:=by
  intro j hj jc;by_cases e:j=a
  ·exact e
  ·rw[lY hj.1 ha.1 e]at jc
   have hlj:InB (Ob3 G.length false) j:=by unfold InB at hj ⊢;rw[Pb6];exact hj
   unfold atI at jc;rw[Obo,Obl hlj.lt,List.getElem_replicate]at jc;cases jc
 refine⟨⟨by dsimp only;rw[pV,Pb6],fun j hj jc=>by rw[zp j hj jc];exact .refl,ha,mI hl,fun x hx=>?_,?_⟩,fun j hj jc yr=>absurd (by rw[zp j hj jc];exact List.mem_singleton.2 rfl) yr⟩
 ·rw[Obt]at hx
  subst hx;exact⟨ha,mI hl⟩
 ·unfold GSt.left lH
  have:=xK (l:=Ob3 G.length false) (i:=a.toNat) hl.lt hf;rw[Oak]at this;simp only[Pbm,Qbc];omega
theorem GInv.done {G:List (List Int)}(hg:GOk G){a:Int}{s:GSt}(h:GInv G a s)(hw:s.todo=[]){j:Int}(hj:InB G j):atI s.marks j=Ebe G a j:=by
 have cD:∀ b,Rch G a b->InB G b/\atI s.marks b=true:=by
  intro b hb
  induction hb with
  |refl=>exact⟨h.sta,h.st⟩
  |step _ hc ih=>exact⟨hg.out ih.1 hc,h.cl _ ih.1 ih.2 (by rw[hw];simp) _ hc⟩
 rw[Bool.eq_iff_iff,Ian];exact⟨h.rch j hj,fun hr=>(cD j hr).2⟩
structure HSt where
 met:List Int
 que:List Int
def hI (s:HSt)(c:Int):HSt:=if Pa6 s.que c then s else ⟨Xa6 s.met c,s.que++[c]⟩
theorem vK {xs:List Int}{n:Int}:Pa6 xs n=true↔n∈xs:=by
 unfold Pa6;rw[Qbo];constructor
 ·rintro⟨x,hx,e⟩
  rw[<- beq_iff_eq.1 e];exact hx
 ·exact fun h=>⟨n,h,by simp⟩
structure HPre (G:List (List Int)) (a:Int) (s:HSt):Prop where
 rch:∀ x∈s.que,Rch G a x
 nd:s.que.Nodup
 srt:kL s.met
 eq:∀ x,x∈s.met↔x∈s.que
 sta:InB G a
 st:a∈s.que
structure Cbf (G:List (List Int)) (a:Int) (i:Nat) (s:HSt):Prop extends HPre G a s where
 le:i<=s.que.length
 cl:∀ k:Nat,k<i->∀ c∈atI G (atI s.que (k:Int)),c∈s.que
theorem HPre.len {G:List (List Int)}(hg:GOk G){a:Int}{s:HSt}(h:HPre G a s):s.que.length<=G.length/\s.met.length<=G.length:=by
 have h1:∀ x∈s.que,x∈nums G.length:=fun x hx=>Ca9.2 ((h.rch x hx).inb hg h.sta)
 have h2:=oP h.nd h1;have h3:=oP (Bay h.srt) fun x hx=>h1 x ((h.eq x).1 hx)
 rw[Par]at h2 h3;exact⟨h2,h3⟩
theorem Bbn {G:List (List Int)}{a:Int}{s:HSt}(h:HPre G a s){c:Int}(hr:Rch G a c):HPre G a (hI s c)/\c∈(hI s c).que/\∃ w,(hI s c).que=s.que++w:=by
 unfold hI
 cases hm:Pa6 s.que c with
 |true=>exact⟨h,vK.1 hm,[],by simp⟩
 | false =>
  have hn:c∉s.que:=fun e=>by rw[vK.2 e]at hm;cases hm
  simp only[Obp,if_false];refine⟨⟨fun x hx=>?_,?_,Eah h.srt,fun x=>?_,h.sta,Obi _ h.st⟩,by simp,[c],rfl⟩
  ·rcases List.mem_append.1 hx with hx|hx
   ·exact h.rch x hx
   ·rw[List.mem_singleton.1 hx];exact hr
  ·exact List.nodup_append.2 ⟨h.nd,by simp,fun x hx y hy e=>hn (by rw[Obt]at hy;rw[<- hy,<- e];exact hx)⟩
  ·rw[Iaq,h.eq]
   simp
theorem Ua1 {G:List (List Int)}{a:Int}:∀ {ys:List Int} {s:HSt},HPre G a s->(∀ c∈ys,Rch G a c)->HPre G a (ys.foldl hI s)/\(∀ c∈ys,c∈(ys.foldl hI s).que)/\∃ w,(ys.foldl hI s).que=s.que++w
 |[],s,h,_=>⟨h,fun _ hc=>(by cases hc),[],by simp⟩
 | y :: ys, s, h, hy => by
  obtain⟨k1,k2,w1,k3⟩:=Bbn h (hy y Obu);obtain⟨l1,l2,w2,l3⟩:=Ua1 (ys:=ys) k1 fun c hc=>hy c (Obq _ hc)
  rw[Qbe];refine⟨l1,fun c hc=>?_,w1++w2,by rw[l3,k3,Obs]⟩
  rcases List.mem_cons.1 hc with hc|hc
  ·subst hc
   rw[l3];exact Obi _ k2
  ·exact l2 c hc
theorem Cbf.step {G:List (List Int)}{a:Int}{i:Nat}{s:HSt}(h:Cbf G a i s)(hi:i<s.que.length):Cbf G a (i+1) ((atI G (atI s.que (i:Int))).foldl hI s):=by
 have hz:=h.rch _ (at_mem hi);obtain⟨l1,l2,w,l3⟩:=Ua1 h.toHPre (ys:=atI G (atI s.que (i:Int))) fun c hc=>.step hz hc
 generalize he:(atI G (atI s.que (i:Int))).foldl hI s=u at *
 have j9:∀ k:Nat,k<s.que.length->atI u.que (k:Int)=atI s.que (k:Int):=by
  intro k hk;rw[l3,cB (by rw[Obv];omega),cB hk,Rbg hk]
 refine⟨l1,by rw[l3,Obv];omega,fun k hk c hc=>?_⟩;rw[j9 k (by omega)]at hc
 rcases Ob2 k i with h1|h1
 ·rw[l3]
  exact Obi _ (h.cl k h1 c hc)
 ·obtain rfl:k=i:=by omega
  exact l2 c hc
theorem Cbf.start {G:List (List Int)}{a:Int}(ha:InB G a):Cbf G a 0 ⟨[a],[a]⟩ :=
 ⟨⟨fun x hx=>by rw[List.mem_singleton.1 hx];exact .refl,by simp,by simp[kL],fun x=>Iff.rfl,ha,by simp⟩,Pby _,fun k hk=>absurd hk (Nat.not_lt_zero _)⟩
theorem Cbf.done {G:List (List Int)}(hg:GOk G){a:Int}{s:HSt}(h:Cbf G a s.que.length s):s.met=Raj G a:=by
 refine Aax h.srt (wZ _ _) fun x=>?_
 rw[h.eq,qA hg h.sta];refine⟨h.rch x,fun hr=>?_⟩
 induction hr with
 |refl=>exact h.st
 | step _ hc ih =>
  obtain⟨k,hk,e⟩:=List.mem_iff_getElem.1 ih;exact h.cl k hk _ (by rw[cB hk,e];exact hc)
noncomputable def Ra0 (G:List (List Int))(a:Int):List Int:=(Raj G a).filter fun j=>Ebe G j a
theorem lT {G:List (List Int)}(hg:GOk G){a j:Int}(ha:InB G a):j∈Ra0 G a↔Rch G a j/\Rch G j a:=by
 unfold Ra0;rw[Qb1,Ian,qA hg ha]
theorem Ea2 (G:List (List Int))(a:Int):kL (Ra0 G a):=List.Pairwise.filter _ (wZ G a)
theorem Ua3 {G:List (List Int)}(hg:GOk G){a:Int}(ha:InB G a):a∈Ra0 G a:=(lT hg ha).2 ⟨.refl,.refl⟩
theorem Ua4 {G:List (List Int)}(hg:GOk G){a j:Int}(ha:InB G a)(hj:j∈Ra0 G a):Ra0 G j=Ra0 G a:=by
 obtain⟨h1,h2⟩:=(lT hg ha).1 hj;refine Aax (Ea2 _ _) (Ea2 _ _) fun x=>?_
 rw[lT hg (h1.inb hg ha),lT hg ha];exact⟨fun h=>⟨h1.trans h.1,h.2.trans h2⟩,fun h=>⟨h2.trans h.1,h.2.trans h1⟩⟩
noncomputable def uI (G:List (List Int)):List (List Int):=((nums G.length).filter fun i=>atI (Ra0 G i) 0==i).map (Ra0 G)
theorem Yam {l:List Int}(h:l≠[]):atI l 0∈l:=jL (by have:=List.length_pos_iff.2 h;unfold InB;omega)
theorem Aad {G:List (List Int)}{C:List Int}(h:C∈uI G):∃ a,InB G a/\C=Ra0 G a/\atI C 0=a:=by
 unfold uI at h;obtain⟨a,ha,rfl⟩:=List.mem_map.1 h;obtain⟨h1,h2⟩:=List.mem_filter.1 ha;exact⟨a,Ca9.1 h1,rfl,beq_iff_eq.1 h2⟩
theorem Saj {G:List (List Int)}(hg:GOk G){j:Int}(hj:InB G j):∃ C∈uI G,j∈C:=by
 have hs:=Ua3 hg hj;have hm:=Yam (List.ne_nil_of_mem hs);have hi:=((lT hg hj).1 hm).1.inb hg hj;have he:=Ua4 hg hj hm;refine⟨Ra0 G (atI (Ra0 G j) 0),List.mem_map.2 ⟨_,List.mem_filter.2 ⟨Ca9.2 hi,?_⟩,rfl⟩,by rw[he];exact hs⟩;rw[he];simp
theorem Mam (G:List (List Int)):(uI G).Nodup:=by
 unfold uI List.Nodup;rw[Rbd];refine List.Pairwise.imp_of_mem (fun {a b} ha hb qf e=>?_) (List.Pairwise.filter _ (Eal G.length));have h1:=beq_iff_eq.1 (List.mem_filter.1 ha).2;have h2:=beq_iff_eq.1 (List.mem_filter.1 hb).2;rw[e,h2]at h1;omega
theorem Sai (G:List (List Int)):(uI G).length<=G.length:=by
 unfold uI;rw[Ob7];have:=Qb9 (fun i=>atI (Ra0 G i) 0==i) (nums G.length);rw[Par]at this;exact this
structure CSt where
 rest:List (List Int)
 out:List (List Int)
structure Saq (G:List (List Int)) (s:CSt):Prop where
 nd:(s.rest++s.out).Nodup
 mem:∀ C,C∈s.rest++s.out↔C∈uI G
 cl:∀ C∈s.out,∀ j∈C,∀ k,Rch G j k->∃ D∈s.out,k∈D
def Bbx (out:List (List Int))(j:Int):Bool:=out.any fun D=>Pa6 D j
theorem Mag {out:List (List Int)}{j:Int}:Bbx out j=true↔∃ D∈out,j∈D:=by
 unfold Bbx;rw[Qbo];constructor
 ·rintro⟨D,h1,h2⟩;exact⟨D,h1,vK.1 h2⟩
 ·rintro⟨D,h1,h2⟩;exact⟨D,h1,vK.2 h2⟩
noncomputable def Gag (G:List (List Int))(out:List (List Int))(C:List Int):Bool:=(Raj G (atI C 0)).all fun j=>Bbx out j||Pa6 C j
theorem Ea6 {G:List (List Int)}(hg:GOk G){out:List (List Int)}{C:List Int}(hC:InB G (atI C 0)):Gag G out C=true↔∀ j,Rch G (atI C 0) j->(∃ D∈out,j∈D)\/j∈C:=by
 unfold Gag;rw[Ob8];constructor
 ·intro h j hj
  have:=h j ((qA hg hC).2 hj);rw[Pbo,Mag,vK]at this;exact this
 ·intro h j hj
  rw[Pbo,Mag,vK];exact h j ((qA hg hC).1 hj)
theorem Saq.sub {G:List (List Int)}{s:CSt}(h:Saq G s){C:List Int}(hC:C∈s.rest):C∈uI G:=(h.mem C).1 (Obi _ hC)
theorem Ua6 {G:List (List Int)}(hg:GOk G){s:CSt}(h:Saq G s):∀ (n:Nat) (C:List Int),C∈s.rest->(Raj G (atI C 0)).length<=n->∃ D∈s.rest,Gag G s.out D=true
 | n, C, hC, hn => by
  obtain⟨a,ha,he,uy⟩:=Aad (h.sub hC);have vd:InB G (atI C 0):=by rw[uy];exact ha
  by_cases hf:Gag G s.out C=true
  ·exact⟨C,hC,hf⟩
  rw[Ea6 hg vd]at hf;obtain⟨j,hf⟩:=Classical.not_forall.1 hf;obtain⟨hj,hf⟩:=Classical.not_imp.1 hf;rw[not_or]at hf;obtain⟨D,hD,hjD⟩:=Saj hg (hj.inb hg vd)
  have hDr:D∈s.rest:=by
   rcases List.mem_append.1 ((h.mem D).2 hD) with h1|h1
   ·exact h1
   ·exact absurd ⟨D,h1,hjD⟩ hf.1
  obtain⟨b,hb,hDe,heb⟩:=Aad hD;have hD0:InB G (atI D 0):=by rw[heb];exact hb
  have hjb:=(lT hg hb).1 (by rw[<- hDe];exact hjD);rw[<- heb]at hjb
  have hna:¬ Rch G (atI D 0) (atI C 0):=fun hr=>hf.2 (by
   rw[he,lT hg ha,<- uy];exact⟨hj,hjb.2.trans hr⟩)
  have ar:(Raj G (atI D 0)).length<(Raj G (atI C 0)).length:=by
   have dh:atI C 0∈Raj G (atI C 0):=(qA hg vd).2 .refl
   have h1:=oP (l:=Raj G (atI D 0)) (m:=(Raj G (atI C 0)).erase (atI C 0)) (Bay (wZ _ _)) fun x hx=>by
    have nh:=(qA hg hD0).1 hx;refine (List.mem_erase_of_ne fun e=>hna ?_).2 ((qA hg vd).2 ((hj.trans hjb.2).trans nh));rw[<- e];exact nh
   have h2:=List.length_erase_of_mem dh;have h3:=List.length_pos_of_mem dh;omega
  match n with
  |0=>omega
  |n+1=>exact Ua6 hg h n D hDr (by omega)
noncomputable def Qar (G:List (List Int))(s:CSt):Nat:=(ixF (Gag G s.out) s.rest).toNat
noncomputable def cO (G:List (List Int))(s:CSt):CSt:=⟨s.rest.take (Qar G s)++s.rest.drop (Qar G s+1),s.out++[atI s.rest (Qar G s)]⟩
theorem Saq.top {G:List (List Int)}(hg:GOk G){s:CSt}(h:Saq G s)(hr:s.rest≠[]):Qar G s<s.rest.length/\ixF (Gag G s.out) s.rest=(Qar G s:Int)/\Gag G s.out (atI s.rest (Qar G s))=true/\∀ k:Nat,k<Qar G s->Gag G s.out (atI s.rest (k:Int))=false:=by
 obtain⟨C,hC⟩:=List.exists_mem_of_ne_nil _ hr;obtain⟨D,hD,hf⟩:=Ua6 hg h _ C hC (Oby _);obtain⟨k,hk,rfl⟩:=List.mem_iff_getElem.1 hD;have h0:0<=ixF (Gag G s.out) s.rest:=Ebs hk (by rw[cB hk];exact hf);obtain⟨h1,h2,h3⟩:=Yal h0;have e:ixF (Gag G s.out) s.rest=(Qar G s:Int):=by unfold Qar;omega
 rw[e]at h1 h2;refine⟨aP.1 h1,e,h2,fun k hk=>h3 k ?_⟩;rw[e];omega
theorem Bb4 {l out:List (List Int)}{i:Nat}(h:i<l.length):((l.take i++l.drop (i+1))++(out++[atI l (i:Int)])).Perm (l++out):=by
 have e:l=l.take i++atI l (i:Int)::l.drop (i+1):=by
  rw[cB h,<- List.drop_eq_getElem_cons h,Qbi]
 conv=>rhs;rw[e]
 generalize l.take i=A;generalize l.drop (i+1)=B;generalize atI l (i:Int)=C;rw[List.perm_iff_count];intro x;simp only[List.count_append,List.count_cons,List.count_nil];omega
theorem Saq.step {G:List (List Int)}(hg:GOk G){s:CSt}(h:Saq G s)(hr:s.rest≠[]):Saq G (cO G s)/\(cO G s).rest.length+1=s.rest.length:=by
 obtain⟨h1,h2,h3,-⟩:=h.top hg hr;have hp:=Bb4 (out:=s.out) h1;have hCr:atI s.rest (Qar G s:Int)∈s.rest:=at_mem h1;unfold cO;generalize Qar G s=i at *;refine⟨⟨hp.nodup_iff.2 h.nd,fun C=>by rw[hp.mem_iff];exact h.mem C,fun C hC j hj k hk=>?_⟩,by simp only[Obv,Pb3,Qbg];omega⟩;dsimp only at hC ⊢
 rcases List.mem_append.1 hC with hC|hC
 ·obtain⟨D,hD,hkD⟩:=h.cl C hC j hj k hk
  exact⟨D,Obi _ hD,hkD⟩
 ·rw[Obt]at hC
  subst hC;obtain⟨a,ha,he,uy⟩:=Aad (h.sub hCr);have vd:InB G (atI (atI s.rest (i:Int)) 0):=by rw[uy];exact ha
  have hja:=(lT hg ha).1 (by rw[<- he];exact hj)
  rcases (Ea6 hg vd).1 h3 k (by rw[uy];exact hja.1.trans hk) with ⟨D,hD,hkD⟩|hkC
  ·exact⟨D,Obi _ hD,hkD⟩
  ·exact⟨_,Obk _ (List.mem_singleton.2 rfl),hkC⟩
theorem Saq.start (G:List (List Int)):Saq G ⟨uI G,[]⟩ :=
 ⟨by dsimp only;rw[Pbc];exact Mam G,fun C=>by dsimp only;rw[Pbc],fun C hC=>by cases hC⟩
theorem Saq.len {G:List (List Int)}{s:CSt}(h:Saq G s):s.rest.length+s.out.length<=G.length:=by
 have h1:=oP h.nd (m:=uI G) fun C hC=>(h.mem C).1 hC
 rw[Obv]at h1;exact Pbl h1 (Sai G)
theorem Rai {t:aT}{x:List Int}(h:x∈Ka0 t):x∈Cbw t.rows:=by
 unfold Ka0 at h;exact (List.mem_filter.1 h).1
theorem Eag {t:aT}(ht:fP t=true){x:List Int}(h:x∈Ka0 t):eZ t.n x/\(jI t (atI x 0) (atI x 1)).state=3/\x=[atI x 0,atI x 1]/\InB x 0/\InB x 1:=by
 obtain⟨a,b,h1,h2,h3⟩:=Vav ht (Rai h);exact⟨⟨h1,h2⟩,h3,(sH h1).symm,a,b⟩
def Bbg (t:aT)(x:List Int):Int:=100*(jI t (atI x 0) (atI x 1)).attr.seq+10*atI x 0+atI x 1
theorem Taq {n:Int}{r:dO}(h:rowOk n r=true):0<=r.attr.seq/\r.attr.seq<=999:=by
 unfold rowOk at h;simp only[Obh]at h;obtain⟨-,h⟩:=h;split at h
 ·simp only[Obh,decide_eq_true_eq]at h
  rw[h.2];unfold none0;simp
 ·simp only[Obh]at h
  have:=h.2;unfold iR inR at this;simp only[Obh,decide_eq_true_eq]at this;omega
theorem Pa5 {t:aT}(ht:fP t=true){x:List Int}(h:eZ t.n x):0<=(jI t (atI x 0) (atI x 1)).attr.seq/\(jI t (atI x 0) (atI x 1)).attr.seq<=999/\0<=atI x 0/\atI x 0<=4/\1<=atI x 1/\atI x 1<=6:=by
 have h1:=Taq (Ma6 ht h.2);have h2:=jG h.2;have h3:=bL (dL ht);omega
theorem Yai {t:aT}(ht:fP t=true){x y:List Int}(hx:eZ t.n x)(hy:eZ t.n y)(h:Bbg t x=Bbg t y):x=y:=by
 have h1:=Pa5 ht hx;have h2:=Pa5 ht hy;unfold Bbg at h;rw[<- sH hx.1,<- sH hy.1];unfold toL prL;dsimp only;have e1:atI x 0=atI y 0:=by omega
 have e2:atI x 1=atI y 1:=by omega
 rw[e1,e2]
theorem Yap {n:Int}{l:List dO}{no:Int}(h:no<=l.length):ext n l no=l:=by
 unfold ext;rw[show (no-l.length).toNat=0 by omega,List.replicate_zero,Pbc]
def Jba (rd:List (List Int))(s:aT)(k:Nat)(i:Nat):aT:=if decide (Vab rd [(k:Int),(i:Int)+1]<0) then Abj s (k:Int) ((i:Int)+1) (row0 s.n) else s
def Ibb (rd:List (List Int))(k:Nat):Nat->aT->aT
 |0,s=>s
 |m+1,s=>Jba rd (Ibb rd k m s) k m
def Ib9 (rd:List (List Int))(t:aT):Nat->aT
 |0=>t
 |k+1=>Ibb rd k (atI t.rows (k:Int)).length (Ib9 rd t k)
theorem La4 {rd:List (List Int)}{x:List Int}:Vab rd x<0↔x∉rd:=by
 have h:=eP (fun y=>decide (x=y)) rd;constructor
 ·intro h1 hm
  have:rd.any (fun y=>decide (x=y))=true:=List.any_eq_true.2 ⟨x,hm,by simp⟩;rw[this,decide_eq_true_eq]at h;unfold Vab at h1;omega
 ·intro hm
  have:rd.any (fun y=>decide (x=y))=false:=by
   rw[List.any_eq_false];intro y hy e;exact hm (by rw[of_decide_eq_true e];exact hy)
  rw[this,decide_eq_false_iff_not]at h;unfold Vab;omega
structure Sax (rd:List (List Int)) (t s:aT) (k m:Nat):Prop where
 ok:fP s=true
 n:s.n=t.n
 len:∀ j:Nat,(atI s.rows (j:Int)).length=(atI t.rows (j:Int)).length
 row:∀ rep no,inst t.n rep no=true->jI s rep no=if (rep<k\/(rep=k/\no<=m))/\[rep,no]∉rd then row0 t.n else jI t rep no
theorem Sax.rowsLen {rd:List (List Int)}{t s:aT}{k m:Nat}(ht:fP t=true)(h:Sax rd t s k m):s.rows.length=t.rows.length:=by
 have h1:=jB ht;have h2:=jB h.ok;have h3:=h.n;omega
theorem Sax.stepS {rd:List (List Int)}{t s:aT}{k m:Nat}(ht:fP t=true)(h:Sax rd t s k m)(hk:k<t.rows.length)(hm:m<(atI t.rows (k:Int)).length):Sax rd t (Jba rd s k m) k (m+1):=by
 have hlen:=jB ht;have h6:=(jO ht (at_mem hk)).1
 have hi:inst t.n (k:Int) ((m:Int)+1)=true:=by
  unfold inst inR;simp only[Obh,decide_eq_true_eq];omega
 have fh:inst s.n (k:Int) ((m:Int)+1)=true:=by rw[h.n];exact hi
 unfold Jba;cases hf:decide (Vab rd [(k:Int),(m:Int)+1]<0)
 ·have km:[(k:Int),(m:Int)+1]∈rd:=by
   rw[decide_eq_false_iff_not,La4]at hf;exact Classical.not_not.1 hf
  refine⟨h.ok,h.n,h.len,fun rep no hr=>?_⟩;simp only[Obp,if_false];rw[h.row rep no hr];have h0:=jG hr;by_cases e:rep=(k:Int)/\no=(m:Int)+1
  ·obtain⟨e1,e2⟩:=e
   subst e1;subst e2
   rw[if_neg (fun hh=>hh.2 km),if_neg (fun hh=>hh.2 km)]
  ·have:(rep<(k:Int)\/rep=(k:Int)/\no<=(m:Int))↔(rep<(k:Int)\/rep=(k:Int)/\no<=((m+1:Nat):Int)):=by omega
   simp only[this]
 ·have s6:[(k:Int),(m:Int)+1]∉rd:=La4.1 (of_decide_eq_true hf)
  simp only[if_true];refine⟨Abi h.ok fh (by rw[h.n];exact Tar (dL ht)),by unfold Abj;exact h.n,fun j=>?_,fun rep no hr=>?_⟩
  ·have xq:InB s.rows (k:Int):=aP.2 (by rw[h.rowsLen ht];exact hk)
   unfold Abj;dsimp only;by_cases e:j=k
   ·subst e
    rw[mI xq,pV,Yap (by rw[h.len];omega),h.len]
   ·rw[lY (by omega) (by omega) (by omega),h.len]
  ·rw[Sa1 h.ok fh (by rw[h.n];exact hr),h.row rep no hr,h.n]
   have h0:=jG hr;by_cases e:rep=(k:Int)/\no=(m:Int)+1
   ·obtain⟨e1,e2⟩:=e
    subst e1;subst e2
    rw[if_pos ⟨rfl,rfl⟩,if_pos ⟨.inr ⟨rfl,by omega⟩,s6⟩]
   ·rw[if_neg e]
    have:(rep<(k:Int)\/rep=(k:Int)/\no<=(m:Int))↔(rep<(k:Int)\/rep=(k:Int)/\no<=((m+1:Nat):Int)):=by omega
    simp only[this]
theorem Sax.stepN {rd:List (List Int)}{t s:aT}{k:Nat}(ht:fP t=true)(h:Sax rd t s k 0)(hk:k<t.rows.length):∀ m,m<=(atI t.rows (k:Int)).length->Sax rd t (Ibb rd k m s) k m
 |0,_=>h
 |m+1,hm=>(Sax.stepN ht h hk m (by omega)).stepS ht hk (by omega)
theorem Sax.all {rd:List (List Int)}{t:aT}(ht:fP t=true)(gA:∀ x∈rd,x∈Cbw t.rows):∀ k,k<=t.rows.length->Sax rd t (Ib9 rd t k) k 0
 | 0, _ => by
  refine⟨ht,rfl,fun _=>rfl,fun rep no hr=>?_⟩;have h0:=jG hr;rw[if_neg (by omega)];rfl
 | k + 1, hk => by
  have h:=(Sax.all ht gA k (by omega)).stepN ht (by omega) (atI t.rows (k:Int)).length (Oby _);refine⟨h.ok,h.n,h.len,fun rep no hr=>?_⟩;show jI (Ibb rd k _ (Ib9 rd t k)) rep no=_
  rw[h.row rep no hr];have h0:=jG hr;by_cases e:rep=(k:Int)/\¬ no<=((atI t.rows (k:Int)).length:Int)
  ·obtain⟨e1,e2⟩:=e
   have er:jI t rep no=row0 t.n:=by
    unfold jI;rw[e1,if_neg e2]
   rw[er,ite_self,ite_self]
  ·have:(rep<(k:Int)\/rep=(k:Int)/\no<=((atI t.rows (k:Int)).length:Int))↔(rep<((k+1:Nat):Int)\/rep=((k+1:Nat):Int)/\no<=((0:Nat):Int)):=by omega
   simp only[this]
section
variable {T:Nat->Ent} {β:Type}
end
def Aaz (r:dO)(k no:Int):Bool:=(r.state==3)&&decide (no<=atI r.attr.deps k)
def Lad (t:aT)(k no:Int):Bool:=decide (no<=((atI t.rows k).length:Int))||t.rows.any fun l=>l.any fun r=>Aaz r k no
def Iaw (t:aT):List (List Int):=(kG t.n.toNat).filter fun y=>Lad t (atI y 0) (atI y 1)
def sD (x:Bam)(k:Int):aT:=(atI x.reps k).table
def Aa1 (x:Bam)(ms:List Int)(y:List Int):Bool:=ms.any fun k=>!((jI (sD x k) (atI y 0) (atI y 1)).state==3)
def Uaa (x:Bam)(ms:List Int)(k no:Int):Bool:=ms.any fun m=>Lad (sD x m) k no
def Zaz (x:Bam)(ms:List Int):List (List Int):=(kG x.reps.length).filter fun y=>Uaa x ms (atI y 0) (atI y 1)&&Aa1 x ms y
def Hae (x:Bam)(ms:List Int):Bool:=vV x&&decide (0<(ms.length:Int))&&Tas ms 0 ((x.reps.length:Int)-1)
noncomputable def Cbu (x:Bam)(ms:List Int):Bool×Bool:=if Hae x ms then (((Zaz x ms).length:Int)==0,true) else (false,false)
theorem Pal {xs:List Int}{lo hi:Int}(h:Tas xs lo hi=true):∀ k∈xs,lo<=k/\k<=hi:=by
 intro k hk;unfold Tas at h;rw[jD]at h;obtain⟨i,hi,rfl⟩:=List.getElem_of_mem hk;have:=h i hi;simp only[Obh]at this;rw[cB hi]at this;exact Uay.1 this.1
theorem Bbd {t:aT}{k no:Int}:Lad t k no=true↔no<=((atI t.rows k).length:Int)\/∃ l∈t.rows,∃ r∈l,Aaz r k no=true:=by
 unfold Lad;simp only[Pbo,decide_eq_true_eq,Qbo]
theorem Paj {n:Int}{r:dO}(h:rowOk n r=true)(hg:eB n=true):(r.attr.deps.length:Int)=n/\∀ d∈r.attr.deps,0<=d/\d<=6:=by
 have:=Rah h hg;unfold iR at this;simp only[Obh,beq_iff_eq,Ob8]at this;exact⟨this.1.2,fun d hd=>Uay.1 (this.2 d hd)⟩
theorem Xa7 {x:Bam}{ms:List Int}{y:List Int}:y∈Zaz x ms↔eZ x.reps.length y/\Uaa x ms (atI y 0) (atI y 1)=true/\Aa1 x ms y=true:=by
 unfold Zaz;rw[Qb1,qX,Obh]
theorem Ta3 (x:Bam)(ms:List Int):uO (Zaz x ms):=List.Pairwise.filter _ (Caj _)
theorem Iav {t:aT}{y:List Int}:y∈Iaw t↔eZ t.n.toNat y/\Lad t (atI y 0) (atI y 1)=true:=by
 unfold Iaw;rw[Qb1,qX]
structure Cov (n:Nat) (ms:List Int) (S:Int->Int->Prop):Prop where
 len:ms.length=n
 rng:∀ x∈ms,0<=x/\x<=6
 iff:∀ j no:Int,0<=j->j<n->1<=no->(no<=atI ms j↔S j no)
theorem Cov.congr {n:Nat}{ms:List Int}{S S':Int->Int->Prop}(h:Cov n ms S)(hs:∀ j no:Int,0<=j->j<n->1<=no->(S j no↔S' j no)):Cov n ms S' :=
 ⟨h.len,h.rng,fun j no h0 h1 h2=>(h.iff j no h0 h1 h2).trans (hs j no h0 h1 h2)⟩
theorem Cov.start (n:Nat):Cov n (Ob3 n 0) fun _ _=>False:=by
 refine⟨Pb6,fun x hx=>by rw[List.eq_of_mem_replicate hx];omega,fun j no h0 h1 h2=>?_⟩
 have:atI (Ob3 n (0:Int)) j=0:=by
  obtain⟨k,rfl⟩:∃ k:Nat,j=(k:Int):=⟨j.toNat,by omega⟩;rw[cB (by rw[Pb6];omega),List.getElem_replicate]
 rw[this];constructor
 ·intro h;omega
 ·exact False.elim
theorem Cov.most {n:Nat}{ms:List Int}{S:Int->Int->Prop}(h:Cov n ms S){j0 v:Int}(h0:0<=j0)(h1:j0<n)(hv:0<=v)(hv2:v<=6) :
  Cov n (lH ms j0 (max (atI ms j0) v)) fun j no=>S j no\/(j=j0/\no<=v):=by
 have hb:InB ms j0:=by unfold InB;rw[h.len];omega
 have hr:=h.rng _ (jL hb);refine⟨by rw[pV];exact h.len,fun x hx=>?_,fun j no k0 k1 k2=>?_⟩
 ·rcases Iax hx with hx|rfl
  ·exact h.rng x hx
  ·omega
 ·by_cases e:j=j0
  ·subst e
   rw[mI hb,<- h.iff j no k0 k1 k2];constructor
   ·intro h3
    rcases Int.le_total (atI ms j) v with h4|h4
    ·exact .inr ⟨rfl,by omega⟩
    ·exact .inl (by omega)
   ·rintro (h3|⟨-,h3⟩)<;>omega
  ·rw[lY k0 h0 e,h.iff j no k0 k1 k2]
   exact⟨.inl,fun h3=>h3.resolve_right fun h4=>e h4.1⟩
def nX (f:List Int->Bool)(k:Int)(m:Nat):List (List Int):=((Qb6 m).map fun i:Nat=>[k,(i:Int)+1]).filter f
theorem Aa0 (f:List Int->Bool)(k:Int)(m:Nat):nX f k (m+1)=nX f k m++(if f [k,(m:Int)+1] then [[k,(m:Int)+1]] else []):=by
 unfold nX;rw[List.range_succ,Qb0,List.filter_append];congr 1;simp only[List.map_cons,List.map_nil,List.filter_cons,List.filter_nil]
def rY (f:List Int->Bool)(k:Nat):List (List Int):=(kG k).filter f
theorem Ga8 (f:List Int->Bool)(k:Nat):rY f (k+1)=rY f k++nX f k 6:=by
 unfold rY nX kG;rw[show Qb6 (k+1)=Qb6 k++[k] from List.range_succ,List.flatMap_append,List.filter_append];simp
theorem Tax {f:List Int->Bool}{k:Int}{m:Nat}(hm:m<=6)(h:∀ i:Nat,m<=i->i<6->f [k,(i:Int)+1]=false):nX f k m=nX f k 6:=by
 have key:∀ d,m+d<=6->nX f k (m+d)=nX f k m:=by
  intro d
  induction d with
  |zero=>intro _;rfl
  | succ d ih =>
   intro hd;rw[<- Nat.add_assoc,Aa0,ih (by omega),h (m+d) (by omega) (by omega)];simp
 have:=key (6-m) (by omega);rw[show m+(6-m)=6 by omega]at this;exact this.symm
theorem Ka8 (f:List Int->Bool)(k:Int)(m:Nat):(nX f k m).length<=m:=by
 unfold nX;refine Pbl (Qb9 _ _) ?_;simp
theorem Laa (f:List Int->Bool)(k:Nat):(rY f k).length<=6*k:=by
 unfold rY;have:=Qb9 f (kG k);rw[xP]at this;exact this
structure Zan (x:Bam) (ms:List Int) (S:List Int->Prop) (out:List (List Int)):Prop where
 nodup:out.Nodup
 iff:∀ y,y∈out↔S y/\Aa1 x ms y=true
 inst:∀ y∈out,eZ x.reps.length y
theorem Zan.done {x:Bam}{ms:List Int}{out:List (List Int)}(h:Zan x ms (fun y=>eZ x.reps.length y/\Uaa x ms (atI y 0) (atI y 1)=true) out):(vU id (out.map prL)).map toL=Zaz x ms:=by
 obtain⟨h1,h2⟩:=Da8 (l:=out) (fun y hy=>(h.inst y hy).1) h.nodup;refine yD h1 (Ta3 x ms) fun y=>?_
 rw[h2,h.iff,Xa7,and_assoc]
theorem Zan.step {x:Bam}{ms:List Int}{S:List Int->Prop}{out:List (List Int)}(h:Zan x ms S out){y:List Int}(hy:eZ x.reps.length y) :
  Zan x ms (fun z=>S z\/z=y) (if Aa1 x ms y&&!(out.any fun z=>decide (y=z)) then out++[y] else out):=by
 cases ho:Aa1 x ms y with
 | false =>
  simp only[Bool.false_and,Obp,if_false];refine⟨h.nodup,fun z=>?_,h.inst⟩;rw[h.iff];constructor
  ·rintro⟨h1,h2⟩;exact⟨.inl h1,h2⟩
  ·rintro⟨h1|rfl,h2⟩
   ·exact⟨h1,h2⟩
   ·rw[ho]at h2;cases h2
 | true =>
  rw[Bool.true_and]
  cases ha:out.any fun z=>decide (y=z) with
  | true =>
   simp only[Bool.not_true,Obp,if_false];have hm:=Baj.1 ha;refine⟨h.nodup,fun z=>?_,h.inst⟩;rw[h.iff];constructor
   ·rintro⟨h1,h2⟩;exact⟨.inl h1,h2⟩
   ·rintro⟨h1|rfl,h2⟩
    ·exact⟨h1,h2⟩
    ·exact (h.iff z).1 hm
  | false =>
   simp only[Bool.not_false,if_true];have hm:y∉out:=fun hc=>by rw[Baj.2 hc]at ha;cases ha
   refine⟨oO h.nodup hm,fun z=>?_,fun z hz=>?_⟩
   ·rw[Qbn,h.iff,Obt]
    constructor
    ·rintro (⟨h1,h2⟩|rfl)
     ·exact⟨.inl h1,h2⟩
     ·exact⟨.inr rfl,ho⟩
    ·rintro⟨h1|rfl,h2⟩
     ·exact .inl ⟨h1,h2⟩
     ·exact .inr rfl
   ·rcases List.mem_append.1 hz with hz|hz
    ·exact h.inst z hz
    ·rw[List.mem_singleton.1 hz];exact hy
def Bef {α:Type}(l:List α)(x y:α):Prop:=∃ A B,l=A++B/\x∈A/\y∈B
theorem Bef.idx {α:Type}{l:List α}{x y:α}:Bef l x y↔∃ i j,∃ hi:i<l.length,∃ hj:j<l.length,i<j/\l[i]=x/\l[j]=y:=by
 constructor
 ·rintro⟨A,B,rfl,hx,hy⟩
  obtain⟨i,hi,rfl⟩:=List.mem_iff_getElem.1 hx;obtain⟨j,hj,rfl⟩:=List.mem_iff_getElem.1 hy;refine⟨i,A.length+j,by rw[Obv];omega,by rw[Obv];omega,by omega,?_,?_⟩
  ·rw[Rbg hi]
  ·rw[List.getElem_append_right (by omega)]
   simp
 ·rintro⟨i,j,hi,hj,tD,rfl,rfl⟩
  refine⟨l.take (i+1),l.drop (i+1),(Qbi _ _).symm,?_,?_⟩
  ·exact List.mem_iff_getElem.2 ⟨i,by rw[Pb3];omega,by rw[List.getElem_take]⟩
  ·exact List.mem_iff_getElem.2 ⟨j-(i+1),by rw[Qbg];omega,by rw[List.getElem_drop];congr 1;omega⟩
theorem Bef.map {α β:Type}{l:List α}{f:α->β}{x y:α}(h:Bef l x y):Bef (l.map f) (f x) (f y):=by
 obtain⟨A,B,rfl,hx,hy⟩:=h;exact⟨A.map f,B.map f,by rw[Qb0],Pbu hx,Pbu hy⟩
def Jbf (G:List (List Int))(out:List (List Int)):Prop:=∀ A C B,out=A++C::B->∀ j∈C,∀ k,Rch G j k->(∃ D∈A,k∈D)\/k∈C
theorem Jbf.step {G:List (List Int)}(hg:GOk G){s:CSt}(h:Saq G s)(hr:s.rest≠[])(hp:Jbf G s.out):Jbf G (cO G s).out:=by
 obtain⟨h1,h2,h3,-⟩:=h.top hg hr;have hCr:atI s.rest (Qar G s:Int)∈s.rest:=at_mem h1;unfold cO;dsimp only;generalize atI s.rest (Qar G s:Int)=C0 at *;intro A C B e j hj k hk
 rcases List.eq_nil_or_concat B with hB|⟨B',b,hB⟩
 ·subst hB
  obtain⟨e1,e2⟩:=List.append_inj' e rfl;rw[List.cons.injEq]at e2;obtain⟨rfl,-⟩:=e2;subst e1;obtain⟨a,ha,he,uy⟩:=Aad (h.sub hCr);have vd:InB G (atI C0 0):=by rw[uy];exact ha
  have hja:=(lT hg ha).1 (by rw[<- he];exact hj);exact (Ea6 hg vd).1 h3 k (by rw[uy];exact hja.1.trans hk)
 ·rw[List.concat_eq_append]at hB
  subst hB;have e':s.out++[C0]=(A++C::B')++[b]:=by rw[e];simp
  obtain⟨e1,-⟩:=List.append_inj' e' rfl;exact hp A C B' e1 j hj k hk
def Ibf (t:aT)(x y:List Int):Prop:=Dah t y x/\(¬ Dah t x y\/Bbg t x<Bbg t y)
theorem Ibf.total {t:aT}(ht:fP t=true){x y:List Int}(hx:x∈Ka0 t)(hy:y∈Ka0 t)(cn:x≠y)(h:Dah t x y\/Dah t y x):Ibf t x y\/Ibf t y x:=by
 unfold Ibf;by_cases h1:Dah t x y
 ·by_cases h2:Dah t y x
  ·rcases Int.lt_trichotomy (Bbg t x) (Bbg t y) with h3|h3|h3
   ·exact .inl ⟨h2,.inr h3⟩
   ·exact absurd (Yai ht (Eag ht hx).1 (Eag ht hy).1 h3) cn
   ·exact .inr ⟨h1,.inr h3⟩
  ·exact .inr ⟨h1,.inl h2⟩
 ·rcases h with h|h
  ·exact absurd h h1
  ·exact .inl ⟨h,.inl h1⟩
end Go.Proofs.YtcbkmmhkccnamaaGreat.Rf
