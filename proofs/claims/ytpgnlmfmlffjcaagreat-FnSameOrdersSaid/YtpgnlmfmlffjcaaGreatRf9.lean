/- Terms for oe program's functions, and j9 they are right: part 9 of 9. -/
import Derived.Test.YtpgnlmfmlffjcaaGreatRf8
import Derived.Lib.ItoaNum
open Bool renaming and_eq_true → Qb1, false_eq_true → Qb4, not_eq_true' → Rbp, or_eq_true → Sbe, and_true → Sb4, or_false → Tbl, or_true → Tb4, eq_iff_iff → Tb6, true_and → Ubh
open List renaming mem_append_left → Qb2, getElem?_eq_getElem → Qb3, mem_append_right → Qb5, length_append → Qb6, getD_eq_getElem?_getD → Qb8, append_assoc → Rba, mem_singleton → Rbb, mem_cons_of_mem → Rbd, length_cons → Rbe, replicate → Rbf, length_map → Rbh, mem_cons_self → Rbj, length_nil → Rbk, getElem?_append_right → Rbl, length_take → Rbq, append_nil → Rbs, all_eq_true → Rbu, length_replicate → Rbw, take_length → Rb5, length_drop → Sbf, mem_map_of_mem → Sbh, filter_cons → Sbo, take_append_drop → Sbp, map_append → Sbr, length_filter_le → Sbs, filter_append → Sbt, flatMap_append → Sbu, eq_of_mem_replicate → Sbw, getElem_mem → Sbx, cons_append → Sby, mem_range → Sb1, mem_append → Sb5, length_set → Sb6, getElem_inj → Sb7, getElem_map → Sb8, filter_nil → Sb9, mem_of_mem_drop → Tbd, all_cons → Tbe, foldl_cons → Tbf, range_succ → Tbg, mem_flatMap → Tbi, singleton_append → Tbk, pairwise_cons → Tbn, any_eq_true → Tbs, length_pos_of_mem → Tbt, pairwise_map → Tbw, getElem_take → Tbx, range → Tb1, map_congr_left → Tb2, mem_filter → Tb3, all_nil → Tb5, getElem_replicate → Tb7, flatMap_cons → Ubd, pairwise_append → Ube, getElem_append_left → Ubf, ext_getElem → Ubj
open Nat renaming le_refl → Rbg, lt_or_ge → Rbo, zero_le → Sbq, le_trans → Sb3, lt_trichotomy → Tbz
set_option linter.unusedSimpArgs false
set_option linter.unusedVariables false
set_option linter.unnecessarySimpa false
set_option linter.unusedSectionVars false
namespace Go.Proofs.YtpgnlmfmlffjcaaGreat.Rf
def isBytes (d:D):Prop:=WT (.sl 1 [.int .u8]) d
def Pa5 (d:D):Nat:=match d with
 |.rows _ rs=>rs.length
 |_=>0
theorem Ba9 {d:D}(h:isBytes d):aR.len.run [d]=some [i64 (Pa5 d)]/\Pa5 d<=140737488351232:=by
 obtain⟨rs,rfl,h1,h2⟩:=h;refine⟨rfl,?_⟩;simp only[Pa5];have:reachBytes=140737488351232:=rfl;omega
theorem bytes_at {d:D}(h:isBytes d){k:Int}(h0:0<=k)(h1:k<(Pa5 d:Nat)):aR.inb.run [d,i64 k]=some []/\∃ b,(aR.row 1 0 [true]).run [d,i64 k]=some [.int .u8 b]/\0<=b/\b<=255:=by
 obtain⟨rs,rfl,h2,h3⟩:=h;simp only[Pa5]at h1;refine⟨by simp only[aR.run];rw[if_pos ⟨h0,h1⟩],?_⟩;have hk:k.toNat<rs.length:=by omega
 have hm:=h3 _ (Sbx hk);simp only[WTs]at hm;obtain⟨d1,r1,e,⟨b,rfl,kf,dm⟩,rfl⟩:=hm;refine⟨b,?_,kf,dm⟩;simp only[aR.run];rw[if_pos ⟨rfl,h0⟩,Qb3 hk,e];rfl
def u64 (n:Int):D:=.int .u64 n
theorem Lbt {a b:Int}:(aR.bin .mul).run [u64 a,.int .u64 b]=some [u64 (IntKind.u64.wrap (a*b))]:=rfl
theorem Lbw {a b:Int}:(aR.bin .add).run [u64 a,u64 b]=some [u64 (IntKind.u64.wrap (a+b))]:=rfl
theorem Gbs {a b:Int}:(aR.bin .add).run [u64 a,.int .u64 b]=some [u64 (IntKind.u64.wrap (a+b))]:=rfl
theorem Lbs {a:Int}:(aR.bin .shr).run [u64 a,.int .u64 40]=some [u64 (a.fdiv (2 ^ 40))]:=rfl
theorem Lbv {a:Int}:(aR.bin .and).run [u64 a,.int .u64 255]=some [u64 (IntKind.u64.wrap (BitVec.ofInt 64 a &&& BitVec.ofInt 64 255).toNat)]:=rfl
theorem u_conv {a:Int}:(aR.conv .u64).run [i64 a]=some [u64 (IntKind.u64.wrap a)]:=rfl
theorem Waa {a:Int}(h0:0<=a)(h1:a<=255):(aR.conv .i64).run [.int .u8 a]=some [i64 a]:=by
 show some [D.int .i64 (IntKind.i64.wrap a)]=_
 rw[wrap_i64 (by omega) (by omega)]
def Hb9 (a:Int):Int:=IntKind.i64.wrap (IntKind.u64.wrap (BitVec.ofInt 64 a &&& BitVec.ofInt 64 255).toNat)
theorem Lbu {a:Int}:(aR.conv .i64).run [u64 (IntKind.u64.wrap (BitVec.ofInt 64 a &&& BitVec.ofInt 64 255).toNat)]=some [i64 (Hb9 a)]:=rfl
theorem Taa (a:Int):0<=Hb9 a/\Hb9 a<=255:=by
 unfold Hb9
 have h1:(BitVec.ofInt 64 a &&& BitVec.ofInt 64 255).toNat<=255:=by
  rw[BitVec.toNat_and];exact Nat.and_le_right
 generalize (BitVec.ofInt 64 a &&& BitVec.ofInt 64 255).toNat=n at h1;have h2:IntKind.u64.wrap (n:Int)=n:=IntWalk.u64_in n ⟨by omega,by omega⟩;rw[h2,wrap_i64 (by omega) (by omega)];omega
theorem xA {a b:Int}(h0:0<=a)(hb:0<b):(aR.bin .rem).run [i64 a,i64 b]=some [i64 (a % b)]:=by
 simp only[aR.run,Mam,yD,if_true];rw[if_neg (by omega)];rw[Int.tmod_eq_emod_of_nonneg h0];rfl
theorem uC {T:Nat->Ent}{β γ:Type}{body:Tm β}{ρ:List D}{init:List aI}(m:γ->Nat)(inv:γ->Prop)(vs:γ->List D)(Q:Kind×List D->Prop)(c0:γ)(h0:init.map (·.val ρ)=vs c0)(hi:inv c0)
  (h:∀ c,inv c->(∃ c',Er T body (ρ++vs c)=some (.cont,vs c')/\inv c'/\m c'<m c)\/(∃ q,Er T body (ρ++vs c)=some q/\q.1≠.cont/\Q q)):∃ q,Er T (.loop init body) ρ=some q/\Q q :=
 Xai (T:=T) (body:=body) (ρ:=ρ) m inv vs Q (fun c hc=>by
  rcases h c hc with ⟨c',h2,h3,h4⟩|⟨q,h2,h3,h4⟩
  ·exact⟨_,h2,.inl ⟨rfl,c',h3,h4,rfl⟩⟩
  ·exact⟨_,h2,.inr ⟨h3,h4⟩⟩) (m c0) c0 (Rbg _) hi init h0
theorem Ibp:(∀ {a b:Int},(aR.bin .mul).run [u64 a,.int .u64 b]=some [u64 (IntKind.u64.wrap (a*b))])/\(∀ {a b:Int},(aR.bin .add).run [u64 a,u64 b]=some [u64 (IntKind.u64.wrap (a+b))]) /\
  (∀ {a b:Int},(aR.bin .add).run [u64 a,.int .u64 b]=some [u64 (IntKind.u64.wrap (a+b))])/\(∀ {a:Int},(aR.bin .shr).run [u64 a,.int .u64 40]=some [u64 (a.fdiv (2 ^ 40))]) /\
  (∀ {a:Int},(aR.bin .and).run [u64 a,.int .u64 255]=some [u64 (IntKind.u64.wrap (BitVec.ofInt 64 a &&& BitVec.ofInt 64 255).toNat)])/\(∀ {a:Int},(aR.conv .u64).run [i64 a]=some [u64 (IntKind.u64.wrap a)]) /\
  (∀ {a:Int},(aR.conv .i64).run [u64 (IntKind.u64.wrap (BitVec.ofInt 64 a &&& BitVec.ofInt 64 255).toNat)]=some [i64 (Hb9 a)]):=⟨Lbt,Lbw,Gbs,Lbs,Lbv,u_conv,Lbu⟩
theorem Fbu {α:Type}[Inhabited α]{xs ys:List α}{k:Int}(h0:0<=k)(h:k<(xs.length:Int)):atI (xs++ys) k=atI xs k:=by
 unfold atI;rw[Qb8,Qb8,List.getElem?_append_left (by omega)]
theorem Fbt {α:Type}[Inhabited α]{xs:List α}{a:α}{n:Nat}{k:Int}(h:(xs.length:Int)<=k)(h2:k<(xs.length:Int)+n):atI (xs++Rbf n a) k=a:=by
 unfold atI;rw[Qb8,Rbl (by omega),List.getElem?_replicate_of_lt (by omega)];rfl
theorem Aae {t:aG}{rep no:Int}{r:bT}(h:bA t=true)(hi:inst t.n rep no=true){k i:Int}(hk:inst t.n k i=true):fB (Ea4 t rep no r) k i=if k=rep/\i=no then r else fB t k i:=by
 obtain⟨r1,r2,r3,r4⟩:=bG hi;obtain⟨k1,k2,k3,k4⟩:=bG hk;have hb:=dF h hi;have dm:=dF h hk;have hl:=Mab (n:=t.n) (l:=atI t.rows rep) (no:=no) (by omega);unfold fB;simp only[Ea4];by_cases kc:k=rep
 ·subst kc
  have e:atI (fQ t.rows k (fQ (ext t.n (atI t.rows k) no) (no-1) r)) k=fQ (ext t.n (atI t.rows k) no) (no-1) r:=wP.1 hb;simp only[e,gB,true_and];by_cases fx:i=no
  ·subst fx
   rw[if_pos (by omega),if_pos rfl];exact wP.1 (by unfold InB;omega)
  ·rw[if_neg fx]
   rw[Zar (by omega) (by omega) (by omega)];by_cases h1:i<=((atI t.rows k).length:Int)
   ·rw[if_pos (by omega),if_pos h1]
    exact Fbu (by omega) (by omega)
   ·rw[if_neg h1]
    split
    ·exact Fbt (by omega) (by omega)
    ·rfl
 ·rw[if_neg (fun hc=>kc hc.1)]
  have e:atI (fQ t.rows rep (fQ (ext t.n (atI t.rows rep) no) (no-1) r)) k=atI t.rows k:=Zar (by omega) (by omega) (fun e=>kc e.symm);simp only[e]
theorem Gaf {n:Int}(h:dK n=true):rowOk n (row0 n)=true:=by
 have hn:=bD h
 rcases hn with rfl|rfl<;>decide
theorem Pa8 {t:aG}{rep no:Int}{r:bT}(h:bA t=true)(hi:inst t.n rep no=true)(hr:rowOk t.n r=true):bA (Ea4 t rep no r)=true:=by
 obtain⟨r1,r2,r3,r4⟩:=bG hi;have hb:=dF h hi;have hg:=aW h;have hlen:=dG h;have hl:=Mab (n:=t.n) (l:=atI t.rows rep) (no:=no) (by omega);obtain⟨h6,ph⟩:=eU h (dE hb);simp only[bA,Ea4,Qb1,Rbu,beq_iff_eq,decide_eq_true_eq,gB];refine⟨⟨hg,hlen⟩,fun l eN=>?_⟩
 rcases oN eN with eN|rfl
 ·obtain⟨q1,q2⟩:=eU h eN
  exact⟨q2,by omega⟩
 ·refine⟨fun x hx=>?_,by rw[gB];omega⟩
  rcases oN hx with hx|rfl
  ·unfold ext at hx
   rcases List.mem_append.1 hx with hx|hx
   ·exact ph x hx
   ·rw[Sbw hx]
    exact Gaf hg
  ·exact hr
theorem Ea7 {t:aG}(h:bA t=true):iM t.rows:=by
 have hg:=bD (aW h);have hl:=dG h;refine⟨by omega,fun l eN=>?_⟩;obtain⟨q1,q2⟩:=eU h eN;exact⟨by omega,fun r hr=>by have:=Cat (q2 r hr) (aW h);omega⟩
def Fbp (t:aG):List (List Int)×Bool:=if bA t then (bO t.rows,true) else ([],false)
def Gbh (n:Int):aG×Bool:=if dK n then (⟨n,Rbf n.toNat []⟩,true) else (⟨0,[]⟩,false)
theorem Wap (n:Int)(h:dK n=true):iM (Rbf n.toNat ([]:List bT)):=by
 have:=bD h;exact⟨by rw[Rbw];omega,fun l hl=>by rw[Sbw hl];exact⟨by simp,by simp⟩⟩
theorem Law {x lo hi:Int}:inR x lo hi=true↔lo<=x/\x<=hi:=by simp[inR]
def u8 (c:UInt8):D:=.int .u8 (c.toNat:Nat)
def prL (y:List Int):Int×Int:=(atI y 0,atI y 1)
def toL (p:Int×Int):List Int:=[p.1,p.2]
theorem lC {y:List Int}(h:y.length=2):toL (prL y)=y:=by
 match y,h with
 |[a,b],_=>rfl
theorem Wa3 (p:Int×Int):prL (toL p)=p:=rfl
def ltL (y z:List Int):Prop:=ltQ (prL y) (prL z)=true
theorem lX {y z:List Int}:ltL y z↔atI y 0<atI z 0\/(atI y 0=atI z 0/\atI y 1<atI z 1):=Lah
def oC (l:List (List Int)):Prop:=l.Pairwise ltL
theorem uX:∀ {xs ys:List (List Int)},oC xs->oC ys->(∀ x,x∈xs↔x∈ys)->xs=ys
 |[],[],_,_,_=>rfl
 |[],y::ys,_,_,h=>by have:=(h y).2 Rbj;cases this
 |x::xs,[],_,_,h=>by have:=(h x).1 Rbj;cases this
 | x :: xs, y :: ys, hx, hy, h => by
  unfold oC at hx hy;rw[Tbn]at hx hy
  have e:x=y:=by
   rcases List.mem_cons.1 ((h x).1 Rbj) with h1|h1
   ·exact h1
   ·rcases List.mem_cons.1 ((h y).2 Rbj) with h2|h2
    ·exact h2.symm
    ·have h3:=lX.1 (hx.1 y h2)
     have h4:=lX.1 (hy.1 x h1);omega
  subst e;congr 1;refine uX hx.2 hy.2 fun z=>?_
  constructor
  ·intro hz
   rcases List.mem_cons.1 ((h z).1 (Rbd _ hz)) with h1|h1
   ·subst h1
    have:=lX.1 (hx.1 z hz);omega
   ·exact h1
  ·intro hz
   rcases List.mem_cons.1 ((h z).2 (Rbd _ hz)) with h1|h1
   ·subst h1
    have:=lX.1 (hy.1 z hz);omega
   ·exact h1
theorem Gab {l:List (List Int)}(h2:∀ y∈l,y.length=2)(hn:l.Nodup):oC ((jK id (l.map prL)).map toL)/\∀ y,y∈(jK id (l.map prL)).map toL↔y∈l:=by
 have hp:=dJ id (l.map prL);have hs:=oK id (l.map prL)
 have mT:(l.map prL).Nodup:=by
  unfold List.Nodup;rw[Tbw];refine List.Pairwise.imp_of_mem (fun {a b} ha hb jv e=>jv ?_) hn;rw[<- lC (h2 a ha),<- lC (h2 b hb),e]
 have a1j:(jK id (l.map prL)).Nodup:=hp.nodup_iff.2 mT;constructor
 ·unfold oC
  rw[Tbw];have h3:=List.pairwise_and_iff.2 ⟨hs,a1j⟩;refine h3.imp fun {a b} jv=>?_
  unfold ltL;rw[Wa3,Wa3];have h4:ltQ b a=false:=jv.1
  cases h5:ltQ a b with
  |true=>rfl
  |false=>exact absurd (Sa9 h5 h4) jv.2
 ·intro y
  rw[List.mem_map];constructor
  ·rintro⟨p,wh,rfl⟩
   obtain⟨z,hz,rfl⟩:=List.mem_map.1 (hp.mem_iff.1 wh);rw[lC (h2 z hz)];exact hz
  ·intro hy
   exact⟨prL y,hp.mem_iff.2 (List.mem_map.2 ⟨y,hy,rfl⟩),lC (h2 y hy)⟩
theorem Sa1 (l:List (Int×Int)):rL (l.map toL)=.rows 1 (l.map fun p=>[Gan p]):=by
 simp only[rL,List.map_map];rfl
theorem Fbz {l:List (List Int)}(h2:∀ y∈l,y.length=2)(hl:l.length<=1000000):Gac [rL l]=some [rL ((jK id (l.map prL)).map toL)]:=by
 have e:l=(l.map prL).map toL:=by
  rw[List.map_map]
  conv=>lhs;rw[<- List.map_id l]
  exact Tb2 fun y hy=>(lC (h2 y hy)).symm
 have e1:rL l=.rows 1 ((l.map prL).map fun p=>[Gan p]):=by rw[<- Sa1,<- e]
 rw[e1,Sa1];simp only[Gac,Jat,Option.bind_some];rw[if_pos (by rw[Rbh];exact hl)]
def bN (n:Int)(y:List Int):Prop:=y.length=2/\inst n (atI y 0) (atI y 1)=true
def tK (n:Nat):List (List Int):=(Tb1 n).flatMap fun k:Nat=>(Tb1 6).map fun i:Nat=>[(k:Int),(i:Int)+1]
theorem Aaa {n:Nat}{y:List Int}:y∈tK n↔bN n y:=by
 unfold tK bN;simp only[Tbi,Sb1,List.mem_map];constructor
 ·rintro⟨k,hk,i,hi,rfl⟩
  refine⟨rfl,?_⟩;simp only[atI,inst,inR,Qb1,decide_eq_true_eq];simp;omega
 ·rintro⟨h1,h2⟩
  match y,h1 with
  | [a, b], _ =>
   have h3:=bG h2;simp only[atI]at h3;simp at h3;refine⟨a.toNat,by omega,(b-1).toNat,by omega,?_⟩;rw[show ((a.toNat:Nat):Int)=a by omega,show (((b-1).toNat:Nat):Int)=b-1 by omega,show b-1+1=b by omega]
theorem Ra6 (n:Nat):(tK n).length=6*n:=by
 unfold tK;rw[List.length_flatMap];simp[List.map_const'];omega
theorem Ean (n:Nat):oC (tK n):=by
 unfold oC tK;rw[List.pairwise_flatMap];refine⟨fun k hk=>?_,?_⟩
 ·rw[Tbw]
  refine List.pairwise_lt_range.imp fun {a b} jv=>?_
  rw[lX];simp[atI];omega
 ·refine List.pairwise_lt_range.imp fun {a b} jv=>?_
  intro x hx y hy;obtain⟨i,hi,rfl⟩:=List.mem_map.1 hx;obtain⟨j,hj,rfl⟩:=List.mem_map.1 hy;rw[lX];simp[atI];omega
theorem jL {α:Type}[DecidableEq α]:∀ {l m:List α},l.Nodup->(∀ x∈l,x∈m)->l.length<=m.length
 |[],_,_,_=>Sbq _
 | x :: l, m, hn, hs => by
  rw[List.nodup_cons]at hn;have hx:=hs x Rbj
  have:=jL (l:=l) (m:=m.erase x) hn.2 fun y hy=>by
   have bh:y≠x:=fun e=>hn.1 (by rw[<- e];exact hy)
   exact (List.mem_erase_of_ne bh).2 (hs y (Rbd _ hy))
  have h1:=List.length_erase_of_mem hx;have h2:=Tbt hx;simp only[Rbe];omega
theorem Bak {n:Int}{l:List (List Int)}(hg:dK n=true)(hn:l.Nodup)(h:∀ y∈l,bN n y):l.length<=30:=by
 have h1:=bD hg;have e:((n.toNat:Nat):Int)=n:=by omega
 have:=jL hn (m:=tK n.toNat) fun y hy=>Aaa.2 (by rw[e];exact h y hy)
 rw[Ra6]at this;omega
def nP (k:Int)(m:Nat):List (List Int):=(Tb1 m).map fun i:Nat=>[k,(i:Int)+1]
def yE (deps:List Int)(m:Nat):List (List Int):=(Tb1 m).flatMap fun k:Nat=>nP k (atI deps (k:Int)).toNat
theorem Oax (k:Int)(m:Nat):nP k (m+1)=nP k m++[[k,(m:Int)+1]]:=by simp[nP,Tbg]
theorem Ja6 (deps:List Int)(m:Nat):yE deps (m+1)=yE deps m++nP m (atI deps (m:Int)).toNat:=by simp[yE,Tbg,Sbu]
def nQ (t:aG)(x:List Int):List (List Int):=yE (fB t (atI x 0) (atI x 1)).attr.deps (fB t (atI x 0) (atI x 1)).attr.deps.length
theorem Ga8 (k:Int)(m:Nat):(nP k m).length=m:=by simp[nP]
theorem Haa {deps:List Int}(h:∀ d∈deps,d<=6):∀ {m},m<=deps.length->(yE deps m).length<=6*m
 |0,_=>by simp[yE]
 | m + 1, hm => by
  have h1:=Haa h (m:=m) (by omega);have h3:=h _ (at_mem (show m<deps.length by omega));rw[Ja6,Qb6,Ga8];omega
theorem Ga9 {deps:List Int}{m:Nat}{y:List Int}:y∈yE deps m↔∃ k i:Nat,k<m/\(i:Int)<atI deps (k:Int)/\y=[(k:Int),(i:Int)+1]:=by
 unfold yE nP;simp only[Tbi,Sb1,List.mem_map];constructor
 ·rintro⟨k,hk,i,hi,rfl⟩
  exact⟨k,i,hk,by omega,rfl⟩
 ·rintro⟨k,i,hk,hi,rfl⟩
  exact⟨k,hk,i,by omega,rfl⟩
theorem Vaa {t:aG}(ht:bA t=true){x y:List Int}(hx:bN t.n x)(hy:y∈nQ t x):bN t.n y:=by
 unfold nQ at hy;obtain⟨k,i,hk,hi,rfl⟩:=Ga9.1 hy;have h1:=iN ht hx.2;have h2:=mV (mZ ht hx.2) (aW ht) _ (at_mem hk);refine⟨rfl,?_⟩;simp only[atI,inst,inR,Qb1,decide_eq_true_eq]at h2 ⊢;simp only[atI]at hi;simp;omega
theorem Xa6 {t:aG}(ht:bA t=true){x:List Int}(hx:bN t.n x):(nQ t x).length<=30:=by
 have h1:=iN ht hx.2;have h2:=mV (mZ ht hx.2) (aW ht);have h3:=bD (aW ht);have:=Haa (fun d hd=>(h2 d hd).2) (Rbg (fB t (atI x 0) (atI x 1)).attr.deps.length);unfold nQ;omega
theorem Hav {t:aG}{x y:List Int}(hx:x.length=2):y∈Iaw t (atI x 0) (atI x 1)↔y∈nQ t x/\y≠x:=by
 unfold Iaw nQ;rw[Fai,Ga9]
 match x,hx with
 | [a, b], _ =>
  constructor
  ·rintro⟨k,i,h1,h2,h3,rfl⟩
   refine⟨⟨k,i,h1,h2,rfl⟩,fun e=>h3 ?_⟩;simp only[List.cons.injEq,and_true]at e;exact e
  ·rintro⟨⟨k,i,h1,h2,rfl⟩,bh⟩
   refine⟨k,i,h1,h2,fun e=>bh ?_,rfl⟩;have e1:(k:Int)=a:=e.1;have e2:(i:Int)+1=b:=e.2;rw[e1,e2]
def qZ (t:aG)(y:List Int):Bool:=(fB t (atI y 0) (atI y 1)).state==3
inductive wQ (t:aG) (x:List Int):List Int->Prop
 |base:wQ t x x
 |step {z y:List Int} (h:wQ t x z) (hc:qZ t z=true) (hy:y∈nQ t z):wQ t x y
theorem wQ.inst {t:aG}(ht:bA t=true){x y:List Int}(hx:bN t.n x)(h:wQ t x y):bN t.n y:=by
 induction h with
 |base=>exact hx
 |step _ _ hy ih=>exact Vaa ht ih hy
open Classical in
noncomputable def pJ (t:aG)(x:List Int):List (List Int):=(tK t.n.toNat).filter fun y=>decide (wQ t x y/\qZ t y=false)
theorem Ha3 (t:aG)(x:List Int):oC (pJ t x):=by
 unfold pJ;exact (Ean _).filter _
open Classical in
theorem rC {t:aG}(ht:bA t=true){x y:List Int}(hx:bN t.n x):y∈pJ t x↔wQ t x y/\qZ t y=false:=by
 have h1:=bD (aW ht);have e:((t.n.toNat:Nat):Int)=t.n:=by omega
 unfold pJ;rw[Tb3,decide_eq_true_eq,Aaa,e];exact⟨fun h=>h.2,fun h=>⟨h.1.inst ht hx,h⟩⟩
theorem rW {l:List (List Int)}(h:oC l):l.Nodup:=by
 unfold oC at h;refine h.imp fun {a b} jv e=>?_
 subst e;have:=lX.1 jv;omega
structure BSt where
 met:List (List Int)
 out:List (List Int)
 wait:List (List Int)
def Ha4 (t:aG)(s:BSt)(y:List Int):BSt:=if s.met.any (fun z=>decide (y=z)) then s else if qZ t y then ⟨s.met++[y],s.out,s.wait++[y]⟩ else ⟨s.met++[y],s.out++[y],s.wait⟩
def Gbj (t:aG)(s:BSt):BSt:=let r:=(nQ t (atI s.wait 0)).foldl (Ha4 t) s;⟨r.met,r.out,r.wait.drop 1⟩
structure BPre (t:aG) (x:List Int) (s:BSt):Prop where
 base:x∈s.met
 nd:s.met.Nodup
 rch:∀ y∈s.met,wQ t x y
 out:∀ y,y∈s.out↔y∈s.met/\qZ t y=false
 ond:s.out.Nodup
 wm:∀ y∈s.wait,y∈s.met/\qZ t y=true
structure BInv (t:aG) (x:List Int) (s:BSt):Prop extends BPre t x s where
 cl:∀ z∈s.met,qZ t z=true->z∈s.wait\/∀ y∈nQ t z,y∈s.met
theorem Dam {l:List (List Int)}{y:List Int}:(l.any fun z=>decide (y=z))=true↔y∈l:=by
 rw[Tbs];constructor
 ·rintro⟨z,h1,h2⟩
  rw[of_decide_eq_true h2];exact h1
 ·exact fun h=>⟨y,h,by simp⟩
theorem Fal {l:List (List Int)}{y:List Int}(h:y∉l):(l.any fun z=>decide (y=z))=false:=by
 cases e:l.any fun z=>decide (y=z) with
 |false=>rfl
 |true=>exact absurd (Dam.1 e) h
theorem qM {l:List (List Int)}{y:List Int}(h:l.Nodup)(hy:y∉l):(l++[y]).Nodup:=by
 rw[List.nodup_append];refine⟨h,by simp,fun a ha b hb e=>?_⟩;rw[List.mem_singleton.1 hb]at e;exact hy (e▸ha)
theorem Pax {t:aG}{x:List Int}{s:BSt}(h:BPre t x s){y:List Int}(hy:wQ t x y) :
  BPre t x (Ha4 t s y)/\y∈(Ha4 t s y).met/\(∀ z∈s.met,z∈(Ha4 t s y).met)/\(∃ w,(Ha4 t s y).wait=s.wait++w)/\(∀ z∈(Ha4 t s y).met,qZ t z=true->z∈(Ha4 t s y).wait\/z∈s.met) /\
   (Ha4 t s y).wait.length+s.met.length<=s.wait.length+(Ha4 t s y).met.length:=by
 unfold Ha4;by_cases hm:y∈s.met
 ·rw[Dam.2 hm,if_pos rfl]
  exact⟨h,hm,fun z hz=>hz,⟨[],by simp⟩,fun z hz _=>.inr hz,Rbg _⟩
 ·rw[Fal hm]
  simp only[Qb4,if_false];have bq:∀ z,z∈s.met++[y]↔z∈s.met\/z=y:=fun z=>by simp
  cases hc:qZ t y with
  | true =>
   simp only[if_true];refine⟨⟨Qb2 _ h.base,qM h.nd hm,fun z hz=>?_,fun z=>?_,h.ond,fun z hz=>?_⟩,by simp,fun z hz=>Qb2 _ hz,⟨[y],rfl⟩,fun z hz _=>?_,by simp<;>omega⟩
   ·rcases (bq z).1 hz with hz|rfl
    ·exact h.rch z hz
    ·exact hy
   ·rw[h.out,bq]
    constructor
    ·exact fun ⟨h1,h2⟩=>⟨.inl h1,h2⟩
    ·rintro⟨h1|rfl,h2⟩
     ·exact⟨h1,h2⟩
     ·rw[hc]at h2;cases h2
   ·rcases List.mem_append.1 hz with hz|hz
    ·exact⟨Qb2 _ (h.wm z hz).1,(h.wm z hz).2⟩
    ·rw[List.mem_singleton.1 hz]
     exact⟨by simp,hc⟩
   ·rcases (bq z).1 hz with hz|rfl
    ·exact .inr hz
    ·exact .inl (by simp)
  | false =>
   simp only[Qb4,if_false];refine⟨⟨Qb2 _ h.base,qM h.nd hm,fun z hz=>?_,fun z=>?_,qM h.ond (fun hz=>hm ((h.out y).1 hz).1),fun z hz=>?_⟩,by simp,fun z hz=>Qb2 _ hz,⟨[],by simp⟩,fun z hz hcz=>?_,by simp<;>omega⟩
   ·rcases (bq z).1 hz with hz|rfl
    ·exact h.rch z hz
    ·exact hy
   ·rw[Sb5,h.out,bq,Rbb]
    constructor
    ·rintro (⟨h1,h2⟩|rfl)
     ·exact⟨.inl h1,h2⟩
     ·exact⟨.inr rfl,hc⟩
    ·rintro⟨h1|rfl,h2⟩
     ·exact .inl ⟨h1,h2⟩
     ·exact .inr rfl
   ·exact⟨Qb2 _ (h.wm z hz).1,(h.wm z hz).2⟩
   ·rcases (bq z).1 hz with hz|rfl
    ·exact .inr hz
    ·rw[hc]at hcz;cases hcz
theorem Ha5 {t:aG}{x:List Int}:∀ {ys:List (List Int)} {s:BSt},BPre t x s->(∀ y∈ys,wQ t x y) ->
  BPre t x (ys.foldl (Ha4 t) s)/\(∀ y∈ys,y∈(ys.foldl (Ha4 t) s).met)/\(∀ z∈s.met,z∈(ys.foldl (Ha4 t) s).met)/\(∃ w,(ys.foldl (Ha4 t) s).wait=s.wait++w)/\(∀ z∈(ys.foldl (Ha4 t) s).met,qZ t z=true->z∈(ys.foldl (Ha4 t) s).wait\/z∈s.met) /\
   (ys.foldl (Ha4 t) s).wait.length+s.met.length<=s.wait.length+(ys.foldl (Ha4 t) s).met.length
 |[],s,h,_=>⟨h,by simp,fun z hz=>hz,⟨[],by simp⟩,fun z hz _=>.inr hz,Rbg _⟩
 | y :: ys, s, h, hr => by
  obtain⟨h1,h2,h3,⟨w,h4⟩,h5,h6⟩:=Pax h (hr y Rbj);obtain⟨k1,k2,k3,⟨w',k4⟩,k5,k6⟩:=Ha5 (ys:=ys) h1 fun z hz=>hr z (Rbd _ hz)
  rw[Tbf];refine⟨k1,fun z hz=>?_,fun z hz=>k3 z (h3 z hz),⟨w++w',by rw[k4,h4,Rba]⟩,fun z hz hc=>?_,by omega⟩
  ·rcases List.mem_cons.1 hz with rfl|hz
   ·exact k3 _ h2
   ·exact k2 z hz
  ·rcases k5 z hz hc with h7|h7
   ·exact .inl h7
   ·rcases h5 z h7 hc with h8|h8
    ·exact .inl (by rw[k4];exact Qb2 _ h8)
    ·exact .inr h8
theorem BInv.step {t:aG}{x:List Int}{s:BSt}(h:BInv t x s)(hw:s.wait≠[]):BInv t x (Gbj t s)/\(Gbj t s).wait.length+s.met.length<s.wait.length+(Gbj t s).met.length:=by
 obtain⟨z,w,e⟩:∃ z w,s.wait=z::w:=by
  cases hs:s.wait with
  |nil=>exact absurd hs hw
  |cons z w=>exact⟨z,w,rfl⟩
 have qT:atI s.wait 0=z:=by rw[e];rfl
 obtain⟨wk,qc⟩:=h.wm z (by rw[e];exact Rbj);have hr:∀ y∈nQ t z,wQ t x y:=fun y hy=>.step (h.rch z wk) qc hy
 obtain⟨k1,k2,k3,⟨w',k4⟩,k5,k6⟩:=Ha5 (ys:=nQ t z) h.toBPre hr;have k4':((nQ t z).foldl (Ha4 t) s).wait.drop 1=w++w':=by rw[k4,e];rfl
 unfold Gbj;rw[qT];dsimp only;refine⟨⟨⟨k1.base,k1.nd,k1.rch,k1.out,k1.ond,fun y hy=>k1.wm y (Tbd hy)⟩,fun y hy hc=>?_⟩,?_⟩
 ·dsimp only at hy ⊢
  by_cases xm:y=z
  ·subst xm
   exact .inr k2
  ·rw[k4']
   rcases k5 y hy hc with h1|h1
   ·rw[k4,e]at h1
    rcases List.mem_append.1 h1 with h1|h1
    ·rcases List.mem_cons.1 h1 with h1|h1
     ·exact absurd h1 xm
     ·exact .inl (Qb2 _ h1)
    ·exact .inl (Qb5 _ h1)
   ·rcases h.cl y h1 hc with h2|h2
    ·rw[e]at h2
     rcases List.mem_cons.1 h2 with h2|h2
     ·exact absurd h2 xm
     ·exact .inl (Qb2 _ h2)
    ·exact .inr fun u hu=>k3 u (h2 u hu)
 ·have:0<((nQ t z).foldl (Ha4 t) s).wait.length:=by rw[k4,e];simp<;>omega
  rw[Sbf];omega
theorem BInv.start {t:aG}{x:List Int}(hc:qZ t x=true):BInv t x ⟨[x],[],[x]⟩:=by
 refine⟨⟨by simp,by simp,fun y hy=>?_,fun y=>?_,by simp,fun y hy=>?_⟩,fun z hz _=>.inl hz⟩
 ·rw[List.mem_singleton.1 hy];exact .base
 ·constructor
  ·intro hy;cases hy
  ·rintro⟨h1,h2⟩
   rw[List.mem_singleton.1 h1,hc]at h2;cases h2
 ·rw[List.mem_singleton.1 hy]
  exact⟨by simp,hc⟩
theorem BInv.done {t:aG}(ht:bA t=true){x:List Int}(hx:bN t.n x){s:BSt}(h:BInv t x s)(hw:s.wait=[]):(jK id (s.out.map prL)).map toL=pJ t x:=by
 have br:∀ y,wQ t x y->y∈s.met:=by
  intro y hy
  induction hy with
  |base=>exact h.base
  | step _ hc hy ih =>
   rcases h.cl _ ih hc with h1|h1
   ·rw[hw]at h1;cases h1
   ·exact h1 _ hy
 obtain⟨h1,h2⟩:=Gab (l:=s.out) (fun y hy=>((h.rch y ((h.out y).1 hy).1).inst ht hx).1) h.ond;refine uX h1 (Ha3 t x) fun y=>?_
 rw[h2,h.out,rC ht hx];exact⟨fun ⟨h3,h4⟩=>⟨h.rch y h3,h4⟩,fun ⟨h3,h4⟩=>⟨br y h3,h4⟩⟩
theorem BPre.len {t:aG}(ht:bA t=true){x:List Int}(hx:bN t.n x){s:BSt}(h:BPre t x s):s.met.length<=30/\s.out.length<=30:=by
 have h1:=Bak (aW ht) h.nd fun y hy=>(h.rch y hy).inst ht hx
 have h2:=Bak (aW ht) h.ond fun y hy=>(h.rch y ((h.out y).1 hy).1).inst ht hx
 exact⟨h1,h2⟩
def gtL (y x:List Int):Bool:=decide (atI x 0<atI y 0)||((atI y 0==atI x 0)&&decide (atI x 1<atI y 1))
def oF (l:List (List Int))(x:List Int):Nat->Nat
 |0=>0
 |k+1=>if gtL (atI l (k:Int)) x then oF l x k else k+1
def Eb9 (l:List (List Int))(x:List Int):List (List Int):=l.take (oF l x l.length)++[x]++l.drop (oF l x l.length)
theorem Rac (l:List (List Int))(x:List Int):∀ m,oF l x m<=m
 |0=>Rbg _
 | m + 1 => by
  unfold oF;split
  ·exact Nat.le_succ_of_le (Rac l x m)
  ·exact Rbg _
theorem Xa4 {l:List (List Int)}{x:List Int}:∀ {m j:Nat},oF l x m<=j->j<m->gtL (atI l (j:Int)) x=true
 |0,j,_,h=>by omega
 | m + 1, j, h, hj => by
  unfold oF at h;split at h
  ·rename_i hg
   rcases Rbo j m with h1|h1
   ·exact Xa4 h h1
   ·obtain rfl:j=m:=by omega
    exact hg
  ·omega
theorem Xa3 {l:List (List Int)}{x:List Int}:∀ {m:Nat},0<oF l x m->gtL (atI l ((oF l x m-1:Nat):Int)) x=false
 |0,h=>by simp[oF]at h
 | m + 1, h => by
  unfold oF at h ⊢;split
  ·rename_i hg
   rw[if_pos hg]at h;exact Xa3 h
  ·rename_i hg
   simpa using hg
theorem Yab {y x:List Int}:gtL y x=true↔ltL x y:=by
 rw[lX];unfold gtL;simp only[Sbe,Qb1,decide_eq_true_eq,beq_iff_eq];omega
theorem Lav {l:List (List Int)}{x y:List Int}:y∈Eb9 l x↔y∈l\/y=x:=by
 unfold Eb9
 have e:∀ k,y∈l.take k++[x]++l.drop k↔y∈l\/y=x:=by
  intro k;have h:=Sbp k l;rw[Rba,Sb5,Sb5,Rbb];constructor
  ·rintro (h1|h1|h1)
   ·exact .inl (List.mem_of_mem_take h1)
   ·exact .inr h1
   ·exact .inl (Tbd h1)
  ·rintro (h1|h1)
   ·rw[<- h]at h1
    rcases List.mem_append.1 h1 with h1|h1
    ·exact .inl h1
    ·exact .inr (.inr h1)
   ·exact .inr (.inl h1)
 exact e _
theorem Xa2 {l:List (List Int)}{x:List Int}(h:oC l)(h2:∀ y∈l,y.length=2)(gg:x.length=2)(hx:x∉l):oC (Eb9 l x):=by
 have hk:=Rac l x l.length;have fg:=Sbp (oF l x l.length) l
 have jr:∀ y∈l.take (oF l x l.length),ltL y x:=by
  intro y hy;obtain⟨j,hj⟩:=List.mem_iff_getElem?.1 hy
  have fN:j<oF l x l.length:=by
   have:=(List.getElem?_eq_some_iff.1 hj).1;rw[Rbq]at this;omega
  rw[List.getElem?_take,if_pos fN]at hj;have tq:=Xa3 (l:=l) (x:=x) (m:=l.length) (by omega);have fS:oF l x l.length-1<l.length:=by omega
  rw[aV fS]at tq;have ri:¬ ltL x l[oF l x l.length-1]:=fun e=>by rw[<- Yab,tq]at e;cases e
  have bh:l[oF l x l.length-1]≠x:=fun e=>hx (e▸Sbx fS)
  have ao:ltL l[oF l x l.length-1] x:=by
   rw[lX]at ri ⊢;have eN:=h2 _ (Sbx fS);generalize l[oF l x l.length-1]=z at ri bh eN ⊢
   have hz:¬ (atI z 0=atI x 0/\atI z 1=atI x 1):=by
    rintro⟨e1,e2⟩
    match z,x,eN,gg with
    | [a, b], [c, d], _, _ =>
     have xy:a=c:=e1;have e2':b=d:=e2;exact bh (by rw[xy,e2'])
   omega
  rcases Rbo j (oF l x l.length-1) with h1|h1
  ·unfold oC at h
   rw[List.pairwise_iff_getElem]at h;have a3t:j<l.length:=by omega
   have h3:=h j (oF l x l.length-1) a3t fS h1;rw[(List.getElem?_eq_some_iff.1 hj).2]at h3;rw[lX]at h3 ao ⊢;omega
  ·have e:j=oF l x l.length-1:=by omega
   subst e;rw[(List.getElem?_eq_some_iff.1 hj).2]at ao;exact ao
 have n5:∀ y∈l.drop (oF l x l.length),ltL x y:=by
  intro y hy;obtain⟨j,hj⟩:=List.mem_iff_getElem?.1 hy;rw[List.getElem?_drop]at hj;have fN:=(List.getElem?_eq_some_iff.1 hj).1;have:=Xa4 (l:=l) (x:=x) (m:=l.length) (j:=oF l x l.length+j) (by omega) fN;rw[aV fN,(List.getElem?_eq_some_iff.1 hj).2]at this;exact Yab.1 this
 unfold Eb9 oC;unfold oC at h;rw[<- fg,Ube]at h;rw[Rba,Ube];refine⟨h.1,?_,fun a ha b hb=>?_⟩
 ·rw[Tbk,Tbn]
  exact⟨n5,h.2.1⟩
 ·rcases List.mem_append.1 hb with hb|hb
  ·rw[List.mem_singleton.1 hb]
   exact jr a ha
  ·exact h.2.2 a ha b hb
structure SSt where
 met:List (List Int)
 out:List (List Int)
def Sas (t:aG)(s:SSt)(y:List Int):SSt:=if s.met.any (fun z=>decide (y=z))||s.out.any (fun z=>decide (y=z)) then s else if qZ t y then ⟨s.met++[y],s.out⟩ else ⟨s.met,Eb9 s.out y⟩
def Lbl (t:aG)(s:SSt)(i:Nat):SSt:=(Iaw t (atI (atI s.met (i:Int)) 0) (atI (atI s.met (i:Int)) 1)).foldl (Sas t) s
structure SPre (t:aG) (x:List Int) (s:SSt):Prop where
 base:x∈s.met
 nd:s.met.Nodup
 rch:∀ y∈s.met,wQ t x y/\qZ t y=true
 och:∀ y∈s.out,wQ t x y/\qZ t y=false
 srt:oC s.out
structure Zat (t:aG) (x:List Int) (i:Nat) (s:SSt):Prop extends SPre t x s where
 le:i<=s.met.length
 cl:∀ j,j<i->∀ y∈nQ t (atI s.met (j:Int)),y∈s.met\/y∈s.out
theorem Nar {t:aG}(ht:bA t=true){x:List Int}(hx:bN t.n x){s:SSt}(h:SPre t x s){y:List Int}(hy:wQ t x y) :
  SPre t x (Sas t s y)/\(y∈(Sas t s y).met\/y∈(Sas t s y).out)/\(∃ m,(Sas t s y).met=s.met++m)/\(∀ z∈s.out,z∈(Sas t s y).out):=by
 unfold Sas;by_cases hm:y∈s.met
 ·rw[Dam.2 hm,Bool.true_or,if_pos rfl]
  exact⟨h,.inl hm,⟨[],by simp⟩,fun z hz=>hz⟩
 ·by_cases ho:y∈s.out
  ·rw[Dam.2 ho,Tb4,if_pos rfl]
   exact⟨h,.inr ho,⟨[],by simp⟩,fun z hz=>hz⟩
  ·rw[Fal hm,Fal ho]
   simp only[Tbl,Qb4,if_false]
   cases hc:qZ t y with
   | true =>
    simp only[if_true];refine⟨⟨Qb2 _ h.base,qM h.nd hm,fun z hz=>?_,h.och,h.srt⟩,.inl (by simp),⟨[y],rfl⟩,fun z hz=>hz⟩
    rcases List.mem_append.1 hz with hz|hz
    ·exact h.rch z hz
    ·rw[List.mem_singleton.1 hz];exact⟨hy,hc⟩
   | false =>
    simp only[Qb4,if_false];refine⟨⟨h.base,h.nd,h.rch,fun z hz=>?_,Xa2 h.srt (fun z hz=>((h.och z hz).1.inst ht hx).1) (hy.inst ht hx).1 ho⟩,.inr (Lav.2 (.inr rfl)),⟨[],by simp⟩,fun z hz=>Lav.2 (.inl hz)⟩
    rcases Lav.1 hz with hz|rfl
    ·exact h.och z hz
    ·exact⟨hy,hc⟩
theorem Nas {t:aG}(ht:bA t=true){x:List Int}(hx:bN t.n x):∀ {ys:List (List Int)} {s:SSt},SPre t x s->(∀ y∈ys,wQ t x y) ->
  SPre t x (ys.foldl (Sas t) s)/\(∀ y∈ys,y∈(ys.foldl (Sas t) s).met\/y∈(ys.foldl (Sas t) s).out)/\(∃ m,(ys.foldl (Sas t) s).met=s.met++m)/\(∀ z∈s.out,z∈(ys.foldl (Sas t) s).out)
 |[],s,h,_=>⟨h,by simp,⟨[],by simp⟩,fun z hz=>hz⟩
 | y :: ys, s, h, hr => by
  obtain⟨h1,h2,⟨m,h3⟩,h4⟩:=Nar ht hx h (hr y Rbj);obtain⟨k1,k2,⟨m',k3⟩,k4⟩:=Nas ht hx (ys:=ys) h1 fun z hz=>hr z (Rbd _ hz)
  rw[Tbf];refine⟨k1,fun z hz=>?_,⟨m++m',by rw[k3,h3,Rba]⟩,fun z hz=>k4 z (h4 z hz)⟩
  rcases List.mem_cons.1 hz with rfl|hz
  ·rcases h2 with h2|h2
   ·exact .inl (by rw[k3];exact Qb2 _ h2)
   ·exact .inr (k4 _ h2)
  ·exact k2 z hz
theorem Cb5 {α:Type}[Inhabited α]{l m:List α}{j:Nat}(h:j<l.length):atI (l++m) (j:Int)=atI l (j:Int):=by
 rw[aV h,aV (by rw[Qb6];omega),Ubf h]
theorem Zat.step {t:aG}(ht:bA t=true){x:List Int}(hx:bN t.n x){i:Nat}{s:SSt}(h:Zat t x i s)(hi:i<s.met.length):Zat t x (i+1) (Lbl t s i):=by
 have wk:=at_mem hi;obtain⟨n4,qc⟩:=h.rch _ wk;have lv:=(n4.inst ht hx).1;unfold Lbl;obtain⟨k1,k2,⟨m,k3⟩,k4⟩:=Nas ht hx (ys:=Iaw t (atI (atI s.met (i:Int)) 0) (atI (atI s.met (i:Int)) 1)) h.toSPre fun y hy=>.step n4 qc ((Hav lv).1 hy).1
 refine⟨k1,by rw[k3,Qb6];omega,fun j hj y hy=>?_⟩;have fN:j<s.met.length:=by omega
 rw[k3,Cb5 fN]at hy
 rcases Rbo j i with hji|hji
 ·rcases h.cl j hji y hy with h1|h1
  ·exact .inl (by rw[k3];exact Qb2 _ h1)
  ·exact .inr (k4 y h1)
 ·obtain rfl:j=i:=by omega
  by_cases e:y=atI s.met (j:Int)
  ·exact .inl (by rw[k3,e];exact Qb2 _ wk)
  ·exact k2 y ((Hav lv).2 ⟨hy,e⟩)
theorem Zat.start {t:aG}{x:List Int}(hc:qZ t x=true):Zat t x 0 ⟨[x],[]⟩:=by
 have h1:∀ y∈[x],wQ t x y/\qZ t y=true:=fun y hy=>by rw[List.mem_singleton.1 hy];exact⟨.base,hc⟩
 exact⟨⟨by simp,by simp,h1,fun y hy=>absurd hy (List.not_mem_nil),List.Pairwise.nil⟩,Sbq _,fun j hj=>absurd hj (Nat.not_lt_zero _)⟩
theorem Zat.done {t:aG}(ht:bA t=true){x:List Int}(hx:bN t.n x){s:SSt}(h:Zat t x s.met.length s):s.out=pJ t x:=by
 have br:∀ y,wQ t x y->y∈s.met\/y∈s.out:=by
  intro y hy
  induction hy with
  |base=>exact .inl h.base
  | step _ hc hy ih =>
   rcases ih with h1|h1
   ·obtain⟨j,hj,e⟩:=List.mem_iff_getElem.1 h1
    refine h.cl j hj _ ?_;rw[aV hj,e];exact hy
   ·rw[(h.och _ h1).2]at hc;cases hc
 refine uX h.srt (Ha3 t x) fun y=>?_
 rw[rC ht hx];refine⟨h.och y,fun ⟨h1,h2⟩=>?_⟩
 rcases br y h1 with h3|h3
 ·rw[(h.rch y h3).2]at h2;cases h2
 ·exact h3
theorem SPre.len {t:aG}(ht:bA t=true){x:List Int}(hx:bN t.n x){s:SSt}(h:SPre t x s):s.met.length<=30/\s.out.length<=30:=by
 have h1:=Bak (aW ht) h.nd fun y hy=>(h.rch y hy).1.inst ht hx
 have h2:=Bak (aW ht) (rW h.srt) fun y hy=>(h.och y hy).1.inst ht hx
 exact⟨h1,h2⟩
noncomputable def xZ (t:aG)(x:List Int):Bool:=decide ((0:Int)<((pJ t x).length:Nat))
noncomputable def aF (t:aG):List (List Int):=(bO t.rows).filter fun x=>!xZ t x
theorem iE {t:aG}(ht:bA t=true){x:List Int}(h:x∈bO t.rows):bN t.n x/\qZ t x=true:=by
 obtain⟨-,-,h1,h2,h3⟩:=kS ht h;exact⟨⟨h1,h2⟩,by simp[qZ,h3]⟩
def nV (kept:List (List Int))(J:List (List D))(rest:List (List Int)):D:=.rows 1 (kept.map Enc.enc++J++rest.map Enc.enc)
theorem Ya7 (l:List (List Int)){i:Nat}(h:i<=l.length):rL l=nV (l.take i) [] (l.drop i):=by
 unfold nV rL;rw[Rbs,<- Sbr,Sbp];rfl
theorem Paj (kept:List (List Int))(J:List (List D))(y:List Int)(rest:List (List Int)):nV kept J (y::rest)=nV kept (J++[Enc.enc y]) rest:=by
 unfold nV;simp[Rba]
theorem Mac {kept:List (List Int)}{J:List (List D)}{rest:List (List Int)}{n:Int}(h:(kept.length:Int)+J.length+rest.length=n):aR.len.run [nV kept J rest]=some [i64 n]:=by
 subst h;unfold nV;simp only[aR.run,Qb6,Rbh];rfl
theorem Mad {kept:List (List Int)}{J:List (List D)}{rest:List (List Int)}{k:Int}(h0:0<=k)(h:k<(kept.length:Int)+J.length+rest.length):aR.inb.run [nV kept J rest,i64 k]=some []:=by
 unfold nV;show (if _ then _ else _)=_
 rw[if_pos];simp only[Qb6,Rbh];omega
theorem Ya8 {kept:List (List Int)}{J:List (List D)}{y:List Int}{rest:List (List Int)}{k:Int}(h:(kept.length:Int)+J.length=k):(kept.map Enc.enc++J++(y::rest).map Enc.enc)[k.toNat]?=some [rL y]:=by
 rw[Rbl (by simp;omega)];simp only[Qb6,Rbh];rw[show k.toNat-(kept.length+J.length)=0 by omega];rfl
theorem Tat {kept:List (List Int)}{J:List (List D)}{y:List Int}{rest:List (List Int)}{k:Int}(h:(kept.length:Int)+J.length=k):(aR.row 1 0 [false]).run [nV kept J (y::rest),i64 k]=some [rL y]:=by
 unfold nV;show (if _ then _ else _)=_
 rw[if_pos ⟨rfl,by omega⟩,Ya8 h];rfl
theorem Pak {kept:List (List Int)}{J:List (List D)}{y:List Int}{rest:List (List Int)}{k:Int}(h:(kept.length:Int)+J.length=k):(aR.set 1 0 1).run [nV kept J (y::rest),i64 k,.hole]=some [nV kept (J++[[.hole]]) rest]:=by
 unfold nV;show (if _ then _ else _)=_
 rw[if_pos ⟨rfl,by omega⟩,Ya8 h];show some _=some _
 congr 2;rw[List.set_append_right _ _ (by simp;omega)];simp only[Qb6,Rbh];rw[show k.toNat-(kept.length+J.length)=0 by omega];simp
theorem Cbq {kept:List (List Int)}{j:List D}{J:List (List D)}{y:List Int}{rest:List (List Int)}{k:Int}(h:(kept.length:Int)=k)(hj:j.length=1):(aR.set 1 0 1).run [nV kept (j::J) rest,i64 k,rL y]=some [nV (kept++[y]) J rest]:=by
 unfold nV
 have e:(kept.map Enc.enc++(j::J)++rest.map Enc.enc)[k.toNat]?=some j:=by
  rw[Rba,Rbl (by simp;omega)];simp only[Rbh];rw[show k.toNat-kept.length=0 by omega];rfl
 show (if _ then _ else _)=_
 rw[if_pos ⟨rfl,by omega⟩,e];dsimp only;rw[if_pos ⟨by rw[hj];exact Rbg _,rfl⟩]
 have e2:j.take 0++[rL y]++j.drop (0+1)=[rL y]:=by
  match j,hj with
  |[d],_=>rfl
 rw[e2,Rba,List.set_append_right _ _ (by simp;omega)];simp only[Rbh];rw[show k.toNat-kept.length=0 by omega];simp[Enc.enc]
theorem Cbp {kept:List (List Int)}{J:List (List D)}{n k:Int}(h:(kept.length:Int)=k)(hn:(kept.length:Int)+J.length=n):∃ d,(aR.sub 1 false).run [nV kept J [],i64 k,i64 n]=some [d]:=by
 unfold nV;exact⟨_,if_pos ⟨rfl,by simp,by omega,by omega,by simp;omega⟩⟩
theorem Cbs {kept:List (List Int)}{J:List (List D)}{k:Int}(h:(kept.length:Int)=k):(aR.clr 1).run [nV kept J [],i64 k]=some [nV kept (J.map fun r=>r.map fun _=>.hole) []]:=by
 unfold nV;show (if _ then _ else _)=_
 rw[if_pos ⟨rfl,by omega⟩];have e:k.toNat=(kept.map (Enc.enc (α:=List Int))).length:=by simp;omega
 rw[e];simp
theorem Cbr {kept:List (List Int)}{J:List (List D)}{k:Int}(h:(kept.length:Int)=k):(aR.sub 1 false).run [nV kept J [],i64 0,i64 k]=some [rL kept]:=by
 unfold nV;show (if _ then _ else _)=_
 rw[if_pos ⟨rfl,by simp,by omega,by omega,by simp;omega⟩];have e:k.toNat=(kept.map (Enc.enc (α:=List Int))).length:=by simp;omega
 rw[e];simp[rL];rfl
theorem xX {t:aG}(ht:bA t=true):(bO t.rows).length<=30:=Bak (aW ht) (Dai ..) fun _ hy=>(iE ht hy).1
def GOk (G:List (List Int)):Prop:=∀ r∈G,∀ x∈r,InB G x
inductive Rch (G:List (List Int)) (a:Int):Int->Prop
 |refl:Rch G a a
 |step {b c:Int}:Rch G a b->c∈atI G b->Rch G a c
theorem GOk.out {G:List (List Int)}(hg:GOk G){b c:Int}(hb:InB G b)(hc:c∈atI G b):InB G c:=hg _ (dE hb) c hc
theorem Rch.inb {G:List (List Int)}(hg:GOk G){a b:Int}(ha:InB G a)(h:Rch G a b):InB G b:=by
 induction h with
 |refl=>exact ha
 |step _ hc ih=>exact hg.out ih hc
theorem Rch.trans {G:List (List Int)}{a b c:Int}(h:Rch G a b)(h2:Rch G b c):Rch G a c:=by
 induction h2 with
 |refl=>exact h
 |step _ hc ih=>exact .step ih hc
def nums (n:Nat):List Int:=(Tb1 n).map fun k:Nat=>(k:Int)
theorem vM (n:Nat):nums (n+1)=nums n++[(n:Int)]:=by simp[nums,Tbg]
theorem cZ (n:Nat):(nums n).length=n:=by simp[nums]
theorem xI {n:Nat}{x:Int}:x∈nums n↔0<=x/\x<n:=by
 unfold nums;rw[List.mem_map];constructor
 ·rintro⟨k,hk,rfl⟩
  rw[Sb1]at hk;omega
 ·rintro⟨h1,h2⟩
  exact⟨x.toNat,List.mem_range.2 (by omega),by omega⟩
theorem Gar (n:Nat):jF (nums n):=by
 unfold nums jF;rw[Tbw];exact List.pairwise_lt_range.imp fun {a b} h=>by omega
theorem vC {l:List Int}(h:jF l):l.Nodup:=by
 unfold jF at h;exact h.imp fun {a b} jv e=>by omega
open Classical in
noncomputable def Eaq (G:List (List Int))(a j:Int):Bool:=decide (Rch G a j)
theorem Fad {G:List (List Int)}{a j:Int}:Eaq G a j=true↔Rch G a j:=by
 classical
 unfold Eaq;exact decide_eq_true_iff
noncomputable def lW (G:List (List Int))(a:Int):List Int:=(nums G.length).filter (Eaq G a)
theorem zH (G:List (List Int))(a:Int):jF (lW G a):=by
 unfold lW jF;exact List.Pairwise.filter _ (Gar _)
theorem oM {G:List (List Int)}(hg:GOk G){a j:Int}(ha:InB G a):j∈lW G a↔Rch G a j:=by
 unfold lW;rw[Tb3,Fad,xI];exact⟨fun h=>h.2,fun h=>⟨h.inb hg ha,h⟩⟩
theorem xG (G:List (List Int))(a:Int):(lW G a).length<=G.length:=by
 have:=Sbs (Eaq G a) (nums G.length);rw[cZ]at this;exact this
theorem Ka8 {G:List (List Int)}{a j:Int}(h:j∈lW G a):InB G j:=by
 unfold lW at h;exact xI.1 (List.mem_filter.1 h).1
structure GSt where
 marks:List Bool
 todo:List Int
def GSt.left (s:GSt):Nat:=s.todo.length+s.marks.countP fun b=>!b
def gI (s:GSt)(c:Int):GSt:=if atI s.marks c then s else ⟨fQ s.marks c true,s.todo++[c]⟩
def gO (G:List (List Int))(s:GSt):GSt:=⟨((atI G (atI s.todo 0)).foldl gI s).marks,((atI G (atI s.todo 0)).foldl gI s).todo.drop 1⟩
structure GPre (G:List (List Int)) (a:Int) (s:GSt):Prop where
 len:s.marks.length=G.length
 rch:∀ j,InB G j->atI s.marks j=true->Rch G a j
 sta:InB G a
 st:atI s.marks a=true
 tm:∀ x∈s.todo,InB G x/\atI s.marks x=true
 cnt:s.left<=G.length
structure GInv (G:List (List Int)) (a:Int) (s:GSt):Prop extends GPre G a s where
 cl:∀ j,InB G j->atI s.marks j=true->j∉s.todo->∀ c∈atI G j,atI s.marks c=true
theorem qE {α:Type}[Inhabited α]{xs:List α}{j k:Int}{x:α}(hj:0<=j)(hk:0<=k)(h:j≠k):atI (fQ xs k x) j=atI xs j:=by
 have:k.toNat≠j.toNat:=by omega
 unfold atI fQ;rw[Qb8,Qb8,List.getElem?_set_ne this]
theorem qD {α:Type}[Inhabited α]{xs:List α}{k:Int}{x:α}(h:InB xs k):atI (fQ xs k x) k=x:=wP.1 h
theorem zW:∀ {l:List Bool} {i:Nat},i<l.length->l.getD i default=false->(l.set i true).countP (fun b=>!b)+1=l.countP fun b=>!b
 |[],i,h,_=>by simp at h
 | b :: l, 0, _, h => by
  have hb:b=false:=h;subst hb;simp
 | b :: l, i + 1, h, h2 => by
  have:=zW (l:=l) (i:=i) (by simpa using h) h2;simp only[List.set_cons_succ,List.countP_cons];omega
theorem Yaf {G:List (List Int)}{a:Int}{s:GSt}(h:GPre G a s){c:Int}(hc:InB G c)(hr:Rch G a c) :
  GPre G a (gI s c)/\(∀ j,InB G j->atI s.marks j=true->atI (gI s c).marks j=true)/\atI (gI s c).marks c=true/\(∃ w,(gI s c).todo=s.todo++w)/\(∀ j,InB G j->atI (gI s c).marks j=true->atI s.marks j=true\/j∈(gI s c).todo)/\(gI s c).left=s.left:=by
 unfold gI
 cases hm:atI s.marks c with
 |true=>exact⟨h,fun _ _ hj=>hj,hm,⟨[],by simp⟩,fun _ _ hj=>.inl hj,rfl⟩
 | false =>
  have sE:InB s.marks c:=by unfold InB at hc ⊢;rw[h.len];exact hc
  have pA:∀ j,InB G j->atI s.marks j=true->atI (fQ s.marks c true) j=true:=by
   intro j hj fj;by_cases e:j=c
   ·subst e;exact qD sE
   ·rw[qE hj.1 hc.1 e];exact fj
  have nq:GSt.left ⟨fQ s.marks c true,s.todo++[c]⟩=s.left:=by
   unfold GSt.left fQ;have:=zW (l:=s.marks) (i:=c.toNat) sE.lt hm;simp only[Qb6,Rbe,Rbk];omega
  simp only[Qb4,if_false];refine⟨⟨by dsimp only;rw[gB];exact h.len,fun j hj fj=>?_,h.sta,pA a h.sta h.st,fun x hx=>?_,by rw[nq];exact h.cnt⟩,pA,qD sE,⟨[c],rfl⟩,fun j hj fj=>?_,nq⟩
  ·by_cases e:j=c
   ·subst e;exact hr
   ·dsimp only at fj
    rw[qE hj.1 hc.1 e]at fj;exact h.rch j hj fj
  ·rcases List.mem_append.1 hx with hx|hx
   ·exact⟨(h.tm x hx).1,pA x (h.tm x hx).1 (h.tm x hx).2⟩
   ·rw[Rbb]at hx
    subst hx;exact⟨hc,qD sE⟩
  ·by_cases e:j=c
   ·subst e;exact .inr (by simp)
   ·try dsimp only at fj
    rw[qE hj.1 hc.1 e]at fj;exact .inl fj
theorem Rah {G:List (List Int)}{a:Int}:∀ {ys:List Int} {s:GSt},GPre G a s->(∀ c∈ys,InB G c/\Rch G a c) ->
  GPre G a (ys.foldl gI s)/\(∀ j,InB G j->atI s.marks j=true->atI (ys.foldl gI s).marks j=true)/\(∀ c∈ys,atI (ys.foldl gI s).marks c=true)/\(∃ w,(ys.foldl gI s).todo=s.todo++w)/\(∀ j,InB G j->atI (ys.foldl gI s).marks j=true->atI s.marks j=true\/j∈(ys.foldl gI s).todo)/\(ys.foldl gI s).left=s.left
 |[],s,h,_=>⟨h,fun _ _ hj=>hj,fun _ hc=>(by cases hc),⟨[],by simp⟩,fun _ _ hj=>.inl hj,rfl⟩
 | y :: ys, s, h, hy => by
  obtain⟨h1,h2⟩:=hy y Rbj;obtain⟨k1,k2,k3,⟨w1,k4⟩,k5,k6⟩:=Yaf h h1 h2;obtain⟨l1,l2,l3,⟨w2,l4⟩,l5,l6⟩:=Rah (ys:=ys) k1 fun c hc=>hy c (Rbd _ hc)
  rw[Tbf];refine⟨l1,fun j hj fj=>l2 j hj (k2 j hj fj),fun c hc=>?_,⟨w1++w2,by rw[l4,k4,Rba]⟩,fun j hj fj=>?_,by rw[l6,k6]⟩
  ·rcases List.mem_cons.1 hc with hc|hc
   ·subst hc;exact l2 c h1 k3
   ·exact l3 c hc
  ·rcases l5 j hj fj with h3|h3
   ·rcases k5 j hj h3 with h4|h4
    ·exact .inl h4
    ·exact .inr (by rw[l4];exact Qb2 _ h4)
   ·exact .inr h3
theorem GInv.step {G:List (List Int)}(hg:GOk G){a:Int}{s:GSt}(h:GInv G a s)(hw:s.todo≠[]):GInv G a (gO G s)/\(gO G s).left+1=s.left/\GPre G a ((atI G (atI s.todo 0)).foldl gI s):=by
 have hb:InB s.todo 0:=by
  have:=List.length_pos_iff.2 hw;unfold InB;omega
 obtain⟨z1,z2⟩:=h.tm _ (dE hb);have zr:=h.rch _ z1 z2;have ib:∀ c∈atI G (atI s.todo 0),InB G c/\Rch G a c:=fun c hc=>⟨hg.out z1 hc,.step zr hc⟩
 obtain⟨l1,l2,l3,⟨w,l4⟩,l5,l6⟩:=Rah h.toGPre ib
 obtain⟨t,ht⟩:∃ t,s.todo=atI s.todo 0::t:=by
  cases e:s.todo with
  |nil=>exact absurd e hw
  |cons x t=>exact⟨t,rfl⟩
 unfold gO;generalize atI s.todo 0=z at *;generalize (atI G z).foldl gI s=u at *;rw[ht,Sby]at l4
 have xx:GSt.left ⟨u.marks,u.todo.drop 1⟩+1=s.left:=by
  rw[<- l6];unfold GSt.left;rw[l4];simp only[List.drop_succ_cons,List.drop_zero,Rbe];omega
 refine⟨⟨⟨l1.len,l1.rch,l1.sta,l1.st,fun x hx=>l1.tm x (Tbd hx),by have:=h.cnt;omega⟩,fun j hj fj tg c hc=>?_⟩,xx,l1⟩;dsimp only at fj tg ⊢;by_cases e:j=z
 ·subst e
  exact l3 c hc
 ·have hju:j∉u.todo:=by
   rw[l4]at tg ⊢;intro hm
   rcases List.mem_cons.1 hm with h1|h1
   ·exact e h1
   ·exact tg (by simpa using h1)
  rcases l5 j hj fj with h1|h1
  ·have h2:j∉s.todo:=fun hm=>hju (by
    rw[ht]at hm;rw[l4]
    rcases List.mem_cons.1 hm with h1|h1
    ·exact absurd h1 e
    ·exact Rbd _ (Qb2 _ h1))
   exact l2 c (hg.out hj hc) (h.cl j hj h1 h2 c hc)
  ·exact absurd h1 hju
theorem Rau (n:Nat):(Rbf n false).countP (fun b=>!b)=n:=by
 induction n with
 |zero=>rfl
 |succ n ih=>rw[List.replicate_succ,List.countP_cons,ih];rfl
theorem GInv.start {G:List (List Int)}{a:Int}(ha:InB G a):GInv G a ⟨fQ (Rbf G.length false) a true,[a]⟩:=by
 have hl:InB (Rbf G.length false) a:=by unfold InB at ha ⊢;rw[Rbw];exact ha
 have hf:(Rbf G.length false).getD a.toNat default=false:=by
  rw[Qb8,Qb3 hl.lt,Tb7];rfl
 have zf:∀ j,InB G j->atI (fQ (Rbf G.length false) a true) j=true->j=a:=by
  intro j hj fj;by_cases e:j=a
  ·exact e
  ·rw[qE hj.1 ha.1 e]at fj
   have hlj:InB (Rbf G.length false) j:=by unfold InB at hj ⊢;rw[Rbw];exact hj
   unfold atI at fj;rw[Qb8,Qb3 hlj.lt,Tb7]at fj;cases fj
 refine⟨⟨by dsimp only;rw[gB,Rbw],fun j hj fj=>by rw[zf j hj fj];exact .refl,ha,qD hl,fun x hx=>?_,?_⟩,fun j hj fj tg=>absurd (by rw[zf j hj fj];exact List.mem_singleton.2 rfl) tg⟩
 ·rw[Rbb]at hx
  subst hx;exact⟨ha,qD hl⟩
 ·unfold GSt.left fQ
  have:=zW (l:=Rbf G.length false) (i:=a.toNat) hl.lt hf;rw[Rau]at this;simp only[Rbe,Rbk];omega
theorem GInv.done {G:List (List Int)}(hg:GOk G){a:Int}{s:GSt}(h:GInv G a s)(hw:s.todo=[]){j:Int}(hj:InB G j):atI s.marks j=Eaq G a j:=by
 have br:∀ b,Rch G a b->InB G b/\atI s.marks b=true:=by
  intro b hb
  induction hb with
  |refl=>exact⟨h.sta,h.st⟩
  |step _ hc ih=>exact⟨hg.out ih.1 hc,h.cl _ ih.1 ih.2 (by rw[hw];simp) _ hc⟩
 rw[Tb6,Fad];exact⟨h.rch j hj,fun hr=>(br j hr).2⟩
structure HSt where
 met:List Int
 que:List Int
def hI (s:HSt)(c:Int):HSt:=if kQ s.que c then s else ⟨Ma1 s.met c,s.que++[c]⟩
theorem mM {xs:List Int}{n:Int}:kQ xs n=true↔n∈xs:=by
 unfold kQ;rw[Tbs];constructor
 ·rintro⟨x,hx,e⟩
  rw[<- beq_iff_eq.1 e];exact hx
 ·exact fun h=>⟨n,h,by simp⟩
structure HPre (G:List (List Int)) (a:Int) (s:HSt):Prop where
 rch:∀ x∈s.que,Rch G a x
 nd:s.que.Nodup
 srt:jF s.met
 eq:∀ x,x∈s.met↔x∈s.que
 sta:InB G a
 st:a∈s.que
structure Zax (G:List (List Int)) (a:Int) (i:Nat) (s:HSt):Prop extends HPre G a s where
 le:i<=s.que.length
 cl:∀ k:Nat,k<i->∀ c∈atI G (atI s.que (k:Int)),c∈s.que
theorem HPre.len {G:List (List Int)}(hg:GOk G){a:Int}{s:HSt}(h:HPre G a s):s.que.length<=G.length/\s.met.length<=G.length:=by
 have h1:∀ x∈s.que,x∈nums G.length:=fun x hx=>xI.2 ((h.rch x hx).inb hg h.sta)
 have h2:=jL h.nd h1;have h3:=jL (vC h.srt) fun x hx=>h1 x ((h.eq x).1 hx)
 rw[cZ]at h2 h3;exact⟨h2,h3⟩
theorem Xa9 {G:List (List Int)}{a:Int}{s:HSt}(h:HPre G a s){c:Int}(hr:Rch G a c):HPre G a (hI s c)/\c∈(hI s c).que/\∃ w,(hI s c).que=s.que++w:=by
 unfold hI
 cases hm:kQ s.que c with
 |true=>exact⟨h,mM.1 hm,[],by simp⟩
 | false =>
  have hn:c∉s.que:=fun e=>by rw[mM.2 e]at hm;cases hm
  simp only[Qb4,if_false];refine⟨⟨fun x hx=>?_,?_,zJ h.srt,fun x=>?_,h.sta,Qb2 _ h.st⟩,by simp,[c],rfl⟩
  ·rcases List.mem_append.1 hx with hx|hx
   ·exact h.rch x hx
   ·rw[List.mem_singleton.1 hx];exact hr
  ·exact List.nodup_append.2 ⟨h.nd,by simp,fun x hx y hy e=>hn (by rw[Rbb]at hy;rw[<- hy,<- e];exact hx)⟩
  ·rw[Fae,h.eq]
   simp
theorem Yaa {G:List (List Int)}{a:Int}:∀ {ys:List Int} {s:HSt},HPre G a s->(∀ c∈ys,Rch G a c)->HPre G a (ys.foldl hI s)/\(∀ c∈ys,c∈(ys.foldl hI s).que)/\∃ w,(ys.foldl hI s).que=s.que++w
 |[],s,h,_=>⟨h,fun _ hc=>(by cases hc),[],by simp⟩
 | y :: ys, s, h, hy => by
  obtain⟨k1,k2,w1,k3⟩:=Xa9 h (hy y Rbj);obtain⟨l1,l2,w2,l3⟩:=Yaa (ys:=ys) k1 fun c hc=>hy c (Rbd _ hc)
  rw[Tbf];refine⟨l1,fun c hc=>?_,w1++w2,by rw[l3,k3,Rba]⟩
  rcases List.mem_cons.1 hc with hc|hc
  ·subst hc
   rw[l3];exact Qb2 _ k2
  ·exact l2 c hc
theorem Zax.step {G:List (List Int)}{a:Int}{i:Nat}{s:HSt}(h:Zax G a i s)(hi:i<s.que.length):Zax G a (i+1) ((atI G (atI s.que (i:Int))).foldl hI s):=by
 have hz:=h.rch _ (at_mem hi);obtain⟨l1,l2,w,l3⟩:=Yaa h.toHPre (ys:=atI G (atI s.que (i:Int))) fun c hc=>.step hz hc
 generalize he:(atI G (atI s.que (i:Int))).foldl hI s=u at *
 have eA:∀ k:Nat,k<s.que.length->atI u.que (k:Int)=atI s.que (k:Int):=by
  intro k hk;rw[l3,aV (by rw[Qb6];omega),aV hk,Ubf hk]
 refine⟨l1,by rw[l3,Qb6];omega,fun k hk c hc=>?_⟩;rw[eA k (by omega)]at hc
 rcases Rbo k i with h1|h1
 ·rw[l3]
  exact Qb2 _ (h.cl k h1 c hc)
 ·obtain rfl:k=i:=by omega
  exact l2 c hc
theorem Zax.start {G:List (List Int)}{a:Int}(ha:InB G a):Zax G a 0 ⟨[a],[a]⟩ :=
 ⟨⟨fun x hx=>by rw[List.mem_singleton.1 hx];exact .refl,by simp,by simp[jF],fun x=>Iff.rfl,ha,by simp⟩,Sbq _,fun k hk=>absurd hk (Nat.not_lt_zero _)⟩
theorem Zax.done {G:List (List Int)}(hg:GOk G){a:Int}{s:HSt}(h:Zax G a s.que.length s):s.met=lW G a:=by
 refine xB h.srt (zH _ _) fun x=>?_
 rw[h.eq,oM hg h.sta];refine⟨h.rch x,fun hr=>?_⟩
 induction hr with
 |refl=>exact h.st
 | step _ hc ih =>
  obtain⟨k,hk,e⟩:=List.mem_iff_getElem.1 ih;exact h.cl k hk _ (by rw[aV hk,e];exact hc)
noncomputable def uN (G:List (List Int))(a:Int):List Int:=(lW G a).filter fun j=>Eaq G j a
theorem gY {G:List (List Int)}(hg:GOk G){a j:Int}(ha:InB G a):j∈uN G a↔Rch G a j/\Rch G j a:=by
 unfold uN;rw[Tb3,Fad,oM hg ha]
theorem zQ (G:List (List Int))(a:Int):jF (uN G a):=List.Pairwise.filter _ (zH G a)
theorem vZ {G:List (List Int)}(hg:GOk G){a:Int}(ha:InB G a):a∈uN G a:=(gY hg ha).2 ⟨.refl,.refl⟩
theorem Hac {G:List (List Int)}(hg:GOk G){a j:Int}(ha:InB G a)(hj:j∈uN G a):uN G j=uN G a:=by
 obtain⟨h1,h2⟩:=(gY hg ha).1 hj;refine xB (zQ _ _) (zQ _ _) fun x=>?_
 rw[gY hg (h1.inb hg ha),gY hg ha];exact⟨fun h=>⟨h1.trans h.1,h.2.trans h2⟩,fun h=>⟨h2.trans h.1,h.2.trans h1⟩⟩
theorem La5 (G:List (List Int))(a:Int):(uN G a).length<=G.length:=Sb3 (Sbs _ _) (xG G a)
noncomputable def jM (G:List (List Int)):List (List Int):=((nums G.length).filter fun i=>atI (uN G i) 0==i).map (uN G)
theorem Bb5 {l:List Int}(h:l≠[]):atI l 0∈l:=dE (by have:=List.length_pos_iff.2 h;unfold InB;omega)
theorem fP {G:List (List Int)}{C:List Int}(h:C∈jM G):∃ a,InB G a/\C=uN G a/\atI C 0=a:=by
 unfold jM at h;obtain⟨a,ha,rfl⟩:=List.mem_map.1 h;obtain⟨h1,h2⟩:=List.mem_filter.1 ha;exact⟨a,xI.1 h1,rfl,beq_iff_eq.1 h2⟩
theorem qX {G:List (List Int)}(hg:GOk G){j:Int}(hj:InB G j):∃ C∈jM G,j∈C:=by
 have hs:=vZ hg hj;have hm:=Bb5 (List.ne_nil_of_mem hs);have hi:=((gY hg hj).1 hm).1.inb hg hj;have he:=Hac hg hj hm;refine⟨uN G (atI (uN G j) 0),List.mem_map.2 ⟨_,List.mem_filter.2 ⟨xI.2 hi,?_⟩,rfl⟩,by rw[he];exact hs⟩;rw[he];simp
theorem Dag {G:List (List Int)}(hg:GOk G){C D:List Int}(hC:C∈jM G)(hD:D∈jM G){j:Int}(h1:j∈C)(h2:j∈D):C=D:=by
 obtain⟨a,ha,rfl,-⟩:=fP hC;obtain⟨b,hb,rfl,-⟩:=fP hD;rw[<- Hac hg ha h1,<- Hac hg hb h2]
theorem Pao (G:List (List Int)):(jM G).Nodup:=by
 unfold jM List.Nodup;rw[Tbw];refine List.Pairwise.imp_of_mem (fun {a b} ha hb jv e=>?_) (List.Pairwise.filter _ (Gar G.length));have h1:=beq_iff_eq.1 (List.mem_filter.1 ha).2;have h2:=beq_iff_eq.1 (List.mem_filter.1 hb).2;rw[e,h2]at h1;omega
theorem Dah (G:List (List Int)):(jM G).length<=G.length:=by
 unfold jM;rw[Rbh];have:=Sbs (fun i=>atI (uN G i) 0==i) (nums G.length);rw[cZ]at this;exact this
structure CSt where
 rest:List (List Int)
 out:List (List Int)
structure Ea1 (G:List (List Int)) (s:CSt):Prop where
 nd:(s.rest++s.out).Nodup
 mem:∀ C,C∈s.rest++s.out↔C∈jM G
 cl:∀ C∈s.out,∀ j∈C,∀ k,Rch G j k->∃ D∈s.out,k∈D
def lV (out:List (List Int))(j:Int):Bool:=out.any fun D=>kQ D j
theorem Pag {out:List (List Int)}{j:Int}:lV out j=true↔∃ D∈out,j∈D:=by
 unfold lV;rw[Tbs];constructor
 ·rintro⟨D,h1,h2⟩;exact⟨D,h1,mM.1 h2⟩
 ·rintro⟨D,h1,h2⟩;exact⟨D,h1,mM.2 h2⟩
noncomputable def qP (G:List (List Int))(out:List (List Int))(C:List Int):Bool:=(lW G (atI C 0)).all fun j=>lV out j||kQ C j
theorem Bam {G:List (List Int)}(hg:GOk G){out:List (List Int)}{C:List Int}(hC:InB G (atI C 0)):qP G out C=true↔∀ j,Rch G (atI C 0) j->(∃ D∈out,j∈D)\/j∈C:=by
 unfold qP;rw[Rbu];constructor
 ·intro h j hj
  have:=h j ((oM hg hC).2 hj);rw[Sbe,Pag,mM]at this;exact this
 ·intro h j hj
  rw[Sbe,Pag,mM];exact h j ((oM hg hC).1 hj)
theorem Ea1.sub {G:List (List Int)}{s:CSt}(h:Ea1 G s){C:List Int}(hC:C∈s.rest):C∈jM G:=(h.mem C).1 (Qb2 _ hC)
theorem Yag {G:List (List Int)}(hg:GOk G){s:CSt}(h:Ea1 G s):∀ (n:Nat) (C:List Int),C∈s.rest->(lW G (atI C 0)).length<=n->∃ D∈s.rest,qP G s.out D=true
 | n, C, hC, hn => by
  obtain⟨a,ha,he,nf⟩:=fP (h.sub hC);have ob:InB G (atI C 0):=by rw[nf];exact ha
  by_cases hf:qP G s.out C=true
  ·exact⟨C,hC,hf⟩
  rw[Bam hg ob]at hf;obtain⟨j,hf⟩:=Classical.not_forall.1 hf;obtain⟨hj,hf⟩:=Classical.not_imp.1 hf;rw[not_or]at hf;obtain⟨D,hD,hjD⟩:=qX hg (hj.inb hg ob)
  have hDr:D∈s.rest:=by
   rcases List.mem_append.1 ((h.mem D).2 hD) with h1|h1
   ·exact h1
   ·exact absurd ⟨D,h1,hjD⟩ hf.1
  obtain⟨b,hb,hDe,heb⟩:=fP hD;have hD0:InB G (atI D 0):=by rw[heb];exact hb
  have pb:=(gY hg hb).1 (by rw[<- hDe];exact hjD);rw[<- heb]at pb
  have hna:¬ Rch G (atI D 0) (atI C 0):=fun hr=>hf.2 (by
   rw[he,gY hg ha,<- nf];exact⟨hj,pb.2.trans hr⟩)
  have hlt:(lW G (atI D 0)).length<(lW G (atI C 0)).length:=by
   have bq:atI C 0∈lW G (atI C 0):=(oM hg ob).2 .refl
   have h1:=jL (l:=lW G (atI D 0)) (m:=(lW G (atI C 0)).erase (atI C 0)) (vC (zH _ _)) fun x hx=>by
    have gg:=(oM hg hD0).1 hx;refine (List.mem_erase_of_ne fun e=>hna ?_).2 ((oM hg ob).2 ((hj.trans pb.2).trans gg));rw[<- e];exact gg
   have h2:=List.length_erase_of_mem bq;have h3:=Tbt bq;omega
  match n with
  |0=>omega
  |n+1=>exact Yag hg h n D hDr (by omega)
noncomputable def Fav (G:List (List Int))(s:CSt):Nat:=(ixF (qP G s.out) s.rest).toNat
noncomputable def cO (G:List (List Int))(s:CSt):CSt:=⟨s.rest.take (Fav G s)++s.rest.drop (Fav G s+1),s.out++[atI s.rest (Fav G s)]⟩
theorem Ea1.top {G:List (List Int)}(hg:GOk G){s:CSt}(h:Ea1 G s)(hr:s.rest≠[]):Fav G s<s.rest.length/\ixF (qP G s.out) s.rest=(Fav G s:Int)/\qP G s.out (atI s.rest (Fav G s))=true/\∀ k:Nat,k<Fav G s->qP G s.out (atI s.rest (k:Int))=false:=by
 obtain⟨C,hC⟩:=List.exists_mem_of_ne_nil _ hr;obtain⟨D,hD,hf⟩:=Yag hg h _ C hC (Rbg _);obtain⟨k,hk,rfl⟩:=List.mem_iff_getElem.1 hD;have h0:0<=ixF (qP G s.out) s.rest:=Xay hk (by rw[aV hk];exact hf);obtain⟨h1,h2,h3⟩:=Las h0;have e:ixF (qP G s.out) s.rest=(Fav G s:Int):=by unfold Fav;omega
 rw[e]at h1 h2;refine⟨aM.1 h1,e,h2,fun k hk=>h3 k ?_⟩;rw[e];omega
theorem Fbs {l out:List (List Int)}{i:Nat}(h:i<l.length):((l.take i++l.drop (i+1))++(out++[atI l (i:Int)])).Perm (l++out):=by
 have e:l=l.take i++atI l (i:Int)::l.drop (i+1):=by
  rw[aV h,<- List.drop_eq_getElem_cons h,Sbp]
 conv=>rhs;rw[e]
 generalize l.take i=A;generalize l.drop (i+1)=B;generalize atI l (i:Int)=C;rw[List.perm_iff_count];intro x;simp only[List.count_append,List.count_cons,List.count_nil];omega
theorem Ea1.step {G:List (List Int)}(hg:GOk G){s:CSt}(h:Ea1 G s)(hr:s.rest≠[]):Ea1 G (cO G s)/\(cO G s).rest.length+1=s.rest.length:=by
 obtain⟨h1,h2,h3,-⟩:=h.top hg hr;have hp:=Fbs (out:=s.out) h1;have wj:atI s.rest (Fav G s:Int)∈s.rest:=at_mem h1;unfold cO;generalize Fav G s=i at *;refine⟨⟨hp.nodup_iff.2 h.nd,fun C=>by rw[hp.mem_iff];exact h.mem C,fun C hC j hj k hk=>?_⟩,by simp only[Qb6,Rbq,Sbf];omega⟩;dsimp only at hC ⊢
 rcases List.mem_append.1 hC with hC|hC
 ·obtain⟨D,hD,hkD⟩:=h.cl C hC j hj k hk
  exact⟨D,Qb2 _ hD,hkD⟩
 ·rw[Rbb]at hC
  subst hC;obtain⟨a,ha,he,nf⟩:=fP (h.sub wj);have ob:InB G (atI (atI s.rest (i:Int)) 0):=by rw[nf];exact ha
  have xj:=(gY hg ha).1 (by rw[<- he];exact hj)
  rcases (Bam hg ob).1 h3 k (by rw[nf];exact xj.1.trans hk) with ⟨D,hD,hkD⟩|hkC
  ·exact⟨D,Qb2 _ hD,hkD⟩
  ·exact⟨_,Qb5 _ (List.mem_singleton.2 rfl),hkC⟩
noncomputable def cM (G:List (List Int)):Nat->CSt->List (List Int)
 |0,s=>s.out
 |n+1,s=>cM G n (cO G s)
noncomputable def bL (G:List (List Int)):List (List Int):=cM G (jM G).length ⟨jM G,[]⟩
theorem Ea1.start (G:List (List Int)):Ea1 G ⟨jM G,[]⟩ :=
 ⟨by dsimp only;rw[Rbs];exact Pao G,fun C=>by dsimp only;rw[Rbs],fun C hC=>by cases hC⟩
theorem Zap {G:List (List Int)}(hg:GOk G):∀ (n:Nat) (s:CSt),s.rest.length=n->Ea1 G s->Ea1 G ⟨[],cM G n s⟩
 | 0, s, hn, h => by
  obtain⟨rest,out⟩:=s;have:rest=[]:=List.length_eq_zero_iff.1 hn;subst this;exact h
 | n + 1, s, hn, h => by
  have hr:s.rest≠[]:=fun e=>by rw[e]at hn;simp at hn
  obtain⟨h1,h2⟩:=h.step hg hr;exact Zap hg n (cO G s) (by omega) h1
theorem jS {G:List (List Int)}(hg:GOk G):(bL G).Nodup/\∀ C,C∈bL G↔C∈jM G:=by
 have h:=Zap hg _ _ rfl (Ea1.start G);exact⟨h.nd,h.mem⟩
def Bb9 (G:List (List Int))(L:List (List Int))(i:Nat):Bool:=(atI L (i:Int)).all fun j=>(Tb1 L.length).all fun k:Nat=>(k==i)||(atI L (k:Int)).all fun x=>!kQ (atI G j) x
theorem Bb8 {G:List (List Int)}(hg:GOk G){s:CSt}(h:Ea1 G s){i:Nat}(hi:i<s.rest.length):Bb9 G s.rest i=qP G s.out (atI s.rest (i:Int)):=by
 have wj:atI s.rest (i:Int)∈s.rest:=at_mem hi;obtain⟨a,ha,he,nf⟩:=fP (h.sub wj);have ob:InB G (atI (atI s.rest (i:Int)) 0):=by rw[nf];exact ha
 have mT:=List.nodup_append.1 h.nd;rw[Tb6,Bam hg ob];unfold Bb9;simp only[Rbu,Sb1,Sbe,beq_iff_eq,Rbp,<- Bool.not_eq_true,mM];constructor
 ·intro hS j hj
  have key:(∃ D∈s.out,j∈D)\/j∈atI s.rest (i:Int):=by
   induction hj with
   |refl=>exact .inr (by rw[nf,he];exact vZ hg ha)
   | @step b c hb hc ih =>
    rcases ih with ⟨D,hD,hbD⟩|hbC
    ·exact .inl (h.cl D hD b hbD c (.step .refl hc))
    ·have uo:=hb.inb hg ob
     obtain⟨D,hD,hcD⟩:=qX hg (hg.out uo hc)
     rcases List.mem_append.1 ((h.mem D).2 hD) with h1|h1
     ·obtain⟨k,hk,rfl⟩:=List.mem_iff_getElem.1 h1
      rcases hS b hbC k hk with e|e
      ·subst e
       exact .inr (by rw[aV hk];exact hcD)
      ·exact absurd hc (e c (by rw[aV hk];exact hcD))
     ·exact .inl ⟨D,h1,hcD⟩
  exact key
 ·intro hM j hj k hk
  by_cases e:k=i
  ·exact .inl e
  refine .inr fun x hx hc=>?_
  have xj:=(gY hg ha).1 (by rw[<- he];exact hj);have kc:atI s.rest (k:Int)∈s.rest:=at_mem hk
  rcases hM x (by rw[nf];exact .step xj.1 hc) with ⟨D,hD,hxD⟩|hxC
  ·have:=Dag hg (h.sub kc) ((h.mem D).1 (Qb5 _ hD)) hx hxD
   exact mT.2.2 _ kc _ hD this
  ·have:=Dag hg (h.sub kc) (h.sub wj) hx hxC
   rw[aV hk,aV hi]at this;exact e ((Sb7 mT.1).1 this)
theorem lT (ks:List Int)(n:Int):fZ ks n=(atI ks n,0):=rfl
def Da5 (ks l:List Int)(x:Int):Nat->Nat
 |0=>0
 |k+1=>if decide (atI ks x<atI ks (atI l (k:Int))) then Da5 ks l x k else k+1
def Za3 (ks l:List Int)(x:Int):List Int:=l.take (Da5 ks l x l.length)++[x]++l.drop (Da5 ks l x l.length)
theorem Qa9 (ks l:List Int)(x:Int):∀ m,Da5 ks l x m<=m
 |0=>Rbg _
 | m + 1 => by
  unfold Da5;split
  ·exact Nat.le_succ_of_le (Qa9 ks l x m)
  ·exact Rbg _
theorem Xar {ks l:List Int}{x:Int}:∀ {m j:Nat},Da5 ks l x m<=j->j<m->atI ks x<atI ks (atI l (j:Int))
 |0,j,_,h=>by omega
 | m + 1, j, h, hj => by
  unfold Da5 at h;split at h
  ·rename_i hg
   rcases Rbo j m with h1|h1
   ·exact Xar h h1
   ·obtain rfl:j=m:=by omega
    exact of_decide_eq_true hg
  ·omega
theorem Xaq {ks l:List Int}{x:Int}:∀ {m:Nat},0<Da5 ks l x m->atI ks (atI l ((Da5 ks l x m-1:Nat):Int))<=atI ks x
 |0,h=>by simp[Da5]at h
 | m + 1, h => by
  unfold Da5 at h ⊢;split
  ·rename_i hg
   rw[if_pos hg]at h;exact Xaq h
  ·rename_i hg
   have hg':¬ atI ks x<atI ks (atI l (m:Int)):=by simpa using hg
   rw[Nat.add_sub_cancel];omega
theorem Gaz (ks l:List Int)(x:Int):(Za3 ks l x).Perm (x::l):=by
 unfold Za3;have h:=Sbp (Da5 ks l x l.length) l
 conv=>rhs;rw[<- h]
 generalize l.take (Da5 ks l x l.length)=A;generalize l.drop (Da5 ks l x l.length)=B;rw[List.perm_iff_count];intro y;simp only[List.count_append,List.count_cons,List.count_nil];omega
theorem Qa8 {ks l:List Int}{x:Int}(h:pW (fZ ks) l):pW (fZ ks) (Za3 ks l x):=by
 have hle:∀ a b:Int,ltQ (fZ ks b) (fZ ks a)=false↔atI ks a<=atI ks b:=by
  intro a b;rw[lT,lT,nI];dsimp only;omega
 unfold pW at h ⊢;simp only[hle]at h ⊢;have hk:=Qa9 ks l x l.length
 have ga:∀ i j:Nat,i<=j->j<l.length->atI ks (atI l (i:Int))<=atI ks (atI l (j:Int)):=by
  intro i j nh hj
  rcases Rbo i j with h1|h1
  ·have:=List.pairwise_iff_getElem.1 h i j (by omega) hj h1
   rw[aV (by omega),aV hj];exact this
  ·obtain rfl:i=j:=by omega
   exact Int.le_refl _
 have jr:∀ y∈l.take (Da5 ks l x l.length),atI ks y<=atI ks x:=by
  intro y hy;obtain⟨j,hj,rfl⟩:=List.mem_iff_getElem.1 hy;rw[Rbq]at hj;have h1:=Xaq (ks:=ks) (l:=l) (x:=x) (m:=l.length) (by omega);have h2:=ga j (Da5 ks l x l.length-1) (by omega) (by omega);rw[aV (show j<l.length by omega)]at h2;rw[Tbx];omega
 have n5:∀ y∈l.drop (Da5 ks l x l.length),atI ks x<=atI ks y:=by
  intro y hy;obtain⟨j,hj,rfl⟩:=List.mem_iff_getElem.1 hy;rw[Sbf]at hj;have h1:=Xar (ks:=ks) (l:=l) (x:=x) (m:=l.length) (j:=Da5 ks l x l.length+j) (by omega) (by omega);rw[aV (by omega)]at h1;rw[List.getElem_drop];omega
 unfold Za3;rw[Rba,Ube];refine⟨h.sublist (List.take_sublist _ _),?_,fun a ha b hb=>?_⟩
 ·rw[Tbk,Tbn]
  exact⟨n5,h.sublist (List.drop_sublist _ _)⟩
 ·rw[Tbk,List.mem_cons]at hb
  rcases hb with hb|hb
  ·rw[hb];exact jr a ha
  ·exact Int.le_trans (jr a ha) (n5 b hb)
theorem Pbc {ks:List Int}:∀ (ys l:List Int),pW (fZ ks) l->pW (fZ ks) (ys.foldl (Za3 ks) l)/\(ys.foldl (Za3 ks) l).Perm (ys++l)
 |[],l,h=>⟨h,.refl _⟩
 | y :: ys, l, h => by
  obtain⟨h1,h2⟩:=Pbc ys (Za3 ks l y) (Qa8 h);refine⟨h1,h2.trans ?_⟩;refine ((Gaz ks l y).append_left ys).trans ?_;rw[Sby];exact List.perm_middle
theorem Xas {ks ys:List Int}(hi:∀ x∈ys,∀ y∈ys,atI ks x=atI ks y->x=y):ys.foldl (Za3 ks) []=jK (fZ ks) ys:=by
 obtain⟨h1,h2⟩:=Pbc (ks:=ks) ys [] List.Pairwise.nil;rw[Rbs]at h2;refine Dax _ h2 h1 fun x hx y hy e=>hi x hx y hy ?_
 rw[lT,lT]at e;exact (Prod.mk.inj e).1
theorem Naz {β:Type}(k:β->Int×Int)(l:List β):(jK k l).length=l.length:=(dJ k l).length_eq
noncomputable def uA (G:List (List Int))(ks:List Int)(m:Nat):List Int:=((bL G).take m).flatMap (jK (fZ ks))
noncomputable def kD (G:List (List Int))(ks:List Int):List Int:=(bL G).flatMap (jK (fZ ks))
theorem Gao {G:List (List Int)}{ks:List Int}{m:Nat}(h:m<(bL G).length):uA G ks (m+1)=uA G ks m++jK (fZ ks) (atI (bL G) (m:Int)):=by
 unfold uA;rw[<- take_at h,Sbu,Ubd,List.flatMap_nil,Rbs]
theorem Gap (G:List (List Int))(ks:List Int):uA G ks (bL G).length=kD G ks:=by unfold uA kD;rw[Rb5]
theorem Caw {G:List (List Int)}(hg:GOk G){ks:List Int}{j:Int}:j∈kD G ks↔InB G j:=by
 unfold kD;rw[Tbi];constructor
 ·rintro⟨C,hC,hj⟩
  obtain⟨a,ha,rfl,-⟩:=fP (((jS hg).2 C).1 hC);exact ((gY hg ha).1 ((dJ _ _).mem_iff.1 hj)).1.inb hg ha
 ·intro hj
  obtain⟨C,hC,hjC⟩:=qX hg hj;exact⟨C,((jS hg).2 C).2 hC,(dJ _ _).mem_iff.2 hjC⟩
theorem vJ {G:List (List Int)}(hg:GOk G)(ks:List Int):(kD G ks).Nodup:=by
 obtain⟨h1,h2⟩:=jS hg;unfold kD;unfold List.Nodup;rw[List.flatMap_def,List.pairwise_flatten];constructor
 ·intro l hl
  obtain⟨C,hC,rfl⟩:=List.mem_map.1 hl;obtain⟨a,ha,rfl,-⟩:=fP ((h2 C).1 hC);exact (dJ _ _).nodup_iff.2 (vC (zQ _ _))
 ·rw[Tbw]
  refine List.Pairwise.imp_of_mem (fun {C D} hC hD bh x hx y hy e=>?_) h1;subst e;exact bh (Dag hg ((h2 C).1 hC) ((h2 D).1 hD) ((dJ _ _).mem_iff.1 hx) ((dJ _ _).mem_iff.1 hy))
theorem Jax {G:List (List Int)}(hg:GOk G)(ks:List Int):(kD G ks).length<=G.length:=by
 have:=jL (vJ hg ks) (m:=nums G.length) fun x hx=>xI.2 ((Caw hg).1 hx)
 rw[cZ]at this;exact this
theorem Jaw {G:List (List Int)}(hg:GOk G)(ks:List Int)(m:Nat):(uA G ks m).length<=G.length:=by
 have h:=Jax hg ks
 have e:kD G ks=uA G ks m++((bL G).drop m).flatMap (jK (fZ ks)):=by
  unfold uA kD;rw[<- Sbu,Sbp]
 rw[e,Qb6]at h;omega
theorem Cab:(∀ {n:Int},0<=n->n<=100000000000->(aR.make 1 [(.bool false)]).run [i64 n]=some [rL (Rbf n.toNat false)]) /\
  (∀ {xs:List Bool} {k:Int},InB xs k->(aR.row 1 0 [true]).run [rL xs,i64 k]=some [.bool (atI xs k)]) /\
  (∀ {xs:List Bool} {k:Int} {b:Bool},InB xs k->(aR.set 1 0 1).run [rL xs,i64 k,.bool b]=some [rL (fQ xs k b)]) /\
  (∀ {xs:List Bool} {k:Int},InB xs k->aR.inb.run [rL xs,i64 k]=some [])/\(∀ {xs:List Bool},xs.length<=1099511627776->aR.len.run [rL xs]=some [i64 xs.length]) :=
 ⟨fun h h2=>Qa0 rfl h (by unfold iW;omega),fun h=>Gaj rfl h,fun h=>Gai rfl rfl (by simp[Enc.sz]) rfl h,fun h=>Dbm h,fun h=>by simp[rL,aR.run]⟩
theorem Cba {α:Type}[Inhabited α]{xs:List α}{p:α->Bool}{k:Nat}(h:k<xs.length):(xs.take (k+1)).filter p=(xs.take k).filter p++if p (atI xs (k:Int)) then [atI xs (k:Int)] else []:=by
 rw[<- take_at h,Sbt];congr 1;cases hp:p (atI xs (k:Int))
 ·rw[List.filter_cons_of_neg (by rw[hp];simp)];rfl
 ·rw[List.filter_cons_of_pos hp];rfl
theorem Xab {n:Nat}{β:Type}[Inhabited β]{f:Int->β}{j:Int}(h:0<=j/\j<n):atI ((nums n).map f) j=f j:=by
 obtain⟨k,rfl⟩:∃ k:Nat,j=(k:Int):=⟨j.toNat,by omega⟩;rw[aV (by rw[Rbh,cZ];omega),Sb8];simp[nums]
noncomputable def rsM (G:List (List Int)):List (List Int):=(nums G.length).map (lW G)
theorem Wat (G:List (List Int)):(rsM G).length=G.length:=by unfold rsM;rw[Rbh,cZ]
theorem Na4 {G:List (List Int)}{j:Int}(h:InB G j):atI (rsM G) j=lW G j:=Xab h
theorem Gae {G:List (List Int)}{j:Int}(h:InB G j):InB (rsM G) j:=by unfold InB at h ⊢;rw[Wat];exact h
theorem Raf {G:List (List Int)}(hg:GOk G){a j:Int}(ha:InB G a):kQ (lW G a) j=Eaq G a j:=by
 rw[Tb6,mM,oM hg ha,Fad]
noncomputable def Cbw (G:List (List Int))(m:Nat):List (List Int):=((nums m).filter fun i=>atI (uN G i) 0==i).map (uN G)
theorem Pas (G:List (List Int))(m:Nat):Cbw G (m+1)=Cbw G m++if atI (uN G (m:Int)) 0==(m:Int) then [uN G (m:Int)] else []:=by
 unfold Cbw;rw[vM,Sbt,Sbr];congr 1;rw[Sbo,Sb9];cases h:(atI (uN G (m:Int)) 0==(m:Int))<;>rfl
theorem Taw (G:List (List Int))(m:Nat):(Cbw G m).length<=m:=by
 unfold Cbw;rw[Rbh];have:=Sbs (fun i=>atI (uN G i) 0==i) (nums m);rw[cZ]at this;exact this
noncomputable def Dbs (G:List (List Int))(i:Int)(m:Nat):List Int:=(nums m).filter fun j=>Eaq G i j&&Eaq G j i
theorem Yac (G:List (List Int))(i:Int)(m:Nat):Dbs G i (m+1)=Dbs G i m++if Eaq G i (m:Int)&&Eaq G (m:Int) i then [(m:Int)] else []:=by
 unfold Dbs;rw[vM,Sbt];congr 1;rw[Sbo,Sb9]
theorem Bb7 (G:List (List Int))(i:Int):Dbs G i G.length=uN G i:=by
 unfold Dbs uN lW;rw[List.filter_filter];congr 1;funext j;rw[Bool.and_comm]
theorem Bb6 (G:List (List Int))(i:Int)(m:Nat):(Dbs G i m).length<=m:=by
 have:=Sbs (fun j=>Eaq G i j&&Eaq G j i) (nums m);rw[cZ]at this;exact this
theorem Rag {G:List (List Int)}{a j:Int}(h:j∈uN G a):InB G j:=by
 unfold uN at h;exact Ka8 (List.mem_filter.1 h).1
def qV (n:Nat)(out:List (List Int)):List Bool:=(nums n).map (lV out)
theorem Paf (n:Nat)(out:List (List Int)):(qV n out).length=n:=by unfold qV;rw[Rbh,cZ]
theorem Bbv {n:Nat}{p:Int->Bool}{c:Int}(h:0<=c/\c<n):fQ ((nums n).map p) c true=(nums n).map fun j=>p j||j==c:=by
 unfold fQ;apply Ubj
 ·rw[Sb6,Rbh,Rbh]
 ·intro k h1 h2
  rw[Rbh,cZ]at h2;rw[List.getElem_set,Sb8,Sb8];have e:(nums n)[k]'(by rw[cZ];exact h2)=(k:Int):=by simp[nums]
  rw[e];split
  ·rename_i hk
   have:((k:Int)==c)=true:=by rw[beq_iff_eq];omega
   rw[this,Tb4]
  ·rename_i hk
   have:((k:Int)==c)=false:=by rw[beq_eq_false_iff_ne];omega
   rw[this,Tbl]
theorem Taf {C:List Int}{k:Nat}(h:k<C.length)(j:Int):kQ (C.take (k+1)) j=(kQ (C.take k) j||j==atI C (k:Int)):=by
 unfold kQ;rw[<- take_at h,List.any_append,List.any_cons,List.any_nil,Tbl];congr 1;rw[Tb6,beq_iff_eq,beq_iff_eq];exact eq_comm
theorem Ya2 (out:List (List Int))(C:List Int)(j:Int):lV (out++[C]) j=(lV out j||kQ C j):=by
 unfold lV;rw[List.any_append,List.any_cons,List.any_nil,Tbl]
theorem Ea1.len {G:List (List Int)}{s:CSt}(h:Ea1 G s):s.rest.length+s.out.length<=G.length:=by
 have h1:=jL h.nd (m:=jM G) fun C hC=>(h.mem C).1 hC
 rw[Qb6]at h1;exact Sb3 h1 (Dah G)
theorem Ea1.grp {G:List (List Int)}(hg:GOk G){s:CSt}(h:Ea1 G s){C:List Int}(hC:C∈s.rest):C.length<=G.length/\0<C.length/\(∀ j∈C,InB G j)/\InB C 0/\InB G (atI C 0):=by
 obtain⟨a,ha,he,nf⟩:=fP (h.sub hC);have hs:a∈C:=by rw[he];exact vZ hg ha
 have hp:=Tbt hs;exact⟨by rw[he];exact La5 G a,hp,fun j hj=>Rag (by rw[<- he];exact hj),by unfold InB;omega,by rw[nf];exact ha⟩
def Hai (G:List (List Int))(L:List (List Int))(i:Nat)(j:Int)(k:Nat)(m:Nat):Bool:=(k==i)||((atI L (k:Int)).take m).all fun x=>!kQ (atI G j) x
def Iat (G:List (List Int))(L:List (List Int))(i:Nat)(j:Int)(m:Nat):Bool:=(Tb1 m).all fun k:Nat=>(k==i)||(atI L (k:Int)).all fun x=>!kQ (atI G j) x
def Hah (G:List (List Int))(L:List (List Int))(i:Nat)(m:Nat):Bool:=((atI L (i:Int)).take m).all fun j=>Iat G L i j L.length
theorem Vai (G L:List (List Int))(i:Nat)(j:Int)(k:Nat):Hai G L i j k 0=true:=by simp[Hai]
theorem Vaj {G L:List (List Int)}{i:Nat}{j:Int}{k m:Nat}(h:m<(atI L (k:Int)).length):Hai G L i j k (m+1)=(Hai G L i j k m&&((k==i)||!kQ (atI G j) (atI (atI L (k:Int)) (m:Int)))):=by
 unfold Hai;rw[<- take_at h,List.all_append,Tbe,Tb5,Sb4];cases (k==i)<;>simp
theorem Yai {G L:List (List Int)}{i:Nat}{j:Int}{k:Nat}:Hai G L i j k (atI L (k:Int)).length=((k==i)||(atI L (k:Int)).all fun x=>!kQ (atI G j) x):=by
 unfold Hai;rw[Rb5]
theorem Vag (G L:List (List Int))(i:Nat)(j:Int):Iat G L i j 0=true:=rfl
theorem Vah (G L:List (List Int))(i:Nat)(j:Int)(m:Nat):Iat G L i j (m+1)=(Iat G L i j m&&Hai G L i j m (atI L (m:Int)).length):=by
 rw[Yai];unfold Iat;rw[Tbg,List.all_append,Tbe,Tb5,Sb4]
theorem Vae (G L:List (List Int))(i:Nat):Hah G L i 0=true:=by simp[Hah]
theorem Vaf {G L:List (List Int)}{i m:Nat}(h:m<(atI L (i:Int)).length):Hah G L i (m+1)=(Hah G L i m&&Iat G L i (atI (atI L (i:Int)) (m:Int)) L.length):=by
 unfold Hah;rw[<- take_at h,List.all_append,Tbe,Tb5,Sb4]
theorem Yah (G L:List (List Int))(i:Nat):Hah G L i (atI L (i:Int)).length=Bb9 G L i:=by
 unfold Hah Bb9 Iat;rw[Rb5]
theorem Ya6 {xs:List (List Int)}{i:Nat}(h:i<xs.length)(hl:xs.length<=1000000):Fbl 1 [Vab xs (i:Int),i64 (i:Int),i64 ((i:Int)+1)]=some [rL (xs.take i++xs.drop (i+1))]:=by
 unfold Vab Fbl;have hlen:((xs.map Enc.enc).set ((i:Int)).toNat [D.hole]).length=xs.length:=by rw[Sb6,Rbh]
 have e1:((i:Int)).toNat=i:=Int.toNat_natCast i;have e2:((i:Int)+1).toNat=i+1:=by omega
 show (if _ then _ else _)=_
 rw[if_pos ⟨rfl,by omega,by omega,by rw[hlen];omega,by rw[hlen];omega,by rw[hlen];omega⟩,e1,e2];rw[List.take_set_of_le (Rbg _),List.drop_set_of_lt (Nat.lt_succ_self _)];simp only[rL,Sbr,List.map_take,List.map_drop];rfl
theorem Yaz {n:Nat}{out:List (List Int)}{C:List Int}{m:Nat}(hm:m<C.length)(h:0<=atI C (m:Int)/\atI C (m:Int)<n):fQ ((nums n).map fun j=>lV out j||kQ (C.take m) j) (atI C (m:Int)) true=(nums n).map fun j=>lV out j||kQ (C.take (m+1)) j:=by
 rw[Bbv h];congr 1;funext j;rw[Taf hm,Bool.or_assoc]
theorem Raq (n:Nat)(out:List (List Int))(C:List Int):((nums n).map fun j=>lV out j||kQ (C.take 0) j)=qV n out:=by
 unfold qV;congr 1;funext j;rw[List.take_zero];show (lV out j||false)=_
 rw[Tbl]
theorem Ya1 (n:Nat)(out:List (List Int))(C:List Int):((nums n).map fun j=>lV out j||kQ (C.take C.length) j)=qV n (out++[C]):=by
 unfold qV;congr 1;funext j;rw[Rb5,Ya2]
theorem Ya0 (n:Nat):qV n []=Rbf n false:=by
 unfold qV;apply Ubj
 ·rw[Rbh,cZ,Rbw]
 ·intro k h1 h2
  rw[Sb8,Tb7];rfl
theorem Qby:(∀ {xs:List (List Int)},0<xs.length->aR.ne.run [rL xs]=some [])/\(∀ {xs:List Bool},0<xs.length->aR.ne.run [rL xs]=some []):=by
 constructor
 ·intro xs h
  cases xs with
  |nil=>simp at h
  |cons x xs=>rfl
 ·intro xs h
  cases xs with
  |nil=>simp at h
  |cons x xs=>rfl
def hsD (xs:List (List Int))(p:Int->Bool):D:=.rows 1 ((nums xs.length).map fun j=>if p j then [D.hole] else Enc.enc (atI xs j))
theorem Ibg (xs:List (List Int)){p:Int->Bool}(h:∀ j,InB xs j->p j=false):hsD xs p=rL xs:=by
 unfold hsD rL;congr 1;apply Ubj
 ·rw[Rbh,Rbh,cZ]
 ·intro k h1 h2
  rw[Rbh]at h2;rw[Sb8,Sb8];have e:(nums xs.length)[k]'(by rw[cZ];exact h2)=(k:Int):=by simp[nums]
  rw[e,h _ (aM.2 h2),aV h2];rfl
theorem Xa7 {xs:List (List Int)}{p:Int->Bool}{k:Int}(h:InB xs k):((nums xs.length).map fun j=>if p j then [D.hole] else Enc.enc (atI xs j))[k.toNat]?=some (if p k then [D.hole] else Enc.enc (atI xs k)):=by
 have h1:=h.lt;unfold InB at h;rw[List.getElem?_map,Qb3 (by rw[cZ];exact h1)];have e:(nums xs.length)[k.toNat]'(by rw[cZ];exact h1)=k:=by simp[nums];omega
 rw[e];rfl
theorem Fbc {xs:List (List Int)}{p:Int->Bool}{k:Int}(h:InB xs k):aR.inb.run [hsD xs p,i64 k]=some []:=by
 unfold InB at h;unfold hsD;show (if _ then _ else _)=_
 rw[if_pos];rw[Rbh,cZ];exact h
theorem Fbb {xs:List (List Int)}{p:Int->Bool}{k:Int}(h:InB xs k)(hp:p k=false):(aR.row 1 0 [false]).run [hsD xs p,i64 k]=some [rL (atI xs k)]:=by
 unfold hsD;show (if _ then _ else _)=_
 rw[if_pos ⟨rfl,h.1⟩,Xa7 h,hp];rfl
theorem Bb3 {xs:List (List Int)}{p:Int->Bool}{k:Int}(h:InB xs k):(aR.set 1 0 1).run [hsD xs p,i64 k,.hole]=some [hsD xs fun j=>p j||j==k]:=by
 unfold hsD;show (if _ then _ else _)=_
 rw[if_pos ⟨rfl,h.1⟩,Xa7 h];have hk:=h.lt;unfold InB at h
 have e0:∀ r:List D,(r=[.hole]\/∃ d,r=[d])->r.take 0++[D.hole]++r.drop (0+1)=[.hole]:=by
  rintro r (rfl|⟨d,rfl⟩)<;>rfl
 have e1:(if p k=true then [D.hole] else Enc.enc (atI xs k)).length=1:=by cases p k<;>rfl
 dsimp only;rw[if_pos ⟨by rw[e1];exact Rbg _,rfl⟩,e0 _ (by cases p k;exact .inr ⟨_,rfl⟩;exact .inl rfl)];refine congrArg (fun l=>some [D.rows 1 l]) (Ubj ?_ ?_)
 ·rw[Sb6,Rbh,Rbh]
 ·intro i h1 h2
  rw[Rbh,cZ]at h2;rw[List.getElem_set,Sb8,Sb8];have e:(nums xs.length)[i]'(by rw[cZ];exact h2)=(i:Int):=by simp[nums]
  rw[e];split
  ·rename_i ox
   have:((i:Int)==k)=true:=by rw[beq_iff_eq];omega
   simp only[this,Tb4,if_true]
  ·rename_i ox
   have:((i:Int)==k)=false:=by rw[beq_eq_false_iff_ne];omega
   simp only[this,Tbl]
theorem Xat {l kl:List Int}(h1:∀ n∈l,InB kl n)(h2:∀ k∈kl,0<=k/\k<=1000000000)(h3:∀ n∈l,∀ m∈l,atI kl n=atI kl m->n=m):Da6 l kl=true:=by
 unfold Da6;simp only[Qb1,Rbu,decide_eq_true_eq,Sbe,Rbp,beq_eq_false_iff_ne,beq_iff_eq];refine⟨⟨fun n hn=>⟨(h1 n hn).1,(h1 n hn).lt⟩,h2⟩,fun n hn m hm=>?_⟩;by_cases e:fZ kl n=fZ kl m
 ·refine .inr (h3 n hn m hm ?_)
  rw[lT,lT]at e;exact (Prod.mk.inj e).1
 ·exact .inl e
theorem Oas:∀ (l:List Int),Iaq (l.map Enc.enc)=some l:=fun l=>Oar l
theorem Fb0 {l kl:List Int}(h:Da6 l kl=true)(hl:l.length<=1000000):Jah [rL l,rL kl]=some [rL (jK (fZ kl) l)]:=by
 show ((Iaq (l.map Enc.enc)).bind fun l=>(Iaq (kl.map Enc.enc)).bind fun kl=>if l.length<=uY/\Da6 l kl=true then some [D.rows 1 ((jK (fZ kl) l).map fun p=>[D.int .i64 p])] else none)=_
 rw[Oas,Oas];show (if _ then _ else _)=_
 rw[if_pos ⟨hl,h⟩];rfl
theorem Pap (l:List bT)(k:Int)(m:Nat):oC (fU l k m):=by
 unfold oC fU;rw[List.pairwise_flatMap];refine⟨fun i hi=>by split<;>simp,?_⟩;refine List.pairwise_lt_range.imp fun {a b} jv=>?_
 intro x hx y hy;split at hx
 ·split at hy
  ·rw[Rbb]at hx hy
   subst hx;subst hy
   rw[lX];simp[atI];omega
  ·cases hy
 ·cases hx
theorem Paq (rows:List (List bT)):oC (bO rows):=by
 unfold oC bO Fak;rw[List.pairwise_flatMap];refine⟨fun k hk=>Pap _ _ _,?_⟩;refine List.pairwise_lt_range.imp fun {a b} jv=>?_
 intro x hx y hy;obtain⟨i,hi,rfl⟩:=qY hx;obtain⟨j,hj,rfl⟩:=qY hy;rw[lX];simp[atI];omega
theorem Mah {t:aG}(ht:bA t=true){x:List Int}:x∈bO t.rows↔bN t.n x/\qZ t x=true:=by
 refine⟨iE ht,?_⟩
 rintro⟨⟨h2,hi⟩,hc⟩
 match x,h2 with
 | [a, b], _ =>
  have cu:inst t.n a b=true:=hi;obtain⟨r1,r2,r3,r4⟩:=bG cu;have hb:=dF ht cu;have cQ:((fB t a b).state==3)=true:=hc;unfold fB at cQ;split at cQ
  ·rename_i hle
   unfold bO Fak fU;simp only[Tbi,Sb1];refine⟨a.toNat,hb.lt,(b-1).toNat,?_,?_⟩
   ·rw[show ((a.toNat:Nat):Int)=a by omega];omega
   ·rw[show ((a.toNat:Nat):Int)=a by omega,show (((b-1).toNat:Nat):Int)=b-1 by omega,if_pos cQ,show b-1+1=b by omega]
    exact List.mem_singleton.2 rfl
  ·cases cQ
theorem sD (t:aG):oC (aF t):=by
 unfold aF oC;exact List.Pairwise.filter _ (Paq t.rows)
theorem fE {t:aG}{x:List Int}(h:x∈aF t):x∈bO t.rows:=by
 unfold aF at h;exact (List.mem_filter.1 h).1
theorem qI {t:aG}(ht:bA t=true):(aF t).length<=30:=by
 unfold aF;exact Sb3 (Sbs _ _) (xX ht)
theorem aY {t:aG}(ht:bA t=true){x:List Int}(h:x∈aF t):bN t.n x/\(fB t (atI x 0) (atI x 1)).state=3/\x=[atI x 0,atI x 1]/\InB x 0/\InB x 1:=by
 obtain⟨a,b,h1,h2,h3⟩:=kS ht (fE h);exact⟨⟨h1,h2⟩,h3,(lC h1).symm,a,b⟩
structure Sab (t:aG) (l:List (List Int)) (u:aG):Prop where
 ok:bA u=true
 n:u.n=t.n
 row:∀ rep no,inst t.n rep no=true->fB u rep no=if [rep,no]∈l then fB t rep no else row0 t.n
theorem Sab.com {t u:aG}(ht:bA t=true)(h:Sab t (aF t) u):bO u.rows=aF t:=by
 refine uX (Paq _) (sD t) fun x=>?_
 rw[Mah h.ok,h.n];constructor
 ·rintro⟨⟨h2,hi⟩,hc⟩
  unfold qZ at hc;rw[h.row _ _ hi]at hc;split at hc
  ·rename_i hm
   rw[<- lC h2];exact hm
  ·cases hc
 ·intro hx
  obtain⟨hi,hs,he,-⟩:=aY ht hx;refine⟨hi,?_⟩;unfold qZ;rw[h.row _ _ hi.2,if_pos (by rw[<- he];exact hx),hs];rfl
noncomputable def gM (t:aG):List (List Int):=(Tb1 (aF t).length).map fun i:Nat=>uM (aF t) (fB t (atI (atI (aF t) (i:Int)) 0) (atI (atI (aF t) (i:Int)) 1)).attr.deps (atI (aF t) (i:Int)) (aF t).length
theorem Sab.graph {t u:aG}(ht:bA t=true)(h:Sab t (aF t) u):Ja8 u=gM t:=by
 unfold Ja8 nR gM;rw[h.com ht];refine Tb2 fun i hi=>?_
 rw[Sb1]at hi;have hm:=at_mem hi;obtain⟨hx,hs,he,-⟩:=aY ht hm;rw[h.row _ _ hx.2,if_pos (by rw[<- he];exact hm)]
theorem uF (t:aG):(gM t).length=(aF t).length:=by simp[gM]
theorem Yae {t:aG}{r:List Int}(h:r∈gM t):r.length<=(aF t).length/\∀ x∈r,0<=x/\x<(aF t).length:=by
 unfold gM at h;obtain⟨i,hi,rfl⟩:=List.mem_map.1 h;refine⟨Hab ..,fun x hx=>?_⟩;obtain⟨k,hk,-,rfl⟩:=vY.1 hx;omega
theorem La6 (t:aG):GOk (gM t):=fun r hr x hx=>by
 have:=(Yae hr).2 x hx;unfold InB;rw[uF];exact this
def zK (t:aG)(x:List Int):Int:=100*(fB t (atI x 0) (atI x 1)).attr.seq+10*atI x 0+atI x 1
noncomputable def yB (t:aG):List Int:=(aF t).map (zK t)
theorem Oal (t:aG):(yB t).length=(aF t).length:=by simp[yB]
theorem Wav {n:Int}{r:bT}(h:rowOk n r=true):0<=r.attr.seq/\r.attr.seq<=999:=by
 unfold rowOk at h;simp only[Qb1]at h;obtain⟨-,h⟩:=h;split at h
 ·simp only[Qb1,decide_eq_true_eq]at h
  rw[h.2];unfold none0;simp
 ·simp only[Qb1]at h
  have:=h.2;unfold uH inR at this;simp only[Qb1,decide_eq_true_eq]at this;omega
theorem Baj {t:aG}(ht:bA t=true){x:List Int}(h:bN t.n x):0<=(fB t (atI x 0) (atI x 1)).attr.seq/\(fB t (atI x 0) (atI x 1)).attr.seq<=999/\0<=atI x 0/\atI x 0<=4/\1<=atI x 1/\atI x 1<=6:=by
 have h1:=Wav (mZ ht h.2);have h2:=bG h.2;have h3:=bD (aW ht);omega
theorem Bb0 {t:aG}(ht:bA t=true){x:List Int}(h:bN t.n x):0<=zK t x/\zK t x<=1000000000:=by
 have:=Baj ht h;unfold zK;omega
theorem Tab {t:aG}(ht:bA t=true){x y:List Int}(hx:bN t.n x)(hy:bN t.n y)(h:zK t x=zK t y):x=y:=by
 have h1:=Baj ht hx;have h2:=Baj ht hy;unfold zK at h;rw[<- lC hx.1,<- lC hy.1];unfold toL prL;dsimp only;have e1:atI x 0=atI y 0:=by omega
 have e2:atI x 1=atI y 1:=by omega
 rw[e1,e2]
theorem Fag {t:aG}{j:Int}(h:InB (aF t) j):atI (yB t) j=zK t (atI (aF t) j):=by
 obtain⟨k,rfl⟩:∃ k:Nat,j=(k:Int):=⟨j.toNat,by unfold InB at h;omega⟩;have hk:=aM.1 h;unfold yB;rw[aV (by rw[Rbh];exact hk),Sb8,aV hk]
theorem Oam {t:aG}(ht:bA t=true):∀ x y,InB (gM t) x->InB (gM t) y->atI (yB t) x=atI (yB t) y->x=y:=by
 intro x y hx hy h;have nj:InB (aF t) x:=by unfold InB at hx ⊢;rw[uF]at hx;exact hx
 have ni:InB (aF t) y:=by unfold InB at hy ⊢;rw[uF]at hy;exact hy
 rw[Fag nj,Fag ni]at h;have e:=Tab ht (aY ht (dE nj)).1 (aY ht (dE ni)).1 h;obtain⟨i,rfl⟩:∃ k:Nat,x=(k:Int):=⟨x.toNat,by unfold InB at hx;omega⟩;obtain⟨j,rfl⟩:∃ k:Nat,y=(k:Int):=⟨y.toNat,by unfold InB at hy;omega⟩;rw[aV (aM.1 nj),aV (aM.1 ni)]at e;have:=(Sb7 (rW (sD t))).1 e;omega
theorem Xau {t:aG}(ht:bA t=true):∀ k∈yB t,0<=k/\k<=1000000000:=by
 intro k hk;unfold yB at hk;obtain⟨x,hx,rfl⟩:=List.mem_map.1 hk;exact Bb0 ht (aY ht hx).1
noncomputable def pQ (t:aG):List Int:=kD (gM t) (yB t)
noncomputable def uJ (t:aG):List (List Int):=(pQ t).map fun j=>atI (aF t) j
noncomputable def nG (t:aG):List (List Int)×Bool:=if bA t then (uJ t,true) else ([],false)
theorem Gaq {t:aG}{j:Int}(h:j∈pQ t):InB (aF t) j:=by
 have:=(Caw (La6 t)).1 h;unfold InB at this ⊢;rw[uF]at this;exact this
theorem Lab (t:aG):(pQ t).length<=(aF t).length:=by
 have:=Jax (La6 t) (yB t);rw[uF]at this;exact this
theorem Lac (t:aG):(uJ t).length<=(aF t).length:=by unfold uJ;rw[Rbh];exact Lab t
theorem sI {t:aG}{x:List Int}(h:x∈uJ t):x∈aF t:=by
 unfold uJ at h;obtain⟨j,hj,rfl⟩:=List.mem_map.1 h;exact dE (Gaq hj)
theorem Tap {n:Int}{l:List bT}{no:Int}(h:no<=l.length):ext n l no=l:=by
 unfold ext;rw[show (no-l.length).toNat=0 by omega,List.replicate_zero,Rbs]
def Ibl (rd:List (List Int))(s:aG)(k:Nat)(i:Nat):aG:=if decide (fM rd [(k:Int),(i:Int)+1]<0) then Ea4 s (k:Int) ((i:Int)+1) (row0 s.n) else s
def Dbw (rd:List (List Int))(k:Nat):Nat->aG->aG
 |0,s=>s
 |m+1,s=>Ibl rd (Dbw rd k m s) k m
def Pa4 (rd:List (List Int))(t:aG):Nat->aG
 |0=>t
 |k+1=>Dbw rd k (atI t.rows (k:Int)).length (Pa4 rd t k)
theorem Bat {rd:List (List Int)}{x:List Int}:fM rd x<0↔x∉rd:=by
 have h:=eP (fun y=>decide (x=y)) rd;constructor
 ·intro h1 hm
  have:rd.any (fun y=>decide (x=y))=true:=List.any_eq_true.2 ⟨x,hm,by simp⟩;rw[this,decide_eq_true_eq]at h;unfold fM at h1;omega
 ·intro hm
  have:rd.any (fun y=>decide (x=y))=false:=by
   rw[List.any_eq_false];intro y hy e;exact hm (by rw[of_decide_eq_true e];exact hy)
  rw[this,decide_eq_false_iff_not]at h;unfold fM;omega
structure Ta5 (rd:List (List Int)) (t s:aG) (k m:Nat):Prop where
 ok:bA s=true
 n:s.n=t.n
 len:∀ j:Nat,(atI s.rows (j:Int)).length=(atI t.rows (j:Int)).length
 row:∀ rep no,inst t.n rep no=true->fB s rep no=if (rep<k\/(rep=k/\no<=m))/\[rep,no]∉rd then row0 t.n else fB t rep no
theorem Ta5.rowsLen {rd:List (List Int)}{t s:aG}{k m:Nat}(ht:bA t=true)(h:Ta5 rd t s k m):s.rows.length=t.rows.length:=by
 have h1:=dG ht;have h2:=dG h.ok;have h3:=h.n;omega
theorem Ta5.stepS {rd:List (List Int)}{t s:aG}{k m:Nat}(ht:bA t=true)(h:Ta5 rd t s k m)(hk:k<t.rows.length)(hm:m<(atI t.rows (k:Int)).length):Ta5 rd t (Ibl rd s k m) k (m+1):=by
 have hlen:=dG ht;have h6:=(eU ht (at_mem hk)).1
 have hi:inst t.n (k:Int) ((m:Int)+1)=true:=by
  unfold inst inR;simp only[Qb1,decide_eq_true_eq];omega
 have cu:inst s.n (k:Int) ((m:Int)+1)=true:=by rw[h.n];exact hi
 unfold Ibl;cases hf:decide (fM rd [(k:Int),(m:Int)+1]<0)
 ·have fx:[(k:Int),(m:Int)+1]∈rd:=by
   rw[decide_eq_false_iff_not,Bat]at hf;exact Classical.not_not.1 hf
  refine⟨h.ok,h.n,h.len,fun rep no hr=>?_⟩;simp only[Qb4,if_false];rw[h.row rep no hr];have h0:=bG hr;by_cases e:rep=(k:Int)/\no=(m:Int)+1
  ·obtain⟨e1,e2⟩:=e
   subst e1;subst e2
   rw[if_neg (fun hh=>hh.2 fx),if_neg (fun hh=>hh.2 fx)]
  ·have:(rep<(k:Int)\/rep=(k:Int)/\no<=(m:Int))↔(rep<(k:Int)\/rep=(k:Int)/\no<=((m+1:Nat):Int)):=by omega
   simp only[this]
 ·have qh:[(k:Int),(m:Int)+1]∉rd:=Bat.1 (of_decide_eq_true hf)
  simp only[if_true];refine⟨Pa8 h.ok cu (by rw[h.n];exact Gaf (aW ht)),by unfold Ea4;exact h.n,fun j=>?_,fun rep no hr=>?_⟩
  ·have mC:InB s.rows (k:Int):=aM.2 (by rw[h.rowsLen ht];exact hk)
   unfold Ea4;dsimp only;by_cases e:j=k
   ·subst e
    rw[qD mC,gB,Tap (by rw[h.len];omega),h.len]
   ·rw[qE (by omega) (by omega) (by omega),h.len]
  ·rw[Aae h.ok cu (by rw[h.n];exact hr),h.row rep no hr,h.n]
   have h0:=bG hr;by_cases e:rep=(k:Int)/\no=(m:Int)+1
   ·obtain⟨e1,e2⟩:=e
    subst e1;subst e2
    rw[if_pos ⟨rfl,rfl⟩,if_pos ⟨.inr ⟨rfl,by omega⟩,qh⟩]
   ·rw[if_neg e]
    have:(rep<(k:Int)\/rep=(k:Int)/\no<=(m:Int))↔(rep<(k:Int)\/rep=(k:Int)/\no<=((m+1:Nat):Int)):=by omega
    simp only[this]
theorem Ta5.stepN {rd:List (List Int)}{t s:aG}{k:Nat}(ht:bA t=true)(h:Ta5 rd t s k 0)(hk:k<t.rows.length):∀ m,m<=(atI t.rows (k:Int)).length->Ta5 rd t (Dbw rd k m s) k m
 |0,_=>h
 |m+1,hm=>(Ta5.stepN ht h hk m (by omega)).stepS ht hk (by omega)
theorem Ta5.all {rd:List (List Int)}{t:aG}(ht:bA t=true)(eo:∀ x∈rd,x∈bO t.rows):∀ k,k<=t.rows.length->Ta5 rd t (Pa4 rd t k) k 0
 | 0, _ => by
  refine⟨ht,rfl,fun _=>rfl,fun rep no hr=>?_⟩;have h0:=bG hr;rw[if_neg (by omega)];rfl
 | k + 1, hk => by
  have h:=(Ta5.all ht eo k (by omega)).stepN ht (by omega) (atI t.rows (k:Int)).length (Rbg _);refine⟨h.ok,h.n,h.len,fun rep no hr=>?_⟩;show fB (Dbw rd k _ (Pa4 rd t k)) rep no=_
  rw[h.row rep no hr];have h0:=bG hr;by_cases e:rep=(k:Int)/\¬ no<=((atI t.rows (k:Int)).length:Int)
  ·obtain⟨e1,e2⟩:=e
   have er:fB t rep no=row0 t.n:=by
    unfold fB;rw[e1,if_neg e2]
   rw[er,ite_self,ite_self]
  ·have:(rep<(k:Int)\/rep=(k:Int)/\no<=((atI t.rows (k:Int)).length:Int))↔(rep<((k+1:Nat):Int)\/rep=((k+1:Nat):Int)/\no<=((0:Nat):Int)):=by omega
   simp only[this]
theorem Cbt {t:aG}(ht:bA t=true):Sab t (aF t) (Pa4 (aF t) t t.rows.length):=by
 have h:=Ta5.all ht (rd:=aF t) (fun x hx=>fE hx) t.rows.length (Rbg _);refine⟨h.ok,h.n,fun rep no hr=>?_⟩;rw[h.row rep no hr];have h0:=bG hr;have h1:=dG ht;by_cases e:[rep,no]∈aF t
 ·rw[if_pos e,if_neg (fun hh=>hh.2 e)]
 ·rw[if_neg e,if_pos ⟨.inl (by omega),e⟩]
noncomputable def Va2 (t:aG):Nat->aG
 |0=>⟨t.n,Rbf t.n.toNat []⟩
 |m+1=>Ea4 (Va2 t m) (atI (atI (aF t) (m:Int)) 0) (atI (atI (aF t) (m:Int)) 1) (fB t (atI (atI (aF t) (m:Int)) 0) (atI (atI (aF t) (m:Int)) 1))
theorem Maq {t:aG}(ht:bA t=true):∀ m,m<=(aF t).length->Sab t ((aF t).take m) (Va2 t m)
 | 0, _ => by
  have hg:=bD (aW ht);refine⟨?_,rfl,fun rep no hr=>?_⟩
  ·unfold Va2 bA
   simp only[Qb1,Rbw,Rbu,beq_iff_eq];refine⟨⟨aW ht,by omega⟩,fun l hl=>?_⟩;rw[Sbw hl];simp
  ·have h0:=bG hr
   rw[if_neg (by simp)];unfold Va2 fB
   have:atI (Rbf t.n.toNat ([]:List bT)) rep=[]:=by
    unfold atI;rw[Qb8,List.getElem?_replicate];split<;>rfl
   rw[this,if_neg (by simp only[Rbk];omega)]
 | m + 1, hm => by
  have h:=Maq ht m (by omega);have hx:=at_mem (show m<(aF t).length by omega);obtain⟨hi,hs,he,-⟩:=aY ht hx;have cu:inst (Va2 t m).n (atI (atI (aF t) (m:Int)) 0) (atI (atI (aF t) (m:Int)) 1)=true:=by rw[h.n];exact hi.2
  refine⟨Pa8 h.ok cu (by rw[h.n];exact mZ ht hi.2),h.n,fun rep no hr=>?_⟩;show fB (Ea4 (Va2 t m) _ _ _) rep no=_
  rw[Aae h.ok cu (by rw[h.n];exact hr),h.row rep no hr];rw[<- take_at (show m<(aF t).length by omega)];by_cases e:rep=atI (atI (aF t) (m:Int)) 0/\no=atI (atI (aF t) (m:Int)) 1
  ·rw[if_pos e,if_pos (Qb5 _ (by rw[e.1,e.2,<- he];exact List.mem_singleton.2 rfl)),e.1,e.2]
  ·rw[if_neg e]
   have:[rep,no]∈(aF t).take m++[atI (aF t) (m:Int)]↔[rep,no]∈(aF t).take m:=by
    rw[Sb5,Rbb];refine⟨fun hh=>hh.resolve_right fun e2=>e ?_,.inl⟩;rw[<- e2];exact⟨rfl,rfl⟩
   simp only[this]
theorem Cb9 {t:aG}(ht:bA t=true):Sab t (aF t) (Va2 t (aF t).length):=by
 have h:=Maq ht _ (Rbg (aF t).length);rw[Rb5]at h;exact h
theorem qK {t:aG}(ht:bA t=true):(uJ t).Nodup:=by
 unfold uJ List.Nodup;rw[Tbw];have mT:(pQ t).Nodup:=vJ (La6 t) _;refine List.Pairwise.imp_of_mem (fun {a b} ha hb jv e=>jv ?_) mT;have y8:=Gaq ha;have cr:=Gaq hb;obtain⟨i,rfl⟩:∃ k:Nat,a=(k:Int):=⟨a.toNat,by unfold InB at y8;omega⟩;obtain⟨j,rfl⟩:∃ k:Nat,b=(k:Int):=⟨b.toNat,by unfold InB at cr;omega⟩;rw[aV (aM.1 y8),aV (aM.1 cr)]at e;have:=(Sb7 (rW (sD t))).1 e;omega
theorem Ga3 {t:aG}(ht:bA t=true){n:Int}(hn:t.n=n):oQ n (uJ t)=true:=by
 unfold oQ;refine iY.2 fun i hi=>?_
 obtain⟨⟨h2,hx⟩,-⟩:=aY ht (sI (at_mem hi));unfold Ga4;rw[hn]at hx;simp only[Qb1,beq_iff_eq,Rbp,<- Bool.not_eq_true,Tbs,decide_eq_true_eq,not_exists,not_and];refine⟨⟨by omega,hx⟩,fun y hy e=>?_⟩;subst e;obtain⟨j,hj,e⟩:=List.mem_iff_getElem.1 hy;rw[Rbq]at hj;rw[Tbx,aV hi]at e;have:=(Sb7 (qK ht)).1 e;omega
section
variable {T:Nat->Ent} {β:Type}
end
def Ebh (c:yY)(rep no:Int)(k i:Nat)(r:bT):Bool:=r.state==0||!oP c r.cmd||((k:Int)==rep&&(i:Int)+1==no)
def Ma3 (c:yY)(rep no:Int)(k:Nat)(l:List bT)(a:mU):Nat->mU
 |0=>a
 | i + 1 => if Ebh c rep no k i (atI l (i : Int)) then Ma3 c rep no k l a i
  else ⟨max (Ma3 c rep no k l a i).seq (atI l (i:Int)).attr.seq,fQ (Ma3 c rep no k l a i).deps (k:Int) ((i:Int)+1)⟩
def Ra4 (t:aG)(c:yY)(rep no:Int):Nat->mU
 |0=>⟨0,Rbf t.n.toNat 0⟩
 |k+1=>Ma3 c rep no k (atI t.rows (k:Int)) (Ra4 t c rep no k) (atI t.rows (k:Int)).length
def Db3 (t:aG)(c:yY)(rep no:Int):mU:=⟨(Ra4 t c rep no t.rows.length).seq+1,(Ra4 t c rep no t.rows.length).deps⟩
theorem Ha7 {c:yY}{rep no:Int}{k:Nat}{l:List bT}{a:mU}{M:Int}(h0:0<=a.seq)(h1:a.seq<=M):∀ i,i<=l.length->(∀ r∈l,r.attr.seq<=M) ->
  (Ma3 c rep no k l a i).deps.length=a.deps.length/\0<=(Ma3 c rep no k l a i).seq/\(Ma3 c rep no k l a i).seq<=M
 |0,_,_=>⟨rfl,h0,h1⟩
 | i + 1, hi, hr => by
  obtain⟨h2,h3,h4⟩:=Ha7 (c:=c) (rep:=rep) (no:=no) (k:=k) h0 h1 i (by omega) hr;have h5:=hr _ (at_mem (show i<l.length by omega));unfold Ma3;split
  ·exact⟨h2,h3,h4⟩
  ·exact⟨by simp only[gB];exact h2,by simp only;omega,by simp only;omega⟩
theorem Ha6 {t:aG}{c:yY}{rep no:Int}{M:Int}(hM:0<=M):∀ k,k<=t.rows.length->(∀ l∈t.rows,∀ r∈l,r.attr.seq<=M) ->
  (Ra4 t c rep no k).deps.length=t.n.toNat/\0<=(Ra4 t c rep no k).seq/\(Ra4 t c rep no k).seq<=M
 |0,_,_=>⟨by simp[Ra4],by simp[Ra4],hM⟩
 | k + 1, hk, hr => by
  obtain⟨h2,h3,h4⟩:=Ha6 (c:=c) (rep:=rep) (no:=no) hM k (by omega) hr;obtain⟨h5,h6,h7⟩:=Ha7 (c:=c) (rep:=rep) (no:=no) (k:=k) (l:=atI t.rows (k:Int)) h3 h4 (atI t.rows (k:Int)).length (Rbg _) (hr _ (at_mem (show k<t.rows.length by omega)));exact⟨h5.trans h2,h6,h7⟩
theorem Zaq {t:aG}{c:yY}{rep no:Int}{M:Int}(hM:0<=M)(hr:∀ l∈t.rows,∀ r∈l,r.attr.seq<=M) :
  (Db3 t c rep no).deps.length=t.n.toNat/\1<=(Db3 t c rep no).seq/\(Db3 t c rep no).seq<=M+1:=by
 obtain⟨h2,h3,h4⟩:=Ha6 (c:=c) (rep:=rep) (no:=no) hM t.rows.length (Rbg _) hr;unfold Db3;exact⟨h2,by simp only;omega,by simp only;omega⟩
theorem Cau {t:aG}{x:List Int}:x∈aF t↔x∈bO t.rows/\(pJ t x).length=0:=by
 unfold aF xZ;rw[Tb3];simp only[Rbp,decide_eq_false_iff_not];constructor
 ·rintro⟨h1,h2⟩;exact⟨h1,by omega⟩
 ·rintro⟨h1,h2⟩;exact⟨h1,by omega⟩
def Pbu (r:bT)(k no:Int):Bool:=(r.state==3)&&decide (no<=atI r.attr.deps k)
def Qbr (t:aG)(k no:Int):Bool:=decide (no<=((atI t.rows k).length:Int))||t.rows.any fun l=>l.any fun r=>Pbu r k no
def Mbm (x:Saa)(k:Int):aG:=(atI x.reps k).table
def Wa8 (x:Saa)(ms:List Int)(y:List Int):Bool:=ms.any fun k=>!((fB (Mbm x k) (atI y 0) (atI y 1)).state==3)
def Lb8 (x:Saa)(ms:List Int)(k no:Int):Bool:=ms.any fun m=>Qbr (Mbm x m) k no
def Lbm (x:Saa)(ms:List Int):List (List Int):=(tK x.reps.length).filter fun y=>Lb8 x ms (atI y 0) (atI y 1)&&Wa8 x ms y
theorem Bbr {x:Saa}{ms:List Int}{y:List Int}:y∈Lbm x ms↔bN x.reps.length y/\Lb8 x ms (atI y 0) (atI y 1)=true/\Wa8 x ms y=true:=by
 unfold Lbm;rw[Tb3,Aaa,Qb1]
theorem Wa7 (x:Saa)(ms:List Int):oC (Lbm x ms):=List.Pairwise.filter _ (Ean _)
structure Cov (n:Nat) (ms:List Int) (S:Int->Int->Prop):Prop where
 len:ms.length=n
 rng:∀ x∈ms,0<=x/\x<=6
 iff:∀ j no:Int,0<=j->j<n->1<=no->(no<=atI ms j↔S j no)
theorem Cov.congr {n:Nat}{ms:List Int}{S S':Int->Int->Prop}(h:Cov n ms S)(hs:∀ j no:Int,0<=j->j<n->1<=no->(S j no↔S' j no)):Cov n ms S' :=
 ⟨h.len,h.rng,fun j no h0 h1 h2=>(h.iff j no h0 h1 h2).trans (hs j no h0 h1 h2)⟩
theorem Cov.start (n:Nat):Cov n (Rbf n 0) fun _ _=>False:=by
 refine⟨Rbw,fun x hx=>by rw[Sbw hx];omega,fun j no h0 h1 h2=>?_⟩
 have:atI (Rbf n (0:Int)) j=0:=by
  obtain⟨k,rfl⟩:∃ k:Nat,j=(k:Int):=⟨j.toNat,by omega⟩;rw[aV (by rw[Rbw];omega),Tb7]
 rw[this];constructor
 ·intro h;omega
 ·exact False.elim
structure Ibs (x:Saa) (ms:List Int) (S:List Int->Prop) (out:List (List Int)):Prop where
 nodup:out.Nodup
 iff:∀ y,y∈out↔S y/\Wa8 x ms y=true
 inst:∀ y∈out,bN x.reps.length y
theorem Ibs.done {x:Saa}{ms:List Int}{out:List (List Int)}(h:Ibs x ms (fun y=>bN x.reps.length y/\Lb8 x ms (atI y 0) (atI y 1)=true) out):(jK id (out.map prL)).map toL=Lbm x ms:=by
 obtain⟨h1,h2⟩:=Gab (l:=out) (fun y hy=>(h.inst y hy).1) h.nodup;refine uX h1 (Wa7 x ms) fun y=>?_
 rw[h2,h.iff,Bbr,and_assoc]
theorem Ibs.step {x:Saa}{ms:List Int}{S:List Int->Prop}{out:List (List Int)}(h:Ibs x ms S out){y:List Int}(hy:bN x.reps.length y) :
  Ibs x ms (fun z=>S z\/z=y) (if Wa8 x ms y&&!(out.any fun z=>decide (y=z)) then out++[y] else out):=by
 cases ho:Wa8 x ms y with
 | false =>
  simp only[Bool.false_and,Qb4,if_false];refine⟨h.nodup,fun z=>?_,h.inst⟩;rw[h.iff];constructor
  ·rintro⟨h1,h2⟩;exact⟨.inl h1,h2⟩
  ·rintro⟨h1|rfl,h2⟩
   ·exact⟨h1,h2⟩
   ·rw[ho]at h2;cases h2
 | true =>
  rw[Ubh]
  cases ha:out.any fun z=>decide (y=z) with
  | true =>
   simp only[Bool.not_true,Qb4,if_false];have hm:=Dam.1 ha;refine⟨h.nodup,fun z=>?_,h.inst⟩;rw[h.iff];constructor
   ·rintro⟨h1,h2⟩;exact⟨.inl h1,h2⟩
   ·rintro⟨h1|rfl,h2⟩
    ·exact⟨h1,h2⟩
    ·exact (h.iff z).1 hm
  | false =>
   simp only[Bool.not_false,if_true];have hm:y∉out:=fun hc=>by rw[Dam.2 hc]at ha;cases ha
   refine⟨qM h.nodup hm,fun z=>?_,fun z hz=>?_⟩
   ·rw[Sb5,h.iff,Rbb]
    constructor
    ·rintro (⟨h1,h2⟩|rfl)
     ·exact⟨.inl h1,h2⟩
     ·exact⟨.inr rfl,ho⟩
    ·rintro⟨h1|rfl,h2⟩
     ·exact .inl ⟨h1,h2⟩
     ·exact .inr rfl
   ·rcases List.mem_append.1 hz with hz|hz
    ·exact h.inst z hz
    ·rw[List.mem_singleton.1 hz];exact hy
def Bef {α:Type}(l:List α)(x y:α):Prop:=∃ A B,l=A++B/\x∈A/\y∈B
theorem Bef.idx {α:Type}{l:List α}{x y:α}:Bef l x y↔∃ i j,∃ hi:i<l.length,∃ hj:j<l.length,i<j/\l[i]=x/\l[j]=y:=by
 constructor
 ·rintro⟨A,B,rfl,hx,hy⟩
  obtain⟨i,hi,rfl⟩:=List.mem_iff_getElem.1 hx;obtain⟨j,hj,rfl⟩:=List.mem_iff_getElem.1 hy;refine⟨i,A.length+j,by rw[Qb6];omega,by rw[Qb6];omega,by omega,?_,?_⟩
  ·rw[Ubf hi]
  ·rw[List.getElem_append_right (by omega)]
   simp
 ·rintro⟨i,j,hi,hj,nh,rfl,rfl⟩
  refine⟨l.take (i+1),l.drop (i+1),(Sbp _ _).symm,?_,?_⟩
  ·exact List.mem_iff_getElem.2 ⟨i,by rw[Rbq];omega,by rw[Tbx]⟩
  ·exact List.mem_iff_getElem.2 ⟨j-(i+1),by rw[Sbf];omega,by rw[List.getElem_drop];congr 1;omega⟩
theorem Bef.asym {α:Type}{l:List α}{x y:α}(hn:l.Nodup)(h:Bef l x y):¬ Bef l y x:=by
 rw[Bef.idx]at h ⊢;obtain⟨i,j,hi,hj,nh,rfl,rfl⟩:=h
 rintro⟨a,b,ha,hb,jv,e1,e2⟩
 have:=(Sb7 hn).1 e1;have:=(Sb7 hn).1 e2;omega
theorem Bef.map {α β:Type}{l:List α}{f:α->β}{x y:α}(h:Bef l x y):Bef (l.map f) (f x) (f y):=by
 obtain⟨A,B,rfl,hx,hy⟩:=h;exact⟨A.map f,B.map f,by rw[Sbr],Sbh hx,Sbh hy⟩
def Gbk (G:List (List Int))(out:List (List Int)):Prop:=∀ A C B,out=A++C::B->∀ j∈C,∀ k,Rch G j k->(∃ D∈A,k∈D)\/k∈C
theorem Gbk.step {G:List (List Int)}(hg:GOk G){s:CSt}(h:Ea1 G s)(hr:s.rest≠[])(hp:Gbk G s.out):Gbk G (cO G s).out:=by
 obtain⟨h1,h2,h3,-⟩:=h.top hg hr;have wj:atI s.rest (Fav G s:Int)∈s.rest:=at_mem h1;unfold cO;dsimp only;generalize atI s.rest (Fav G s:Int)=C0 at *;intro A C B e j hj k hk
 rcases List.eq_nil_or_concat B with hB|⟨B',b,hB⟩
 ·subst hB
  obtain⟨e1,e2⟩:=List.append_inj' e rfl;rw[List.cons.injEq]at e2;obtain⟨rfl,-⟩:=e2;subst e1;obtain⟨a,ha,he,nf⟩:=fP (h.sub wj);have ob:InB G (atI C0 0):=by rw[nf];exact ha
  have xj:=(gY hg ha).1 (by rw[<- he];exact hj);exact (Bam hg ob).1 h3 k (by rw[nf];exact xj.1.trans hk)
 ·rw[List.concat_eq_append]at hB
  subst hB;have e':s.out++[C0]=(A++C::B')++[b]:=by rw[e];simp
  obtain⟨e1,-⟩:=List.append_inj' e' rfl;exact hp A C B' e1 j hj k hk
theorem Db2 {G:List (List Int)}(hg:GOk G):∀ (n:Nat) (s:CSt),s.rest.length=n->Ea1 G s->Gbk G s.out->Gbk G (cM G n s)
 |0,s,hn,h,hp=>hp
 | n + 1, s, hn, h, hp => by
  have hr:s.rest≠[]:=fun e=>by rw[e]at hn;simp at hn
  obtain⟨h1,h2⟩:=h.step hg hr;exact Db2 hg n (cO G s) (by omega) h1 (hp.step hg h hr)
theorem Uaz {G:List (List Int)}(hg:GOk G):Gbk G (bL G) :=
 Db2 hg _ _ rfl (Ea1.start G) fun A C B e=>by
  have:=congrArg List.length e;simp at this
theorem Uay {G:List (List Int)}(hg:GOk G){ks:List Int}{p q:Int}(hp:InB G p)(h:Rch G p q)(h2:¬ Rch G q p):Bef (kD G ks) q p:=by
 obtain⟨C,hC,w5⟩:=qX hg hp;obtain⟨A,B,e⟩:=List.append_of_mem (((jS hg).2 C).2 hC);obtain⟨a,ha,rfl,-⟩:=fP hC;have hpa:=(gY hg ha).1 w5
 rcases Uaz hg A _ B e p w5 q h with ⟨D,hD,hq⟩|hq
 ·unfold kD
  rw[e,Sbu,Ubd];exact⟨_,_,rfl,List.mem_flatMap.2 ⟨D,hD,(dJ _ _).mem_iff.2 hq⟩,Qb2 _ ((dJ _ _).mem_iff.2 w5)⟩
 ·exact absurd (((gY hg ha).1 hq).2.trans hpa.1) h2
theorem Qa4 {G:List (List Int)}(hg:GOk G){ks:List Int}{p q:Int}(hp:InB G p)(h:Rch G p q)(h2:Rch G q p)(hk:atI ks q<atI ks p):Bef (kD G ks) q p:=by
 obtain⟨C,hC,w5⟩:=qX hg hp;obtain⟨A,B,e⟩:=List.append_of_mem (((jS hg).2 C).2 hC);obtain⟨a,ha,rfl,-⟩:=fP hC;have hpa:=(gY hg ha).1 w5;have hqC:q∈uN G a:=(gY hg ha).2 ⟨hpa.1.trans h,h2.trans hpa.2⟩
 have hb:Bef (jK (fZ ks) (uN G a)) q p:=by
  have hs:=oK (fZ ks) (uN G a);obtain⟨i,hi,ei⟩:=List.mem_iff_getElem.1 ((dJ (fZ ks) (uN G a)).mem_iff.2 hqC);obtain⟨j,hj,ej⟩:=List.mem_iff_getElem.1 ((dJ (fZ ks) (uN G a)).mem_iff.2 w5);refine Bef.idx.2 ⟨i,j,hi,hj,?_,ei,ej⟩
  rcases Tbz i j with h|h|h
  ·exact h
  ·subst h
   rw[ei]at ej;rw[ej]at hk;omega
  ·have:=List.pairwise_iff_getElem.1 hs j i hj hi h
   rw[ei,ej,lT,lT,nI]at this;dsimp only at this;omega
 obtain⟨X,Y,eX,hx,hy⟩:=hb;unfold kD;rw[e,Sbu,Ubd,eX];exact⟨A.flatMap (jK (fZ ks))++X,Y++B.flatMap (jK (fZ ks)),by simp[Rba],Qb5 _ hx,Qb2 _ hy⟩
theorem xC {t:aG}(ht:bA t=true){x y:List Int}(hx:x∈aF t)(h:wQ t x y):y∈aF t:=by
 obtain⟨rl,-⟩:=aY ht hx;obtain⟨hc,hb⟩:=Cau.1 hx;have h0:pJ t x=[]:=List.length_eq_zero_iff.1 hb
 have br:∀ w,wQ t x w->qZ t w=true:=fun w hw=>by
  cases hcw:qZ t w with
  |true=>rfl
  | false =>
   have:=(rC ht rl).2 ⟨hw,hcw⟩;rw[h0]at this;cases this
 have qo:=h.inst ht rl;refine Cau.2 ⟨(Mah ht).2 ⟨qo,br y h⟩,?_⟩;rw[List.length_eq_zero_iff];refine List.eq_nil_iff_forall_not_mem.2 fun w hw=>?_
 obtain⟨h1,h2⟩:=(rC ht qo).1 hw
 have:wQ t x w:=by
  clear h2 hw
  induction h1 with
  |base=>exact h
  |step _ hc hy ih=>exact .step ih hc hy
 rw[br w this]at h2;cases h2
theorem Ibh {t:aG}{i:Nat}(hi:i<(aF t).length):atI (gM t) (i:Int)=uM (aF t) (fB t (atI (atI (aF t) (i:Int)) 0) (atI (atI (aF t) (i:Int)) 1)).attr.deps (atI (aF t) (i:Int)) (aF t).length:=by
 unfold gM;rw[aV (by simpa using hi),Sb8,List.getElem_range]
theorem Fah {t:aG}(ht:bA t=true){x y:List Int}(hx:bN t.n x)(hy:bN t.n y):y∈nQ t x↔atI y 1<=atI (fB t (atI x 0) (atI x 1)).attr.deps (atI y 0):=by
 have h2:=bG hy.2;have h1:=iN ht hx.2;unfold nQ;rw[Ga9];constructor
 ·rintro⟨k,i,hk,hi,rfl⟩
  show (i:Int)+1<=atI _ (k:Int)
  omega
 ·intro h
  refine⟨(atI y 0).toNat,(atI y 1-1).toNat,by omega,?_,?_⟩
  ·rw[show (((atI y 0).toNat:Nat):Int)=atI y 0 by omega]
   omega
  ·refine (lC hy.1).symm.trans ?_
   show [atI y 0,atI y 1]=_
   rw[show (((atI y 0).toNat:Nat):Int)=atI y 0 by omega,show (((atI y 1-1).toNat:Nat):Int)+1=atI y 1 by omega]
theorem Bb4 {t:aG}(ht:bA t=true){i:Nat}(hi:i<(aF t).length){y:List Int}(h:wQ t (atI (aF t) (i:Int)) y):∃ j:Nat,j<(aF t).length/\atI (aF t) (j:Int)=y/\Rch (gM t) (i:Int) (j:Int):=by
 induction h with
 |base=>exact⟨i,hi,rfl,.refl⟩
 | @step z y hz hc hy ih =>
  obtain⟨j,hj,rfl,hr⟩:=ih;have mS:y∈aF t:=xC ht (at_mem hi) (.step hz hc hy);obtain⟨k,hk,e⟩:=List.mem_iff_getElem.1 mS;have e':atI (aF t) (k:Int)=y:=by rw[aV hk];exact e
  by_cases hjk:y=atI (aF t) (j:Int)
  ·exact⟨j,hj,hjk.symm,hr⟩
  refine⟨k,hk,e',.step hr ?_⟩;rw[Ibh hj,vY];refine⟨k,hk,?_,rfl⟩;unfold Oay;rw[e'];have:=(Fah ht (aY ht (at_mem hj)).1 (aY ht mS).1).1 hy;simp only[Qb1,Rbp,decide_eq_false_iff_not,decide_eq_true_eq];exact⟨fun e=>hjk e.symm,this⟩
theorem Bbl {t:aG}(ht:bA t=true){i:Nat}(hi:i<(aF t).length){j:Int}(h:Rch (gM t) (i:Int) j):wQ t (atI (aF t) (i:Int)) (atI (aF t) j):=by
 induction h with
 |refl=>exact .base
 | @step b c hb hc ih =>
  have uo:=hb.inb (La6 t) (by unfold InB;rw[uF];omega);unfold InB at uo;rw[uF]at uo;obtain⟨k,rfl⟩:∃ k:Nat,b=(k:Int):=⟨b.toNat,by omega⟩;have hk:k<(aF t).length:=by omega
  rw[Ibh hk,vY]at hc;obtain⟨m,hm,hB,rfl⟩:=hc;unfold Oay at hB;simp only[Qb1,Rbp,decide_eq_false_iff_not,decide_eq_true_eq]at hB;exact .step ih (iE ht (fE (at_mem hk))).2 ((Fah ht (aY ht (at_mem hk)).1 (aY ht (at_mem hm)).1).2 hB.2)
def Za7 (t:aG)(x y:List Int):Prop:=wQ t y x/\(¬ wQ t x y\/zK t x<zK t y)
theorem Za7.bef {t:aG}(ht:bA t=true){x y:List Int}(hx:x∈aF t)(hy:y∈aF t)(h:Za7 t x y):Bef (uJ t) x y:=by
 obtain⟨i,hi,e⟩:=List.mem_iff_getElem.1 hx;obtain⟨j,hj,e2⟩:=List.mem_iff_getElem.1 hy;have ei:atI (aF t) (i:Int)=x:=by rw[aV hi];exact e
 have ej:atI (aF t) (j:Int)=y:=by rw[aV hj];exact e2
 have inj:∀ k:Nat,∀ m:Nat,k<(aF t).length->m<(aF t).length->atI (aF t) (k:Int)=atI (aF t) (m:Int)->k=m:=by
  intro k m hk hm e;rw[aV hk,aV hm]at e;exact (Sb7 (rW (sD t))).1 e
 have bi:InB (gM t) (i:Int):=by unfold InB;rw[uF];omega
 have bj:InB (gM t) (j:Int):=by unfold InB;rw[uF];omega
 have hr:Rch (gM t) (j:Int) (i:Int):=by
  obtain⟨k,hk,ek,hr⟩:=Bb4 ht hj (by rw[ej];exact h.1);have:=inj k i hk hi (by rw[ek,ei]);rw[<- this];exact hr
 have hb:Bef (pQ t) (i:Int) (j:Int):=by
  unfold pQ;by_cases lf:Rch (gM t) (i:Int) (j:Int)
  ·refine Qa4 (La6 t) bj hr lf ?_
   rw[Fag (aM.2 hi),Fag (aM.2 hj),ei,ej]
   rcases h.2 with h2|h2
   ·have:=Bbl ht hi lf
    rw[ei,ej]at this;exact absurd this h2
   ·exact h2
  ·exact Uay (La6 t) bj hr lf
 have:=hb.map (f:=fun j=>atI (aF t) j);rw[ei,ej]at this;exact this
theorem Za7.total {t:aG}(ht:bA t=true){x y:List Int}(hx:x∈aF t)(hy:y∈aF t)(bh:x≠y)(h:wQ t x y\/wQ t y x):Za7 t x y\/Za7 t y x:=by
 unfold Za7;by_cases h1:wQ t x y
 ·by_cases h2:wQ t y x
  ·rcases Int.lt_trichotomy (zK t x) (zK t y) with h3|h3|h3
   ·exact .inl ⟨h2,.inr h3⟩
   ·exact absurd (Tab ht (aY ht hx).1 (aY ht hy).1 h3) bh
   ·exact .inr ⟨h1,.inr h3⟩
  ·exact .inr ⟨h1,.inl h2⟩
 ·rcases h with h|h
  ·exact absurd h h1
  ·exact .inl ⟨h,.inl h1⟩
theorem Vac {t:aG}(ht:bA t=true)(hh:La4 t=true){x y:List Int}(hx:x∈aF t)(hy:y∈aF t)(bh:x≠y)(hi:oP (fB t (atI x 0) (atI x 1)).cmd (fB t (atI y 0) (atI y 1)).cmd=true):wQ t x y\/wQ t y x:=by
 have key:Za6 t x y=false:=by
  unfold La4 at hh;rw[iY]at hh
  have sym:Za6 t x y=Za6 t y x:=by
   unfold Za6;rw[Ga2,Bool.and_assoc,Bool.and_assoc,Bool.and_comm (decide _)]
  obtain⟨i,hi,ei⟩:=List.mem_iff_getElem.1 (fE hx);obtain⟨j,hj,ej⟩:=List.mem_iff_getElem.1 (fE hy)
  have go:∀ (i j:Nat) (hi:i<(bO t.rows).length) (hj:j<(bO t.rows).length),i<j->Za6 t (bO t.rows)[j] (bO t.rows)[i]=false:=by
   intro i j hi hj nh;have:=List.all_eq_true.1 (hh j hj) (bO t.rows)[i] (List.mem_iff_getElem.2 ⟨i,by rw[Rbq];omega,by rw[Tbx]⟩);rw[aV hj]at this;simpa using this
  rcases Tbz i j with h|h|h
  ·rw[sym,<- ei,<- ej];exact go i j hi hj h
  ·subst h;exact absurd (ei.symm.trans ej) bh
  ·rw[<- ei,<- ej];exact go j i hj hi h
 unfold Za6 at key;rw[hi,Ubh,Bool.and_eq_false_iff,decide_eq_false_iff_not,decide_eq_false_iff_not]at key;have xi:=(aY ht hx).1;have yi:=(aY ht hy).1
 rcases key with h|h
 ·exact .inl (.step .base (iE ht (fE hx)).2 ((Fah ht xi yi).2 (by omega)))
 ·exact .inr (.step .base (iE ht (fE hy)).2 ((Fah ht yi xi).2 (by omega)))
noncomputable def kM (t:aG)(z:List Int):aG:=Ea4 t (atI z 0) (atI z 1) (row0 t.n)
theorem xN {t:aG}(ht:bA t=true){z:List Int}(hz:bN t.n z):bA (kM t z)=true:=Pa8 ht hz.2 (Gaf (aW ht))
theorem Gav {t:aG}(ht:bA t=true){z:List Int}(hz:bN t.n z){x:List Int}(hx:bN t.n x)(bh:x≠z):fB (kM t z) (atI x 0) (atI x 1)=fB t (atI x 0) (atI x 1):=by
 unfold kM;rw[Aae ht hz.2 hx.2,if_neg]
 rintro⟨e1,e2⟩
 apply bh;rw[<- lC hx.1,<- lC hz.1];unfold prL;rw[e1,e2]
theorem Ua0 {t:aG}(ht:bA t=true){z:List Int}(hz:bN t.n z):qZ (kM t z) z=false:=by
 unfold qZ kM;rw[Aae ht hz.2 hz.2,if_pos ⟨rfl,rfl⟩];rfl
theorem Gaw {t:aG}(ht:bA t=true){z:List Int}(hz:bN t.n z){x:List Int}(hx:bN t.n x)(h:qZ (kM t z) x=true):x≠z/\qZ t x=true:=by
 have bh:x≠z:=fun e=>by rw[e,Ua0 ht hz]at h;cases h
 refine⟨bh,?_⟩;unfold qZ at h ⊢;rw[Gav ht hz hx bh]at h;exact h
theorem Caz (t:aG)(z:List Int):(kM t z).n=t.n:=rfl
theorem Ca0 {t:aG}(ht:bA t=true){z:List Int}(hz:bN t.n z){x:List Int}(hx:x∈aF (kM t z)){y:List Int}:wQ (kM t z) x y↔wQ t x y:=by
 have hu:=xN ht hz;have rl:=(aY hu hx).1;rw[Caz]at rl
 have same:∀ w,w∈aF (kM t z)->nQ (kM t z) w=nQ t w/\qZ t w=true:=fun w hw=>by
  have xh:=(aY hu hw).1;rw[Caz]at xh;have:=Gaw ht hz xh (iE hu (fE hw)).2;refine⟨?_,this.2⟩;unfold nQ;rw[Gav ht hz xh this.1]
 constructor
 ·intro h
  induction h with
  |base=>exact .base
  | step h1 hc hy ih =>
   obtain⟨e,cQ⟩:=same _ (xC hu hx h1);exact .step ih cQ (by rw[<- e];exact hy)
 ·intro h
  induction h with
  |base=>exact .base
  | step h1 hc hy ih =>
   have hw:=xC hu hx ih;exact .step ih (iE hu (fE hw)).2 (by rw[(same _ hw).1];exact hy)
theorem sK {t:aG}(ht:bA t=true){z:List Int}(hz:bN t.n z){x:List Int}(hx:x∈aF (kM t z)):x∈aF t/\x≠z:=by
 have hu:=xN ht hz;have rl:=(aY hu hx).1;rw[Caz]at rl;have h1:=Gaw ht hz rl (iE hu (fE hx)).2;refine⟨Cau.2 ⟨(Mah ht).2 ⟨rl,h1.2⟩,?_⟩,h1.1⟩;rw[List.length_eq_zero_iff];refine List.eq_nil_iff_forall_not_mem.2 fun w hw=>?_
 obtain⟨hw1,hw2⟩:=(rC ht rl).1 hw;have yj:=xC hu hx ((Ca0 ht hz hx).2 hw1);have xh:=(aY hu yj).1;rw[Caz]at xh;rw[(Gaw ht hz xh (iE hu (fE yj)).2).2]at hw2;cases hw2
theorem Sa6 {t:aG}(ht:bA t=true){x:List Int}:x∈uJ t↔x∈aF t:=by
 refine⟨sI,fun h=>?_⟩;obtain⟨i,hi,e⟩:=List.mem_iff_getElem.1 h;unfold uJ;refine List.mem_map.2 ⟨(i:Int),?_,by rw[aV hi];exact e⟩;unfold pQ;rw[Caw (La6 t)];unfold InB;rw[uF];omega
theorem Tal {l:List (List Int)}(hn:l.Nodup){i:Nat}(hi:i<l.length):fM l l[i]=(i:Int):=by
 have h0:0<=fM l l[i]:=by
  have:=mt (Bat (rd:=l) (x:=l[i])).1 (fun h=>h (Sbx hi));omega
 obtain⟨h1,h2,-⟩:=Ca8 h0;unfold InB at h1;obtain⟨k,ek⟩:∃ k:Nat,fM l l[i]=(k:Int):=⟨(fM l l[i]).toNat,by omega⟩;rw[ek]at h1 h2 ⊢;have hk:k<l.length:=by omega
 rw[aV hk]at h2;rw[(Sb7 hn).1 h2]
theorem Xal {t:aG}(ht:bA t=true)(hh:La4 t=true){z:List Int}(hz:bN t.n z):Gbg t (uJ t) (uJ (kM t z))=true:=by
 have hu:=xN ht hz;unfold Gbg;refine iY.2 fun i hi=>List.all_eq_true.2 fun y hy=>?_
 rw[aV hi];obtain⟨j,hj,ej⟩:=List.mem_iff_getElem.1 hy;rw[Rbq]at hj;rw[Tbx]at ej;have fN:j<(uJ t).length:=by omega
 generalize hx:(uJ t)[i]=x;have hbt:Bef (uJ t) y x:=Bef.idx.2 ⟨j,i,fN,hi,by omega,ej,hx⟩
 cases hb:Bbq t (uJ (kM t z)) x y with
 |false=>rfl
 | true =>
  exfalso;unfold Bbq at hb;simp only[Qb1,decide_eq_true_eq]at hb;obtain⟨⟨⟨hI,h0⟩,h1⟩,h2⟩:=hb
  have mem:∀ w,0<=fM (uJ (kM t z)) w->w∈aF (kM t z):=fun w hw=>by
   rw[<- Sa6 hu];by_cases hm:w∈uJ (kM t z)
   ·exact hm
   ·have:=Bat.2 hm
    omega
  have hxu:=mem x h0;have hyu:=mem y h1;obtain⟨zE,hxz⟩:=sK ht hz hxu;obtain⟨hyt,xm⟩:=sK ht hz hyu;have bh:y≠x:=fun e=>by rw[e]at h2;omega
  have hF:Za7 t y x:=by
   rcases Za7.total ht zE hyt (Ne.symm bh) (Vac ht hh zE hyt (Ne.symm bh) hI) with h|h
   ·exact absurd (h.bef ht zE hyt) (hbt.asym (qK ht))
   ·exact h
  have hk:∀ w,w∈aF t->w≠z->zK (kM t z) w=zK t w:=fun w hw hwz=>by
   unfold zK;rw[Gav ht hz (aY ht hw).1 hwz]
  have hFu:Za7 (kM t z) y x:=by
   unfold Za7 at hF ⊢;rw[Ca0 ht hz hxu,Ca0 ht hz hyu,hk _ hyt xm,hk _ zE hxz];exact hF
  obtain⟨a,b,ha,hb,jv,ea,eb⟩:=Bef.idx.1 (hFu.bef hu hyu hxu);have e1:=Tal (qK hu) ha;have e2:=Tal (qK hu) hb;rw[ea]at e1;rw[eb]at e2;omega
theorem Xan {t:aG}(ht:bA t=true){z:List Int}(hz:bN t.n z):(uJ (kM t z)).length<=(uJ t).length :=
 jL (qK (xN ht hz)) fun x hx=>(Sa6 ht).2 (sK ht hz (sI hx)).1
theorem Xam {t:aG}(ht:bA t=true){z:List Int}(hz:bN t.n z):z∉uJ (kM t z):=fun h=>(sK ht hz (sI h)).2 rfl
theorem Was {t:aG}(ht:bA t=true)(hh:La4 t=true){z:List Int}(hz:bN t.n z):Bbp (uJ t) (uJ (kM t z)) t=(true,true):=by
 unfold Bbp;rw[ht,Ga3 ht rfl,Ga3 (xN ht hz) (Caz t z),Xal ht hh hz];rfl
theorem Eb1 {n:Int}(hg:dK n=true):qH ⟨n,Rbf n.toNat []⟩ 0 1=(row0 n,true):=by
 rcases bD hg with rfl|rfl<;>decide
theorem Bbx {t:aG}(ht:bA t=true){z:List Int}(hz:bN t.n z):Ta8 t (atI z 0) (atI z 1) (row0 t.n)=(kM t z,true):=by
 unfold Ta8 kM;rw[ht,hz.2,Gaf (aW ht)];rfl
end Go.Proofs.YtpgnlmfmlffjcaaGreat.Rf
