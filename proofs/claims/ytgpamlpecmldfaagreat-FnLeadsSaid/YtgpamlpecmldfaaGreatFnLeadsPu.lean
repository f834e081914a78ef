import Derived.Test.YtgpamlpecmldfaaGreatFnLeadsTab
set_option linter.all false
open Bool renaming and_eq_true → Vbk, false_eq_true → Vbm, not_true → Vbt, not_false → Vb0, not_eq_true' → Vb9, true_and → Wbf, false_and → Wbi, and_false → Wbn, or_eq_true → Wb9, false_or → Xba, true_or → Xbp, and_true → Xbv, or_true → Xbw, and_self → Xbz, beq_eq_decide_eq → Xb8, or_eq_false_iff → Ybe, and_eq_false_iff → Ybi, false_ne_true → Yby, or_false → Ybz
open List renaming mem_singleton → Vbp, length_append → Vbw, append_assoc → Vbx, replicate → Wba, length_cons → Wbb, length_take → Wbh, append_nil → Wbo, length_nil → Wbp, nil_append → Wby, length_replicate → Wb1, length_drop → Wb4, take_length → Xbt, not_all_eq_any_not → Ybf, length_set → Ybn, replicate_zero → Yb6
open Nat renaming le_refl → Vb6, lt_or_ge → Wbc
namespace Go.Proofs.YtgpamlpecmldfaaGreat
namespace FnLeads
open Go Go.Proofs.YtgpamlpecmldfaaGreat.Rf
open Nat renaming reduceAdd → rA, reduceEqDiff → rQ
open Int renaming reduceBEq → rB, reduceLT → rT, reduceLE → rE
set_option maxHeartbeats 4000000
set_option maxRecDepth 10000
theorem dM (x lo up:Int):Fun T 83 [i64 x,i64 lo,i64 up]=some [.bool (inR x lo up)]:=by
 rw[aO (t:=Mbk) rfl];unfold Mbk;unfold inR
 (refine aG ?_;repeat' (refine aF ?_ ?_<;>intro _<;>try simp (disch:=first|assumption|omega) only[S0,rA,rQ,rB,rT,rE, *]))
theorem bU (x lo up:Int):Fun T 9 [i64 x,i64 lo,i64 up]=some [.bool (inR x lo up)]:=by
 rw[aO (t:=tm9) rfl];unfold tm9;unfold inR
 (refine aG ?_;repeat' (refine aF ?_ ?_<;>intro _<;>try simp (disch:=first|assumption|omega) only[S0,rA,rQ,rB,rT,rE, *]))
theorem rC (n:Int):Fun T 75 [i64 n]=some [.bool (bR n)]:=by
 rw[aO (t:=Mbs) rfl];unfold Mbs;unfold bR
 (refine aG ?_;repeat' (refine aF ?_ ?_<;>intro _<;>try simp (disch:=first|assumption|omega) only[S0,rA,rQ,rB,rT,rE, *]))
theorem lK (n:Int):Fun T 8 [i64 n]=some [.bool (bR n)]:=by
 rw[aO (t:=tm8) rfl];unfold tm8;unfold bR
 (refine aG ?_;repeat' (refine aF ?_ ?_<;>intro _<;>try simp (disch:=first|assumption|omega) only[S0,rA,rQ,rB,rT,rE, *]))
theorem Jal (n:Int):Fun T 85 [i64 n]=some [.bool (inR n 0 3)]:=by
 rw[aO (t:=Mbi) rfl];unfold Mbi
 (refine aG ?_;repeat' (refine aF ?_ ?_<;>intro _<;>try simp (disch:=first|assumption|omega) only[S0,rA,rQ,rB,rT,rE,dM, *]))
theorem Jac (n:Int):Fun T 22 [i64 n]=some [.bool (inR n 0 3)]:=by
 rw[aO (t:=Nb8) rfl];unfold Nb8
 (refine aG ?_;repeat' (refine aF ?_ ?_<;>intro _<;>try simp (disch:=first|assumption|omega) only[S0,rA,rQ,rB,rT,rE,bU, *]))
theorem Qa8 (k i f t a:Int):Fun T 21 [i64 k,i64 i,i64 f,i64 t,i64 a]=some [i64 (Ma5 ⟨k,i,f,t,a⟩)]:=by
 rw[aO (t:=Nb9) rfl];unfold Nb9;unfold Ma5
 (refine aG ?_;repeat' (refine aF ?_ ?_<;>intro _<;>try simp (disch:=first|assumption|omega) only[S0,rA,rQ,rB,rT,rE,Jac,bU, *]))
theorem eT (k i f t a:Int):Fun T 20 [i64 k,i64 i,i64 f,i64 t,i64 a]=some [.bool (iZ ⟨k,i,f,t,a⟩)]:=by
 rw[aO (t:=Oba) rfl];unfold Oba;unfold iZ
 (refine aG ?_;repeat' (refine aF ?_ ?_<;>intro _<;>try simp (disch:=first|assumption|omega) only[S0,rA,rQ,rB,rT,rE,Qa8,mR,Ebn, *]))
 all_goals (refine Ma8 ?_;simp only[Vbk,Wb9,Vb9,Bool.not_eq_false',Ybi,Ybe,Vbm,beq_iff_eq,beq_eq_false_iff_ne,decide_eq_true_eq,decide_eq_false_iff_not,ne_eq]at *;grind)
theorem eY (k i f t a:Int):Fun T 84 [i64 k,i64 i,i64 f,i64 t,i64 a]=some [.bool (iZ ⟨k,i,f,t,a⟩)]:=by
 rw[aO (t:=Mbj) rfl];unfold Mbj;unfold iZ
 (refine aG ?_;repeat' (refine aF ?_ ?_<;>intro _<;>try simp (disch:=first|assumption|omega) only[S0,rA,rQ,rB,rT,rE,dM,Jal,mR, *]))
theorem dR (n rep no:Int)(hg:bR n=true):Fun T 26 [i64 n,i64 rep,i64 no]=some [.bool (inst n rep no)]:=by
 rw[aO (t:=Nb4) rfl];unfold Nb4;unfold inst
 have hn:=aL hg
 (refine aG ?_;repeat' (refine aF ?_ ?_<;>intro _<;>try simp (disch:=first|assumption|omega) only[S0,rA,rQ,rB,rT,rE,bU, *]))
theorem bY (n rep no:Int):Fun T 94 [i64 n,i64 rep,i64 no]=some [.bool (bR n&&inst n rep no)]:=by
 rw[aO (t:=Lb9) rfl];unfold Lb9;unfold inst
 cases hg:bR n
 ·(refine aG ?_;repeat' (refine aF ?_ ?_<;>intro _<;>try simp (disch:=first|assumption|omega) only[S0,rA,rQ,rB,rT,rE,rC, *]))
 have hn:=aL hg
 (refine aG ?_;repeat' (refine aF ?_ ?_<;>intro _<;>try simp (disch:=first|assumption|omega) only[S0,rA,rQ,rB,rT,rE,rC,dM, *]))
theorem Vac (xs:List Int)(lo up:Int)(hx:xs.length<=1099511627776):Fun T 24 [rL xs,i64 lo,i64 up]=some [.bool (xs.all fun x=>inR x lo up)]:=by
 rw[aO (t:=Nb6) rfl];unfold Nb6
 simp (disch:=first|assumption|omega) only[S0,rA,rQ,rB,rT,rE,aS, *];rw[Sb1 1 xs (fun x=>inR x lo up) [.bool false]]
 ·(refine aG ?_;repeat' (refine aF ?_ ?_<;>intro _<;>try simp (disch:=first|assumption|omega) only[S0,rA,rQ,rB,rT,rE, *]))
 ·intro i hi hb hl hp
  (refine aG ?_;repeat' (refine aF ?_ ?_<;>intro _<;>try simp (disch:=first|assumption|omega) only[S0,rA,rQ,rB,rT,rE,aS,bU, *]))
 ·intro i hi hb hl hp
  (refine aG ?_;repeat' (refine aF ?_ ?_<;>intro _<;>try simp (disch:=first|assumption|omega) only[S0,rA,rQ,rB,rT,rE,aS,bU, *]))
 ·intro hl
  (refine aG ?_;repeat' (refine aF ?_ ?_<;>intro _<;>try simp (disch:=first|assumption|omega) only[S0,rA,rQ,rB,rT,rE, *]))
theorem pU (n s:Int)(xs:List Int)(hx:xs.length<=1099511627776):Fun T 23 [i64 n,i64 s,rL xs]=some [.bool (bZ n ⟨s,xs⟩)]:=by
 rw[aO (t:=Nb7) rfl];unfold Nb7;unfold bZ
 (refine aG ?_;repeat' (refine aF ?_ ?_<;>intro _<;>try simp (disch:=first|assumption|omega) only[S0,rA,rQ,rB,rT,rE,bU,Vac, *]))
theorem xD (x:Int):Fun T 89 [i64 x]=some [.bool (!inR x 0 6)]:=by
 rw[aO (t:=Mbe) rfl];unfold Mbe
 (refine aG ?_;repeat' (refine aF ?_ ?_<;>intro _<;>try simp (disch:=first|assumption|omega) only[S0,rA,rQ,rB,rT,rE,dM, *]))
theorem Maj  (xs:List Int)(hx:xs.length<=1099511627776):Fun T 88 [rL xs]=some [i64 (ixF (fun x=>!inR x 0 6) xs)]:=by
 rw[aO (t:=Mbf) rfl];unfold Mbf
 simp (disch:=first|assumption|omega) only[S0,rA,rQ,rB,rT,rE,aS, *];rw[Jao 1 xs (fun x=>!inR x 0 6) (fun i=>[i64 i])]
 ·cases h:xs.any (fun x=>!inR x 0 6)
  ·have e:ixF (fun x=>!inR x 0 6) xs=-1:=by
    have h2:=jG (fun x=>!inR x 0 6) xs;rw[h]at h2;unfold ixF at h2 ⊢;split at h2<;>simp_all
   rw[e];simp (disch:=first|assumption|omega) only[S0,rA,rQ,rB,rT,rE]
  ·simp (disch:=first|assumption|omega) only[S0,rA,rQ,rB,rT,rE]
 ·intro i hi hb hl hp
  (refine aG ?_;repeat' (refine aF ?_ ?_<;>intro _<;>try simp (disch:=first|assumption|omega) only[S0,rA,rQ,rB,rT,rE,aS,xD, *]))
 ·intro i hi hb hl hp
  (refine aG ?_;repeat' (refine aF ?_ ?_<;>intro _<;>try simp (disch:=first|assumption|omega) only[S0,rA,rQ,rB,rT,rE,aS,xD, *]))
 ·intro hl
  (refine aG ?_;repeat' (refine aF ?_ ?_<;>intro _<;>try simp (disch:=first|assumption|omega) only[S0,rA,rQ,rB,rT,rE, *]))
theorem Ma0  (xs:List Int)(hx:xs.length<=1099511627776):Fun T 87 [rL xs]=some [.bool (xs.any (fun x=>!inR x 0 6))]:=by
 rw[aO (t:=Mbg) rfl];unfold Mbg
 (refine aG ?_;repeat' (refine aF ?_ ?_<;>intro _<;>try simp (disch:=first|assumption|omega) only[S0,rA,rQ,rB,rT,rE,Maj,jG, *]))
theorem oU (n s:Int)(xs:List Int)(hx:xs.length<=1099511627776):Fun T 86 [i64 n,i64 s,rL xs]=some [.bool (bR n&&bZ n ⟨s,xs⟩)]:=by
 rw[aO (t:=Mbh) rfl];unfold Mbh;unfold bZ
 have e:xs.any (fun x=>!inR x 0 6)=!xs.all fun x=>inR x 0 6:=by rw[Ybf]
 (refine aG ?_;repeat' (refine aF ?_ ?_<;>intro _<;>try simp (disch:=first|assumption|omega) only[S0,rA,rQ,rB,rT,rE,rC,dM,Ma0,e,Bool.not_not, *]))
theorem Qa9 (xs ys:List Int)(hx:xs.length<=1099511627776):Fun T 19 [rL xs,rL ys]=some [.bool (decide (xs=ys))]:=by
 rw[aO (t:=Obb) rfl];unfold Obb
 by_cases hl:ys.length=xs.length
 ·simp (disch:=first|assumption|omega) only[S0,rA,rQ,rB,rT,rE, *]
  rw[Cb3 1 xs.length (fun i=>decide (atI xs i=atI ys i)) [.bool false],Ia2 hl.symm]
  ·(refine aG ?_;repeat' (refine aF ?_ ?_<;>intro _<;>try simp (disch:=first|assumption|omega) only[S0,rA,rQ,rB,rT,rE, *]))
  ·intro i hi hp
   have hb:InB xs (i:Int):=aX.2 hi;have fg:InB ys (i:Int):=aX.2 (by omega);have h2:decide ((i:Int)<xs.length)=true:=by simp;omega
   have h3:(atI xs i==atI ys i)=true:=by simpa using hp
   (refine aG ?_;repeat' (refine aF ?_ ?_<;>intro _<;>try simp (disch:=first|assumption|omega) only[S0,rA,rQ,rB,rT,rE,aS, *]))
  ·intro i hi hp
   have hb:InB xs (i:Int):=aX.2 hi;have fg:InB ys (i:Int):=aX.2 (by omega);have h2:decide ((i:Int)<xs.length)=true:=by simp;omega
   have h3:(atI xs i==atI ys i)=false:=by simpa using hp
   (refine aG ?_;repeat' (refine aF ?_ ?_<;>intro _<;>try simp (disch:=first|assumption|omega) only[S0,rA,rQ,rB,rT,rE,aS, *]))
  ·have h2:decide ((xs.length:Int)<xs.length)=false:=by simp
   (refine aG ?_;repeat' (refine aF ?_ ?_<;>intro _<;>try simp (disch:=first|assumption|omega) only[S0,rA,rQ,rB,rT,rE, *]))
 ·have km:((xs.length:Int)==(ys.length:Int))=false:=by simp;omega
  have e:=Pau (fun h=>hl h.symm)
  (refine aG ?_;repeat' (refine aF ?_ ?_<;>intro _<;>try simp (disch:=first|assumption|omega) only[S0,rA,rQ,rB,rT,rE, *]))
theorem slices_Equal_int (xs ys:List Int)(hx:xs.length<=1099511627776):Fun T 92 [rL xs,rL ys]=some [.bool (decide (xs=ys))]:=by
 rw[aO (t:=Mbb) rfl];unfold Mbb
 by_cases hl:ys.length=xs.length
 ·simp (disch:=first|assumption|omega) only[S0,rA,rQ,rB,rT,rE, *]
  rw[Cb3 1 xs.length (fun i=>decide (atI xs i=atI ys i)) [.bool false],Ia2 hl.symm]
  ·(refine aG ?_;repeat' (refine aF ?_ ?_<;>intro _<;>try simp (disch:=first|assumption|omega) only[S0,rA,rQ,rB,rT,rE, *]))
  ·intro i hi hp
   have hb:InB xs (i:Int):=aX.2 hi;have fg:InB ys (i:Int):=aX.2 (by omega);have h2:decide ((i:Int)<xs.length)=true:=by simp;omega
   have h3:(atI xs i==atI ys i)=true:=by simpa using hp
   (refine aG ?_;repeat' (refine aF ?_ ?_<;>intro _<;>try simp (disch:=first|assumption|omega) only[S0,rA,rQ,rB,rT,rE,aS, *]))
  ·intro i hi hp
   have hb:InB xs (i:Int):=aX.2 hi;have fg:InB ys (i:Int):=aX.2 (by omega);have h2:decide ((i:Int)<xs.length)=true:=by simp;omega
   have h3:(atI xs i==atI ys i)=false:=by simpa using hp
   (refine aG ?_;repeat' (refine aF ?_ ?_<;>intro _<;>try simp (disch:=first|assumption|omega) only[S0,rA,rQ,rB,rT,rE,aS, *]))
  ·have h2:decide ((xs.length:Int)<xs.length)=false:=by simp
   (refine aG ?_;repeat' (refine aF ?_ ?_<;>intro _<;>try simp (disch:=first|assumption|omega) only[S0,rA,rQ,rB,rT,rE, *]))
 ·have km:((xs.length:Int)==(ys.length:Int))=false:=by simp;omega
  have e:=Pau (fun h=>hl h.symm)
  (refine aG ?_;repeat' (refine aF ?_ ?_<;>intro _<;>try simp (disch:=first|assumption|omega) only[S0,rA,rQ,rB,rT,rE, *]))
theorem bD (s s':Int)(xs ys:List Int)(hx:xs.length<=1099511627776):Fun T 18 [i64 s,rL xs,i64 s',rL ys]=some [.bool (decide ((⟨s,xs⟩:bN)=⟨s',ys⟩))]:=by
 rw[aO (t:=Obc) rfl];unfold Obc
 have e:decide ((⟨s,xs⟩:bN)=⟨s',ys⟩)=(s==s'&&decide (xs=ys)):=by simp[bN.mk.injEq,Xb8]
 (refine aG ?_;repeat' (refine aF ?_ ?_<;>intro _<;>try simp (disch:=first|assumption|omega) only[S0,rA,rQ,rB,rT,rE,Qa9,e, *]))
theorem iR (s s':Int)(xs ys:List Int)(hx:xs.length<=1099511627776):Fun T 91 [i64 s,rL xs,i64 s',rL ys]=some [.bool (decide ((⟨s,xs⟩:bN)=⟨s',ys⟩))]:=by
 rw[aO (t:=Mbc) rfl];unfold Mbc
 have e:decide ((⟨s,xs⟩:bN)=⟨s',ys⟩)=(s==s'&&decide (xs=ys)):=by simp[bN.mk.injEq,Xb8]
 (refine aG ?_;repeat' (refine aF ?_ ?_<;>intro _<;>try simp (disch:=first|assumption|omega) only[S0,rA,rQ,rB,rT,rE,slices_Equal_int,e, *]))
theorem iO (n:Int)(hg:bR n=true):Fun T 17 [i64 n]=some [i64 (none0 n).seq,rL (none0 n).deps]:=by
 rw[aO (t:=Ibq) rfl];unfold Ibq;unfold none0
 have hn:=aL hg
 (refine aG ?_;repeat' (refine aF ?_ ?_<;>intro _<;>try simp (disch:=first|assumption|omega) only[S0,rA,rQ,rB,rT,rE,Uaq, *]))
theorem dJ (n:Int)(hg:bR n=true):Fun T 90 [i64 n]=some [i64 (none0 n).seq,rL (none0 n).deps]:=by
 rw[aO (t:=Mbd) rfl];unfold Mbd;unfold none0
 have hn:=aL hg
 (refine aG ?_;repeat' (refine aF ?_ ?_<;>intro _<;>try simp (disch:=first|assumption|omega) only[S0,rA,rQ,rB,rT,rE,Uaq, *]))
theorem sJ (n bal vot sta k i f t a sq:Int)(xs:List Int)(hg:bR n=true)(hx:xs.length<=1099511627776) :
  Fun T 16 [i64 n,i64 bal,i64 vot,i64 sta,i64 k,i64 i,i64 f,i64 t,i64 a,i64 sq,rL xs]=some [.bool (rowOk n ⟨bal,vot,sta,⟨k,i,f,t,a⟩,⟨sq,xs⟩⟩)]:=by
 rw[aO (t:=Obd) rfl];unfold Obd;unfold rowOk
 (refine aG ?_;repeat' (refine aF ?_ ?_<;>intro _<;>try simp (disch:=first|assumption|omega) only[S0,rA,rQ,rB,rT,rE,bU,mR,iO,bD,eT,pU, *]))
theorem Ea5 (n bal vot sta k i f t a sq:Int)(xs:List Int)(hg:bR n=true)(hx:xs.length<=1099511627776) :
  Fun T 82 [i64 n,i64 bal,i64 vot,i64 sta,i64 k,i64 i,i64 f,i64 t,i64 a,i64 sq,rL xs]=some [.bool (rowOk n ⟨bal,vot,sta,⟨k,i,f,t,a⟩,⟨sq,xs⟩⟩)]:=by
 rw[aO (t:=Mbl) rfl];unfold Mbl;unfold rowOk
 have h1:=@Za8 ⟨k,i,f,t,a⟩;have h2:=Ba6 hg;have h3:decide ((⟨sq,xs⟩:bN)=none0 n)=true->bZ n ⟨sq,xs⟩=true:=fun h=>by rw[of_decide_eq_true h];exact h2
 (refine aG ?_;repeat' (refine aF ?_ ?_<;>intro _<;>try simp (disch:=first|assumption|omega) only[S0,rA,rQ,rB,rT,rE,dM,mR,dJ,iR,eY,oU, *]))
 all_goals (refine Ma8 ?_;simp only[Vbk,Wb9,Vb9,Bool.not_eq_false',Ybi,Ybe,Vbm,beq_iff_eq,beq_eq_false_iff_ne,decide_eq_true_eq,decide_eq_false_iff_not,ne_eq]at *;grind)
theorem slices_Clone_int (xs:List Int)(hx:xs.length<=10000000000):Fun T 114 [rL xs]=some [rL xs]:=by
 rw[Saw (e:=Lbg) rfl]
 cases xs with
 |nil=>rfl
 | cons x xs =>
  show Fun (Pax [(114,.tm Uax)]) 114 [rL (x::xs)]=_
  rw[aO (t:=Uax) rfl];unfold Uax;have rK:(x::xs).length<=100000000000:=by omega
  have h0:(aT.mk 1 0).run []=some [.rows 1 []]:=rfl;have h1:(x::xs).isEmpty=false:=rfl;simp (disch:=first|assumption|omega) only[SA,SB,SC,SP,SQ,SZ,reduceIte,reduceCtorEq,Nat.reduceAdd,Nat.reduceEqDiff,Pba,Kby,h0,h1,kU]
theorem oG (s:Int)(xs:List Int)(hx:xs.length<=10000000000):Fun T 113 [i64 s,rL xs]=some [i64 s,rL xs]:=by
 rw[aO (t:=Cbg) rfl];unfold Cbg
 (refine aG ?_;repeat' (refine aF ?_ ?_<;>intro _<;>try simp (disch:=first|assumption|omega) only[S0,rA,rQ,rB,rT,rE,slices_Clone_int, *]))
theorem iH (n:Int)(ax bb bc az bh au ay aw aj av ar an aq ah:Int)(af:(List Int))(hx:af.length<=10000000000):Fun T 60 [i64 n,i64 ax,i64 bb,i64 bc,i64 az,i64 bh,i64 au,i64 ay,i64 aw,i64 aj,i64 av,i64 ar,i64 an,i64 aq,i64 ah,rL af]=some [.bool (Hah n ⟨ax,bb,bc,az,bh,au,ay,aw,⟨aj,av,ar,an,aq⟩,⟨ah,af⟩⟩)]:=by
 rw[aO (t:=Mb7) rfl];unfold Mb7;unfold Hah
 have rK:af.length<=1099511627776:=by omega
 cases hg:bR n
 ·(refine aG ?_;repeat' (refine aF ?_ ?_<;>intro _<;>try simp (disch:=first|assumption|omega) only[S0,rA,rQ,rB,rT,rE,lK, *]))
 have hn:=aL hg
 (refine aG ?_;repeat' (refine aF ?_ ?_<;>intro _<;>try simp (disch:=first|assumption|omega) only[S0,rA,rQ,rB,rT,rE,lK,bU,dR,sJ,pU,eT,mR,iO,bD, *]))
 all_goals (refine Ma8 ?_;simp only[Vbk,Wb9,Vb9,Bool.not_eq_false',Ybi,Ybe,Vbm,beq_iff_eq,beq_eq_false_iff_ne,decide_eq_true_eq,decide_eq_false_iff_not,ne_eq]at *;grind)
theorem kN (n:Int)(rows:List (List bF))(hs:gF rows):Fun T 15 [i64 n,rL rows]=some [.bool (dZ ⟨n,rows⟩)]:=by
 rw[aO (t:=Obe) rfl];unfold Obe;unfold dZ
 obtain⟨ke,gR⟩:=hs;cases hg:bR n
 ·(refine aG ?_;repeat' (refine aF ?_ ?_<;>intro _<;>try simp (disch:=first|assumption|omega) only[S0,rA,rQ,rB,rT,rE,lK, *]))
 cases hl:(rows.length:Int)==n
 ·(refine aG ?_;repeat' (refine aF ?_ ?_<;>intro _<;>try simp (disch:=first|assumption|omega) only[S0,rA,rQ,rB,rT,rE,lK, *]))
 simp (disch:=first|assumption|omega) only[S0,rA,rQ,rB,rT,rE,lK, *];rw[Pbz 1 rows (fun l=>l.all (fun r=>rowOk n r)&&decide ((l.length:Int)<=6)) [.bool false]]
 ·(refine aG ?_;repeat' (refine aF ?_ ?_<;>intro _<;>try simp (disch:=first|assumption|omega) only[S0,rA,rQ,rB,rT,rE, *]))
 ·intro i hi hb bj hm
  obtain⟨ql,oE⟩:=gR _ hm;simp (disch:=first|assumption|omega) only[S0,rA,rQ,rB,rT,rE,aS, *];rw[Pbz 3 (atI rows i) (fun r=>rowOk n r) [.bool false]]
  ·have e:decide (6<((atI rows (i:Int)).length:Int))=!decide (((atI rows (i:Int)).length:Int)<=6):=by
    by_cases h:((atI rows (i:Int)).length:Int)<=6
    ·simp[h]
    ·simp[h];omega
   (refine aG ?_;repeat' (refine aF ?_ ?_<;>intro _<;>try simp (disch:=first|assumption|omega) only[S0,rA,rQ,rB,rT,rE,e, *]))
  ·intro j hj gp nh x8
   have hq3:=oE _ x8;have hq4:(atI (atI rows (i:Int)) (j:Int)).attr.deps.length<=1099511627776:=by omega
   (refine aG ?_;repeat' (refine aF ?_ ?_<;>intro _<;>try simp (disch:=first|assumption|omega) only[S0,rA,rQ,rB,rT,rE,aS,sJ, *]))
  ·intro kb
   (refine aG ?_;repeat' (refine aF ?_ ?_<;>intro _<;>try simp (disch:=first|assumption|omega) only[S0,rA,rQ,rB,rT,rE, *]))
 ·intro kb
  (refine aG ?_;repeat' (refine aF ?_ ?_<;>intro _<;>try simp (disch:=first|assumption|omega) only[S0,rA,rQ,rB,rT,rE, *]))
theorem rD (cD cV cG bz cz cq cr cn cj:Int)(bl:(List Int))(n:Int)(rows:List (List bF))(hg:bR n=true)(hx:bl.length<=1099511627776):Fun T 81 [i64 cD,i64 cV,i64 cG,i64 bz,i64 cz,i64 cq,i64 cr,i64 cn,i64 cj,rL bl,i64 n,rL rows]=some [.bool (!rowOk n ⟨cD,cV,cG,⟨bz,cz,cq,cr,cn⟩,⟨cj,bl⟩⟩)]:=by
 rw[aO (t:=Mbm) rfl];unfold Mbm
 (refine aG ?_;repeat' (refine aF ?_ ?_<;>intro _<;>try simp (disch:=first|assumption|omega) only[S0,rA,rQ,rB,rT,rE,Ea5, *]))
theorem Fas (n:Int)(rows:List (List bF))(hg:bR n=true)(xs:List bF)(hx:xs.length<=1099511627776)(hq:∀ x∈xs,x.attr.deps.length<=1099511627776):Fun T 80 [rL xs,i64 n,rL rows]=some [i64 (ixF (fun r=>!rowOk n r) xs)]:=by
 rw[aO (t:=Mbn) rfl];unfold Mbn
 simp (disch:=first|assumption|omega) only[S0,rA,rQ,rB,rT,rE,aS, *];rw[Jao 1 xs (fun r=>!rowOk n r) (fun i=>[i64 i])]
 ·cases h:xs.any (fun r=>!rowOk n r)
  ·have e:ixF (fun r=>!rowOk n r) xs=-1:=by
    have h2:=jG (fun r=>!rowOk n r) xs;rw[h]at h2;unfold ixF at h2 ⊢;split at h2<;>simp_all
   rw[e];simp (disch:=first|assumption|omega) only[S0,rA,rQ,rB,rT,rE]
  ·simp (disch:=first|assumption|omega) only[S0,rA,rQ,rB,rT,rE]
 ·intro i hi hb hl hp
  have nn:=hq _ (at_mem hi)
  try simp only at nn hp
  (refine aG ?_;repeat' (refine aF ?_ ?_<;>intro _<;>try simp (disch:=first|assumption|omega) only[S0,rA,rQ,rB,rT,rE,aS,rD, *]))
 ·intro i hi hb hl hp
  have nn:=hq _ (at_mem hi)
  try simp only at nn hp
  (refine aG ?_;repeat' (refine aF ?_ ?_<;>intro _<;>try simp (disch:=first|assumption|omega) only[S0,rA,rQ,rB,rT,rE,aS,rD, *]))
 ·intro hl
  (refine aG ?_;repeat' (refine aF ?_ ?_<;>intro _<;>try simp (disch:=first|assumption|omega) only[S0,rA,rQ,rB,rT,rE, *]))
theorem Fav (n:Int)(rows:List (List bF))(hg:bR n=true)(xs:List bF)(hx:xs.length<=1099511627776)(hq:∀ x∈xs,x.attr.deps.length<=1099511627776):Fun T 79 [rL xs,i64 n,rL rows]=some [.bool (xs.any (fun r=>!rowOk n r))]:=by
 rw[aO (t:=Mbo) rfl];unfold Mbo
 (refine aG ?_;repeat' (refine aF ?_ ?_<;>intro _<;>try simp (disch:=first|assumption|omega) only[S0,rA,rQ,rB,rT,rE,Fas,jG, *]))
theorem vO (l:List bF)(n:Int)(rows:List (List bF))(hg:bR n=true)(hx:l.length<=1099511627776)(hq:∀ x∈l,x.attr.deps.length<=1099511627776):Fun T 78 [rL l,i64 n,rL rows]=some [.bool (decide (6<(l.length:Int))||l.any fun r=>!rowOk n r)]:=by
 rw[aO (t:=Mbp) rfl];unfold Mbp
 (refine aG ?_;repeat' (refine aF ?_ ?_<;>intro _<;>try simp (disch:=first|assumption|omega) only[S0,rA,rQ,rB,rT,rE,Fav, *]))
theorem Jak (n:Int)(rows:List (List bF))(hg:bR n=true)(xs:List (List bF))(hx:xs.length<=1099511627776)(hq:∀ x∈xs,x.length<=1099511627776/\∀ y∈x,y.attr.deps.length<=1099511627776):Fun T 77 [rL xs,i64 n,rL rows]=some [i64 (ixF (fun l=>decide (6<(l.length:Int))||l.any fun r=>!rowOk n r) xs)]:=by
 rw[aO (t:=Mbq) rfl];unfold Mbq
 simp (disch:=first|assumption|omega) only[S0,rA,rQ,rB,rT,rE,aS, *];rw[Jao 1 xs (fun l=>decide (6<(l.length:Int))||l.any fun r=>!rowOk n r) (fun i=>[i64 i])]
 ·cases h:xs.any (fun l=>decide (6<(l.length:Int))||l.any fun r=>!rowOk n r)
  ·have e:ixF (fun l=>decide (6<(l.length:Int))||l.any fun r=>!rowOk n r) xs=-1:=by
    have h2:=jG (fun l=>decide (6<(l.length:Int))||l.any fun r=>!rowOk n r) xs;rw[h]at h2;unfold ixF at h2 ⊢;split at h2<;>simp_all
   rw[e];simp (disch:=first|assumption|omega) only[S0,rA,rQ,rB,rT,rE]
  ·simp (disch:=first|assumption|omega) only[S0,rA,rQ,rB,rT,rE]
 ·intro i hi hb hl hp
  have nn:=hq _ (at_mem hi)
  try simp only at nn hp
  obtain⟨ql,oE⟩:=nn
  (refine aG ?_;repeat' (refine aF ?_ ?_<;>intro _<;>try simp (disch:=first|assumption|omega) only[S0,rA,rQ,rB,rT,rE,aS,vO, *]))
 ·intro i hi hb hl hp
  have nn:=hq _ (at_mem hi)
  try simp only at nn hp
  obtain⟨ql,oE⟩:=nn
  (refine aG ?_;repeat' (refine aF ?_ ?_<;>intro _<;>try simp (disch:=first|assumption|omega) only[S0,rA,rQ,rB,rT,rE,aS,vO, *]))
 ·intro hl
  (refine aG ?_;repeat' (refine aF ?_ ?_<;>intro _<;>try simp (disch:=first|assumption|omega) only[S0,rA,rQ,rB,rT,rE, *]))
theorem Jaq (n:Int)(rows:List (List bF))(hg:bR n=true)(xs:List (List bF))(hx:xs.length<=1099511627776)(hq:∀ x∈xs,x.length<=1099511627776/\∀ y∈x,y.attr.deps.length<=1099511627776):Fun T 76 [rL xs,i64 n,rL rows]=some [.bool (xs.any (fun l=>decide (6<(l.length:Int))||l.any fun r=>!rowOk n r))]:=by
 rw[aO (t:=Mbr) rfl];unfold Mbr
 (refine aG ?_;repeat' (refine aF ?_ ?_<;>intro _<;>try simp (disch:=first|assumption|omega) only[S0,rA,rQ,rB,rT,rE,Jak,jG, *]))
theorem jE (n:Int)(rows:List (List bF))(hs:gF rows):Fun T 74 [i64 n,rL rows]=some [.bool (dZ ⟨n,rows⟩)]:=by
 rw[aO (t:=Mbt) rfl];unfold Mbt;unfold dZ
 obtain⟨ke,gR⟩:=hs;have hs3:∀ x∈rows,x.length<=1099511627776/\∀ y∈x,y.attr.deps.length<=1099511627776:=fun x hx=>⟨by have:=(gR x hx).1;omega,fun y hy=>by have:=(gR x hx).2 y hy;omega⟩
 have e:(rows.any fun l=>decide (6<(l.length:Int))||l.any fun r=>!rowOk n r)=!rows.all fun l=>l.all (fun r=>rowOk n r)&&decide ((l.length:Int)<=6):=by
  rw[Ybf];congr 1;funext l;rw[<- Ybf,Bool.not_and,Bool.or_comm];congr 1;by_cases h:(l.length:Int)<=6
  ·simp[h]
  ·simp[h];omega
 (refine aG ?_;repeat' (refine aF ?_ ?_<;>intro _<;>try simp (disch:=first|assumption|omega) only[S0,rA,rQ,rB,rT,rE,rC,Jaq,e,Bool.not_not, *]))
theorem Ja9 (xs:List Int)(hx:xs.length<=10000000000):Fun T 33 [rL xs]=some [rL xs]:=by
 rw[aO (t:=Nbx) rfl];unfold Nbx
 have h0:(aT.mk 1 0).run []=some [.rows 1 []]:=rfl
 (refine aG ?_;repeat' (refine aF ?_ ?_<;>intro _<;>try simp (disch:=first|assumption|omega) only[S0,rA,rQ,rB,rT,rE,h0,kU, *]))
theorem fT (s:Int)(xs:List Int)(hx:xs.length<=10000000000):Fun T 32 [i64 s,rL xs]=some [i64 s,rL xs]:=by
 rw[aO (t:=Nby) rfl];unfold Nby
 (refine aG ?_;repeat' (refine aF ?_ ?_<;>intro _<;>try simp (disch:=first|assumption|omega) only[S0,rA,rQ,rB,rT,rE,Ja9, *]))
theorem oO (cD cV cG bz cz cq cr cn cj:Int)(bl:(List Int))(hx:bl.length<=10000000000):Fun T 31 [i64 cD,i64 cV,i64 cG,i64 bz,i64 cz,i64 cq,i64 cr,i64 cn,i64 cj,rL bl]=some [i64 cD,i64 cV,i64 cG,i64 bz,i64 cz,i64 cq,i64 cr,i64 cn,i64 cj,rL bl]:=by
 rw[aO (t:=Nbz) rfl];unfold Nbz
 (refine aG ?_;repeat' (refine aF ?_ ?_<;>intro _<;>try simp (disch:=first|assumption|omega) only[S0,rA,rQ,rB,rT,rE,fT, *]))
theorem qF (cD cV cG bz cz cq cr cn cj:Int)(bl:(List Int))(hx:bl.length<=10000000000):Fun T 112 [i64 cD,i64 cV,i64 cG,i64 bz,i64 cz,i64 cq,i64 cr,i64 cn,i64 cj,rL bl]=some [i64 cD,i64 cV,i64 cG,i64 bz,i64 cz,i64 cq,i64 cr,i64 cn,i64 cj,rL bl]:=by
 rw[aO (t:=Cbh) rfl];unfold Cbh
 (refine aG ?_;repeat' (refine aF ?_ ?_<;>intro _<;>try simp (disch:=first|assumption|omega) only[S0,rA,rQ,rB,rT,rE,oG, *]))
theorem dH (n:Int)(rows:List (List bF))(rep no:Int)(hg:bR n=true)(hs:gF rows)(hb:InB rows rep)(h1:1<=no)(h2:no<=1000):Fun T 50 [i64 n,rL rows,i64 rep,i64 no]=some [i64 (eF ⟨n,rows⟩ rep no).ballot,i64 (eF ⟨n,rows⟩ rep no).vote,i64 (eF ⟨n,rows⟩ rep no).state,i64 (eF ⟨n,rows⟩ rep no).cmd.kind,i64 (eF ⟨n,rows⟩ rep no).cmd.id,i64 (eF ⟨n,rows⟩ rep no).cmd.src,i64 (eF ⟨n,rows⟩ rep no).cmd.dst,i64 (eF ⟨n,rows⟩ rep no).cmd.amt,i64 (eF ⟨n,rows⟩ rep no).attr.seq,rL (eF ⟨n,rows⟩ rep no).attr.deps]:=by
 rw[aO (t:=Nbh) rfl];unfold Nbh;unfold eF row0
 have hq:=hs.2 _ (iW hb);by_cases h:no<=(atI rows rep).length
 ·have h3:decide (((atI rows rep).length:Int)<no)=false:=by simp;omega
  have gp:InB (atI rows rep) (no-1):=by unfold InB;omega
  have oE:=hq.2 _ (iW gp)
  (refine aG ?_;repeat' (refine aF ?_ ?_<;>intro _<;>try simp (disch:=first|assumption|omega) only[S0,rA,rQ,rB,rT,rE,aS,oO, *]))
 ·have h3:decide (((atI rows rep).length:Int)<no)=true:=by simp;omega
  (refine aG ?_;repeat' (refine aF ?_ ?_<;>intro _<;>try simp (disch:=first|assumption|omega) only[S0,rA,rQ,rB,rT,rE,aS,iO, *]))
theorem jD (n:Int)(rows:List (List bF))(rep no:Int)(hg:bR n=true)(hs:gF rows)(hb:InB rows rep)(h1:1<=no)(h2:no<=1000):Fun T 147 [i64 n,rL rows,i64 rep,i64 no]=some [i64 (eF ⟨n,rows⟩ rep no).ballot,i64 (eF ⟨n,rows⟩ rep no).vote,i64 (eF ⟨n,rows⟩ rep no).state,i64 (eF ⟨n,rows⟩ rep no).cmd.kind,i64 (eF ⟨n,rows⟩ rep no).cmd.id,i64 (eF ⟨n,rows⟩ rep no).cmd.src,i64 (eF ⟨n,rows⟩ rep no).cmd.dst,i64 (eF ⟨n,rows⟩ rep no).cmd.amt,i64 (eF ⟨n,rows⟩ rep no).attr.seq,rL (eF ⟨n,rows⟩ rep no).attr.deps]:=by
 rw[aO (t:=Bbn) rfl];unfold Bbn;unfold eF row0
 have hq:=hs.2 _ (iW hb);by_cases h:no<=(atI rows rep).length
 ·have h3:decide (no<=((atI rows rep).length:Int))=true:=by simp;omega
  have gp:InB (atI rows rep) (no-1):=by unfold InB;omega
  have oE:=hq.2 _ (iW gp)
  (refine aG ?_;repeat' (refine aF ?_ ?_<;>intro _<;>try simp (disch:=first|assumption|omega) only[S0,rA,rQ,rB,rT,rE,aS,qF, *]))
 ·have h3:decide (no<=((atI rows rep).length:Int))=false:=by simp;omega
  (refine aG ?_;repeat' (refine aF ?_ ?_<;>intro _<;>try simp (disch:=first|assumption|omega) only[S0,rA,rQ,rB,rT,rE,aS,dJ, *]))
theorem nM (n:Int)(rows:List (List bF))(rep no:Int)(hs:gF rows):Fun T 52 [i64 n,rL rows,i64 rep,i64 no]=some [.bool (dZ ⟨n,rows⟩&&inst n rep no)]:=by
 rw[aO (t:=Nbf) rfl];unfold Nbf
 cases ht:dZ ⟨n,rows⟩
 ·(refine aG ?_;repeat' (refine aF ?_ ?_<;>intro _<;>try simp (disch:=first|assumption|omega) only[S0,rA,rQ,rB,rT,rE,kN, *]))
 ·have hg:bR n=true:=aU ht
  (refine aG ?_;repeat' (refine aF ?_ ?_<;>intro _<;>try simp (disch:=first|assumption|omega) only[S0,rA,rQ,rB,rT,rE,kN,dR, *]))
theorem Da3 (n:Int)(rows:List (List bF))(rep no:Int)(hs:gF rows):Fun T 146 [i64 n,rL rows,i64 rep,i64 no]=some [i64 (mV ⟨n,rows⟩ rep no).1.ballot,i64 (mV ⟨n,rows⟩ rep no).1.vote,i64 (mV ⟨n,rows⟩ rep no).1.state,i64 (mV ⟨n,rows⟩ rep no).1.cmd.kind,i64 (mV ⟨n,rows⟩ rep no).1.cmd.id,i64 (mV ⟨n,rows⟩ rep no).1.cmd.src,i64 (mV ⟨n,rows⟩ rep no).1.cmd.dst,i64 (mV ⟨n,rows⟩ rep no).1.cmd.amt,i64 (mV ⟨n,rows⟩ rep no).1.attr.seq,rL (mV ⟨n,rows⟩ rep no).1.attr.deps,.bool (mV ⟨n,rows⟩ rep no).2]:=by
 rw[aO (t:=Bbo) rfl];unfold Bbo;unfold mV Sbt
 cases ht:dZ ⟨n,rows⟩
 ·(refine aG ?_;repeat' (refine aF ?_ ?_<;>intro _<;>try simp (disch:=first|assumption|omega) only[S0,rA,rQ,rB,rT,rE,jE,Eby, *]))
 have hg:bR n=true:=aU ht;cases hi:inst n rep no
 ·(refine aG ?_;repeat' (refine aF ?_ ?_<;>intro _<;>try simp (disch:=first|assumption|omega) only[S0,rA,rQ,rB,rT,rE,jE,bY,Eby, *]))
 have hb:InB rows rep:=dQ ht hi;have hr:=gY hi
 (refine aG ?_;repeat' (refine aF ?_ ?_<;>intro _<;>try simp (disch:=first|assumption|omega) only[S0,rA,rQ,rB,rT,rE,jE,bY,jD, *]))
theorem Bai (n:Int)(rows:List (List bF))(rep no me:Int)(ht:dZ ⟨n,rows⟩=true)(hi:inst n rep no=true)(hm:inR me 0 (n-1)=true)(hs:gF rows):Fun T 53 [i64 n,rL rows,i64 rep,i64 no,i64 me]=some [i64 (nb (eF ⟨n,rows⟩ rep no).ballot me)]:=by
 rw[aO (t:=Nbe) rfl];unfold Nbe
 have hg:bR n=true:=aU ht;have hn:=aL hg;have hb:InB rows rep:=dQ ht hi;have hr:=gY hi;have hq:=nP (tT ht hi);have x8:=Har hm;simp (disch:=first|assumption|omega) only[S0,rA,rQ,rB,rT,rE,dH, *];generalize (eF ⟨n,rows⟩ rep no).ballot=b at hq ⊢;rw[Eal (T:=T) (.yield 1,[i64 (nb b me)]) (fun k:Int=>(nb b me-k).toNat) (fun k=>k % 8=me/\8+me<=k/\k<=nb b me) (fun k=>[i64 k]) (8+me) rfl ⟨by omega,by omega,by unfold nb;split<;>omega⟩ (by simp)]
 ·(refine aG ?_;repeat' (refine aF ?_ ?_<;>intro _<;>try simp (disch:=first|assumption|omega) only[S0,rA,rQ,rB,rT,rE, *]))
 ·rintro k ⟨h1,h2,h3⟩
  have h4:nb b me<=20000:=by unfold nb;split<;>omega
  by_cases hk:k<=b
  ·have jx:decide (k<=b)=true:=by simpa using hk
   have h5:k+8<=nb b me:=by unfold nb;split<;>omega
   exact .inl ⟨k+8,by (refine aG ?_;repeat' (refine aF ?_ ?_<;>intro _<;>try simp (disch:=first|assumption|omega) only[S0,rA,rQ,rB,rT,rE, *])),⟨by omega,by omega,h5⟩,by omega⟩
  ·have jx:decide (k<=b)=false:=by simpa using hk
   have h5:k=nb b me:=by unfold nb at h3 ⊢;split at h3<;>split<;>omega
   subst h5;exact .inr (by (refine aG ?_;repeat' (refine aF ?_ ?_<;>intro _<;>try simp (disch:=first|assumption|omega) only[S0,rA,rQ,rB,rT,rE, *])))
theorem nW (n:Int)(rows:List (List bF))(rep no me:Int)(ht:dZ ⟨n,rows⟩=true)(hi:inst n rep no=true)(hm:inR me 0 (n-1)=true)(hs:gF rows):Fun T 152 [i64 n,rL rows,i64 rep,i64 no,i64 me]=some [i64 (nb (eF ⟨n,rows⟩ rep no).ballot me),.bool (decide (nb (eF ⟨n,rows⟩ rep no).ballot me<=9999))]:=by
 rw[aO (t:=Bbi) rfl];unfold Bbi
 have hg:bR n=true:=aU ht;have hn:=aL hg;have hb:InB rows rep:=dQ ht hi;have hr:=gY hi;have hq:=nP (tT ht hi);have x8:=Har hm;simp (disch:=first|assumption|omega) only[S0,rA,rQ,rB,rT,rE,jD, *];generalize (eF ⟨n,rows⟩ rep no).ballot=b at hq ⊢;rw[Eal (T:=T) (.yield 1,[i64 (nb b me)]) (fun k:Int=>(nb b me-k).toNat) (fun k=>b+1<=k/\8<=k/\k<=nb b me) (fun k=>[i64 k]) (max (b+1) 8) rfl ⟨by omega,by omega,by unfold nb;split<;>omega⟩ (by simp)]
 ·(refine aG ?_;repeat' (refine aF ?_ ?_<;>intro _<;>try simp (disch:=first|assumption|omega) only[S0,rA,rQ,rB,rT,rE, *]))
 ·rintro k ⟨h1,h2,h3⟩
  have h4:nb b me<=20000:=by unfold nb;split<;>omega
  by_cases hk:k % 8=me
  ·have jx:(k % 8==me)=true:=by simpa using hk
   have h5:k=nb b me:=by unfold nb at h3 ⊢;split at h3<;>split<;>omega
   subst h5;exact .inr (by (refine aG ?_;repeat' (refine aF ?_ ?_<;>intro _<;>try simp (disch:=first|assumption|omega) only[S0,rA,rQ,rB,rT,rE, *])))
  ·have jx:(k % 8==me)=false:=by simpa using hk
   have h5:k+1<=nb b me:=by unfold nb at h3 ⊢;split at h3<;>split<;>omega
   exact .inl ⟨k+1,by (refine aG ?_;repeat' (refine aF ?_ ?_<;>intro _<;>try simp (disch:=first|assumption|omega) only[S0,rA,rQ,rB,rT,rE, *])),⟨by omega,by omega,h5⟩,by omega⟩
theorem mE (n:Int)(rows:List (List bF))(rep no me:Int)(hs:gF rows):Fun T 51 [i64 n,rL rows,i64 rep,i64 no,i64 me]=some [i64 (nbR ⟨n,rows⟩ rep no me).1,.bool (nbR ⟨n,rows⟩ rep no me).2]:=by
 rw[aO (t:=Nbg) rfl];unfold Nbg;unfold nbR
 cases ht:dZ ⟨n,rows⟩
 ·(refine aG ?_;repeat' (refine aF ?_ ?_<;>intro _<;>try simp (disch:=first|assumption|omega) only[S0,rA,rQ,rB,rT,rE,nM, *]))
 have hg:bR n=true:=aU ht;have hn:=aL hg;cases hi:inst n rep no
 ·(refine aG ?_;repeat' (refine aF ?_ ?_<;>intro _<;>try simp (disch:=first|assumption|omega) only[S0,rA,rQ,rB,rT,rE,nM, *]))
 cases hm:inR me 0 (n-1)
 ·(refine aG ?_;repeat' (refine aF ?_ ?_<;>intro _<;>try simp (disch:=first|assumption|omega) only[S0,rA,rQ,rB,rT,rE,nM,bU, *]))
 by_cases h:nb (eF ⟨n,rows⟩ rep no).ballot me<=9999
 ·have h2:decide (9999<nb (eF ⟨n,rows⟩ rep no).ballot me)=false:=by simp;omega
  (refine aG ?_;repeat' (refine aF ?_ ?_<;>intro _<;>try simp (disch:=first|assumption|omega) only[S0,rA,rQ,rB,rT,rE,nM,bU,Bai, *]))
 ·have h2:decide (9999<nb (eF ⟨n,rows⟩ rep no).ballot me)=true:=by simp;omega
  (refine aG ?_;repeat' (refine aF ?_ ?_<;>intro _<;>try simp (disch:=first|assumption|omega) only[S0,rA,rQ,rB,rT,rE,nM,bU,Bai, *]))
theorem Ja7 (n:Int)(hg:bR n=true):Fun T 10 [i64 n]=some [i64 n,rL (Wba n.toNat ([]:List bF))]:=by
 rw[aO (t:=Obk) rfl];unfold Obk
 have hn:=aL hg
 (refine aG ?_;repeat' (refine aF ?_ ?_<;>intro _<;>try simp (disch:=first|assumption|omega) only[S0,rA,rQ,rB,rT,rE,Uaq, *]))
theorem Ja6 (n:Int)(rows:List (List bF))(hg:bR n=true)(hl:(rows.length:Int)=n)(hs:gF rows):Fun T 30 [i64 n,rL rows]=some [i64 n,rL rows]:=by
 rw[aO (t:=Nb0) rfl];unfold Nb0
 obtain⟨ke,gR⟩:=hs;have hn:=aL hg;have e0:Wba n.toNat ([]:List bF)=upto [] rows 0:=by rw[Wa4];congr 1;omega
 simp (disch:=first|assumption|omega) only[SA,SB,SC,SP,SQ,SZ,reduceIte,reduceCtorEq,Nat.reduceAdd,Nat.reduceEqDiff,Ja7];rw[rX rows.length (fun i=>[i64 i,rL (upto [] rows i)]) (.yield 1,[rL rows]) (by rw[e0];rfl) (by simp)]
 ·(refine aG ?_;repeat' (refine aF ?_ ?_<;>intro _<;>try simp (disch:=first|assumption|omega) only[S0,rA,rQ,rB,rT,rE, *]))
 ·intro i hi bj
  have hb:InB rows (i:Int):=aX.2 hi;have hq:=gR _ (at_mem hi);have hu:(upto [] rows i).length=rows.length:=Bbb [] rows (Nat.le_of_lt hi);have re:InB (upto [] rows i) (i:Int):=aX.2 (by rw[hu];exact hi)
  have ru:upto [] rows i=jF (upto [] rows i) i ((atI rows (i:Int)).take 0):=by
   have:atI (upto [] rows i) (i:Int)=[]:=by
    unfold upto;rw[Naa,List.getD_eq_getElem?_getD,List.getElem?_append_right (by rw[Wbh];omega),List.getElem?_replicate];split<;>rfl
   have h3:=Raj re;rw[this]at h3;rw[List.take_zero];exact h3.symm
  have hu1:jF (upto [] rows i) i (atI rows (i:Int))=upto [] rows (i+1):=by
   rw[jF];exact Bba [] rows (by rw[bH hi];exact List.getElem?_eq_getElem hi)
  obtain⟨ql,oE⟩:=hq;have hr:rows.length<=10:=by omega
  simp (disch:=first|assumption|omega) only[S0,rA,rQ,rB,rT,rE,aS,bj];rw[rX (atI rows (i:Int)).length (fun j=>[i64 j,rL (jF (upto [] rows i) i ((atI rows (i:Int)).take j))]) (.yield 3,[rL (upto [] rows (i+1))]) (by rw[<- ru];rfl) (by simp)]
  ·clear hu ru hu1
   simp (disch:=first|assumption|omega) only[S0,rA,rQ,rB,rT,rE]
  ·intro j hj nh
   have gp:InB (atI rows (i:Int)) (j:Int):=aX.2 hj;have hq3:=oE _ (at_mem hj)
   have ha:atI (jF (upto [] rows i) (i:Int) ((atI rows (i:Int)).take j)) (i:Int)=(atI rows (i:Int)).take j:=by
    have:=zN;exact this.1 re
   have hbs:InB (jF (upto [] rows i) (i:Int) ((atI rows (i:Int)).take j)) (i:Int):=aX.2 (by rw[jF,Ybn,hu];exact hi);have oT:=take_at hj;have ji:((atI rows (i:Int)).take j).length+1<=100000000000:=by rw[Wbh];omega
   have hll2:((atI rows (i:Int)).take j).length+([atI (atI rows (i:Int)) (j:Int)]:List bF).length<=100000000000:=ji;clear hu ru hu1;simp (disch:=first|assumption|omega) only[S0,rA,rQ,rB,rT,rE,aS,Faw,jH,kU,Qai,zN,oO,nh,ha,oT]
  ·intro nh
   rw[Xbt];clear hu ru
   (refine aG ?_;repeat' (refine aF ?_ ?_<;>intro _<;>try simp (disch:=first|assumption|omega) only[S0,rA,rQ,rB,rT,rE, *]))
 ·intro bj
  rw[Bbc];simp (disch:=first|assumption|omega) only[S0,rA,rQ,rB,rT,rE,bj]
theorem Cal (xs:List bF)(hs:mF xs):Fun T 111 [rL xs]=some [rL xs]:=by
 rw[aO (t:=Cbi) rfl];unfold Cbi
 have h0:(aT.mk 10 0).run []=some [rL ([]:List bF)]:=rfl;obtain⟨ke,gR⟩:=hs;simp (disch:=first|assumption|omega) only[S0,rA,rQ,rB,rT,rE,h0];rw[rX xs.length (fun i=>[rL (xs.take i),i64 i]) (.yield 1,[rL xs]) rfl (by simp)]
 ·simp (disch:=first|assumption|omega) only[S0,rA,rQ,rB,rT,rE]
 ·intro i hi bj
  have hb:InB xs (i:Int):=aX.2 hi;have hq:=gR _ (at_mem hi);have oT:=take_at hi;have ji:(xs.take i).length+([atI xs (i:Int)]:List bF).length<=100000000000:=by rw[Wbh];simp only[Wbb,Wbp];omega
  simp (disch:=first|assumption|omega) only[S0,rA,rQ,rB,rT,rE,aS,jH,kU,qF,bj,oT]
 ·intro bj
  rw[Xbt];simp (disch:=first|assumption|omega) only[S0,rA,rQ,rB,rT,rE,bj]
theorem Da2 (n:Int)(rows:List (List bF))(hs:gF rows):Fun T 110 [i64 n,rL rows]=some [i64 n,rL rows]:=by
 rw[aO (t:=Cbj) rfl];unfold Cbj
 obtain⟨ke,gR⟩:=hs;simp (disch:=first|assumption|omega) only[S0,rA,rQ,rB,rT,rE];rw[rX rows.length (fun i=>[i64 i,rL (rows.take i)]) (.yield 1,[rL rows]) rfl (by simp)]
 ·simp (disch:=first|assumption|omega) only[S0,rA,rQ,rB,rT,rE]
 ·intro i hi bj
  have hb:InB rows (i:Int):=aX.2 hi;have hq:=gR _ (at_mem hi);have oT:=take_at hi;have ji:(rows.take i).length+([atI rows (i:Int)]:List (List bF)).length<=100000000000:=by rw[Wbh];simp only[Wbb,Wbp];omega
  simp (disch:=first|assumption|omega) only[S0,rA,rQ,rB,rT,rE,aS,jH,kU,Cal,bj,oT]
 ·intro bj
  rw[Xbt];simp (disch:=first|assumption|omega) only[S0,rA,rQ,rB,rT,rE,bj]
theorem Ja5 (n:Int)(rows:List (List bF))(rep no:Int)(cD cV cG bz cz cq cr cn cj:Int)(bl:(List Int))(hg:bR n=true)(hl:(rows.length:Int)=n)(hs:gF rows)(hb:InB rows rep)(h1:1<=no)(h2:no<=1000)(hx:bl.length<=10000000000) :
  Fun T 42 [i64 n,rL rows,i64 rep,i64 no,i64 cD,i64 cV,i64 cG,i64 bz,i64 cz,i64 cq,i64 cr,i64 cn,i64 cj,rL bl]=some [i64 (nY ⟨n,rows⟩ rep no ⟨cD,cV,cG,⟨bz,cz,cq,cr,cn⟩,⟨cj,bl⟩⟩).n,rL (nY ⟨n,rows⟩ rep no ⟨cD,cV,cG,⟨bz,cz,cq,cr,cn⟩,⟨cj,bl⟩⟩).rows]:=by
 rw[aO (t:=Nbo) rfl];unfold Nbo;unfold nY
 have hq:=hs.2 _ (iW hb);have ql:=hq.1;simp (maxSteps:=2000000) (disch:=first|assumption|omega) only[SA,SB,SC,SP,SQ,SZ,reduceIte,reduceCtorEq,Nat.reduceAdd,Nat.reduceEqDiff,Ja6,hg,hl];rw[Eal (T:=T) (.yield 1,[rL (jF rows rep (ext n (atI rows rep) no))]) (fun j:Nat=>(no-(atI rows rep).length).toNat-j) (fun j=>j<=(no-(atI rows rep).length).toNat) (fun j=>[rL (jF rows rep (atI rows rep++Wba j (row0 n)))]) 0 (by rw[Yb6,Wbo,Raj hb];rfl) (by omega) (by simp)]
 ·have gp:InB (jF rows rep (ext n (atI rows rep) no)) rep:=by unfold InB;rw[jF,Ybn];exact hb
  have ha:atI (jF rows rep (ext n (atI rows rep) no)) rep=ext n (atI rows rep) no:=zN.1 hb;have rh:InB (ext n (atI rows rep) no) (no-1):=by unfold InB;rw[Ha9 (by omega)];omega
  simp (disch:=first|assumption|omega) only[S0,rA,rQ,rB,rT,rE,aS,Faw,zN,oO,ha]
 ·intro j hj
  have gp:InB (jF rows rep (atI rows rep++Wba j (row0 n))) rep:=by unfold InB;rw[jF,Ybn];exact hb
  have ha:atI (jF rows rep (atI rows rep++Wba j (row0 n))) rep=atI rows rep++Wba j (row0 n):=zN.1 hb;have hlen:((atI rows rep++Wba j (row0 n)).length:Int)=(atI rows rep).length+j:=by simp
  have pN:(atI rows rep++Wba j (row0 n))++[row0 n]=atI rows rep++Wba (j+1) (row0 n):=by rw[Vbx,<- List.replicate_succ']
  have ji:(atI rows rep++Wba j (row0 n)).length+([row0 n]:List bF).length<=100000000000:=by simp only[Vbw,Wb1,Wbb,Wbp];omega
  unfold row0 at pN ji ha gp hlen ⊢;by_cases hc:(atI rows rep).length+j<no
  ·have ij:decide (((atI rows rep).length:Int)+j<no)=true:=by simpa using hc
   refine .inl ⟨j+1,?_,by omega,by omega⟩;simp (disch:=first|assumption|omega) only[S0,rA,rQ,rB,rT,rE,aS,Faw,jH,kU,Qai,zN,iO,ha,hlen,ij,pN]
  ·have ij:decide (((atI rows rep).length:Int)+j<no)=false:=by simpa using hc
   have kn:j=(no-(atI rows rep).length).toNat:=by omega
   refine .inr ?_;simp (disch:=first|assumption|omega) only[S0,rA,rQ,rB,rT,rE,aS,Faw,jH,kU,Qai,zN,ha,hlen,ij];rw[kn];rfl
theorem rY (n:Int)(rows:List (List bF))(rep no:Int)(cD cV cG bz cz cq cr cn cj:Int)(bl:(List Int))(hg:bR n=true)(hs:gF rows)(hb:InB rows rep)(h1:1<=no)(h2:no<=1000)(hx:bl.length<=10000000000) :
  Fun T 125 [i64 rep,i64 no,i64 cD,i64 cV,i64 cG,i64 bz,i64 cz,i64 cq,i64 cr,i64 cn,i64 cj,rL bl,i64 n,rL rows]=some [i64 (nY ⟨n,rows⟩ rep no ⟨cD,cV,cG,⟨bz,cz,cq,cr,cn⟩,⟨cj,bl⟩⟩).n,rL (nY ⟨n,rows⟩ rep no ⟨cD,cV,cG,⟨bz,cz,cq,cr,cn⟩,⟨cj,bl⟩⟩).rows]:=by
 rw[aO (t:=Bb5) rfl];unfold Bb5;unfold nY
 have hq:=hs.2 _ (iW hb);have ql:=hq.1;simp (disch:=first|assumption|omega) only[S0,rA,rQ,rB,rT,rE];rw[Eal (T:=T) (.yield 1,[rL (jF rows rep (ext n (atI rows rep) no))]) (fun j:Nat=>(no-(atI rows rep).length).toNat-j) (fun j=>j<=(no-(atI rows rep).length).toNat) (fun j=>[rL (jF rows rep (atI rows rep++Wba j (row0 n)))]) 0 (by rw[Yb6,Wbo,Raj hb];rfl) (by omega) (by simp)]
 ·have gp:InB (jF rows rep (ext n (atI rows rep) no)) rep:=by unfold InB;rw[jF,Ybn];exact hb
  have ha:atI (jF rows rep (ext n (atI rows rep) no)) rep=ext n (atI rows rep) no:=zN.1 hb;have rh:InB (ext n (atI rows rep) no) (no-1):=by unfold InB;rw[Ha9 (by omega)];omega
  simp (disch:=first|assumption|omega) only[S0,rA,rQ,rB,rT,rE,aS,Faw,zN,qF,ha]
 ·intro j hj
  have gp:InB (jF rows rep (atI rows rep++Wba j (row0 n))) rep:=by unfold InB;rw[jF,Ybn];exact hb
  have ha:atI (jF rows rep (atI rows rep++Wba j (row0 n))) rep=atI rows rep++Wba j (row0 n):=zN.1 hb;have hlen:((atI rows rep++Wba j (row0 n)).length:Int)=(atI rows rep).length+j:=by simp
  have pN:(atI rows rep++Wba j (row0 n))++[row0 n]=atI rows rep++Wba (j+1) (row0 n):=by rw[Vbx,<- List.replicate_succ']
  have ji:(atI rows rep++Wba j (row0 n)).length+([row0 n]:List bF).length<=100000000000:=by simp only[Vbw,Wb1,Wbb,Wbp];omega
  unfold row0 at pN ji ha gp hlen ⊢;by_cases hc:(atI rows rep).length+j<no
  ·have ij:decide (((atI rows rep).length:Int)+j<no)=true:=by simpa using hc
   refine .inl ⟨j+1,?_,by omega,by omega⟩;simp (disch:=first|assumption|omega) only[S0,rA,rQ,rB,rT,rE,aS,Faw,jH,kU,Qai,zN,dJ,ha,hlen,ij,pN]
  ·have ij:decide (((atI rows rep).length:Int)+j<no)=false:=by simpa using hc
   have kn:j=(no-(atI rows rep).length).toNat:=by omega
   refine .inr ?_;simp (disch:=first|assumption|omega) only[S0,rA,rQ,rB,rT,rE,aS,Faw,jH,kU,Qai,zN,ha,hlen,ij];rw[kn];rfl
theorem lJ (xs:List Int)(n:Int)(hx:xs.length<=1099511627776):Fun T 28 [rL xs,i64 n]=some [.bool (uN xs n)]:=by
 rw[aO (t:=Nb2) rfl];unfold Nb2;unfold uN
 simp (disch:=first|assumption|omega) only[S0,rA,rQ,rB,rT,rE];rw[Jao 1 xs (fun x=>x==n) (fun _=>[.bool true])]
 ·(refine aG ?_;repeat' (refine aF ?_ ?_<;>intro _<;>try simp (disch:=first|assumption|omega) only[S0,rA,rQ,rB,rT,rE, *]))
 ·intro i hi hb hl hp
  (refine aG ?_;repeat' (refine aF ?_ ?_<;>intro _<;>try simp (disch:=first|assumption|omega) only[S0,rA,rQ,rB,rT,rE,aS, *]))
 ·intro i hi hb hl hp
  (refine aG ?_;repeat' (refine aF ?_ ?_<;>intro _<;>try simp (disch:=first|assumption|omega) only[S0,rA,rQ,rB,rT,rE,aS, *]))
 ·intro hl
  simp (disch:=first|assumption|omega) only[S0,rA,rQ,rB,rT,rE,hl]
theorem slices_Index_int (xs:List Int)(n:Int)(hx:xs.length<=1099511627776):Fun T 101 [rL xs,i64 n]=some [i64 (ixF (fun x=>n==x) xs)]:=by
 rw[aO (t:=Cbs) rfl];unfold Cbs
 simp (disch:=first|assumption|omega) only[S0,rA,rQ,rB,rT,rE];rw[Jao 1 xs (fun x=>n==x) (fun i=>[i64 i])]
 ·cases h:xs.any (fun x=>n==x)
  ·have e:ixF (fun x=>n==x) xs=-1:=by
    have h2:=jG (fun x=>n==x) xs;rw[h]at h2;unfold ixF at h2 ⊢;split at h2<;>simp_all
   rw[e];simp (disch:=first|assumption|omega) only[S0,rA,rQ,rB,rT,rE]
  ·simp (disch:=first|assumption|omega) only[S0,rA,rQ,rB,rT,rE]
 ·intro i hi hb hl hp
  (refine aG ?_;repeat' (refine aF ?_ ?_<;>intro _<;>try simp (disch:=first|assumption|omega) only[S0,rA,rQ,rB,rT,rE,aS, *]))
 ·intro i hi hb hl hp
  (refine aG ?_;repeat' (refine aF ?_ ?_<;>intro _<;>try simp (disch:=first|assumption|omega) only[S0,rA,rQ,rB,rT,rE,aS, *]))
 ·intro hl
  simp (disch:=first|assumption|omega) only[S0,rA,rQ,rB,rT,rE,hl]
theorem slices_Contains_int (xs:List Int)(n:Int)(hx:xs.length<=1099511627776):Fun T 100 [rL xs,i64 n]=some [.bool (uN xs n)]:=by
 rw[aO (t:=Cbt) rfl];unfold Cbt
 have e:uN xs n=xs.any fun x=>n==x:=by
  unfold uN;congr 1;funext x;rw[Bool.eq_iff_iff,beq_iff_eq,beq_iff_eq];exact eq_comm
 simp (disch:=first|assumption|omega) only[S0,rA,rQ,rB,rT,rE,slices_Index_int,jG,e]
theorem Ja8 (xs:List Int)(n:Int)(hx:xs.length<=10000000000):Fun T 38 [rL xs,i64 n]=some [rL (Had xs n)]:=by
 rw[aO (t:=Nbs) rfl];unfold Nbs;unfold Had
 have hk:=Gbs xs n;have h0:(aT.mk 1 0).run []=some [.rows 1 []]:=rfl;simp (disch:=first|assumption|omega) only[S0,rA,rQ,rB,rT,rE];rw[Eal (T:=T) (.yield 1,[i64 (pK xs n:Nat)]) (fun k:Nat=>pK xs n-k) (fun k=>k<=pK xs n) (fun k=>[i64 k]) 0 rfl (by omega) (by simp)]
 ·have l1:(xs.take (pK xs n)).length<=10000000000:=by rw[Wbh];omega
  have l2:(xs.take (pK xs n)).length+([n]:List Int).length<=100000000000:=by simp only[Wbb,Wbp];omega
  have l3:(xs.take (pK xs n)++[n]).length+(xs.drop (pK xs n)).length<=100000000000:=by simp only[Vbw,Wbb,Wbp,Wb4];omega
  by_cases h:pK xs n<xs.length
  ·have hb:InB xs (pK xs n:Nat):=aX.2 h
   have h2:decide ((pK xs n:Int)<xs.length)=true:=by simp;omega
   cases h3:atI xs (pK xs n:Nat)==n
   ·simp (disch:=first|assumption|omega) only[S0,rA,rQ,rB,rT,rE,aS,jH,kU,Abx,h0,h2,h3,hb,Int.toNat_natCast,Int.toNat_zero,List.drop_zero,Xbt]
   ·simp (disch:=first|assumption|omega) only[S0,rA,rQ,rB,rT,rE,aS,jH,kU,Abx,h0,h2,h3,hb]
  ·have h2:decide ((pK xs n:Int)<xs.length)=false:=by simp;omega
   simp (disch:=first|assumption|omega) only[S0,rA,rQ,rB,rT,rE,aS,jH,kU,Abx,h0,h2,Int.toNat_natCast,Int.toNat_zero,List.drop_zero,Xbt]
 ·intro k hk2
  by_cases h:k<pK xs n
  ·have hb:InB xs (k:Int):=aX.2 (by omega)
   have h2:decide ((k:Int)<xs.length)=true:=by simp;omega
   have h3:decide (atI xs (k:Int)<n)=true:=by simpa using Xa7 h
   refine .inl ⟨k+1,?_,by omega,by omega⟩;simp (disch:=first|assumption|omega) only[S0,rA,rQ,rB,rT,rE,aS,h2,h3,hb]
  ·obtain rfl:k=pK xs n:=by omega
   refine .inr ?_;by_cases h4:pK xs n<xs.length
   ·have hb:InB xs (pK xs n:Nat):=aX.2 h4
    have h2:decide ((pK xs n:Int)<xs.length)=true:=by simp;omega
    have h3:decide (atI xs (pK xs n:Nat)<n)=false:=by simpa using Xa8 h4
    simp (disch:=first|assumption|omega) only[S0,rA,rQ,rB,rT,rE,aS,h2,h3,hb]
   ·have h2:decide ((pK xs n:Int)<xs.length)=false:=by simp;omega
    simp (disch:=first|assumption|omega) only[S0,rA,rQ,rB,rT,rE,aS,h2]
theorem rO (k i f t a:Int)(hc:iZ ⟨k,i,f,t,a⟩=true):Fun T 37 [i64 k,i64 i,i64 f,i64 t,i64 a]=some [rL (lG ⟨k,i,f,t,a⟩)]:=by
 rw[aO (t:=Nbt) rfl];unfold Nbt;unfold lG
 obtain⟨hk,hm,hr⟩:=Za9 hc;simp only at hk hm hr
 rcases hk with rfl|rfl|rfl
 ·simp (disch:=first|assumption|omega) only[S0,rA,rQ,rB,rT,rE,Eby]
 ·have cU:=(hm rfl).2.2.1
  have l1:([f]:List Int).length<=10000000000:=by simp
  simp (disch:=first|assumption|omega) only[S0,rA,rQ,rB,rT,rE,jH,Ja8,Tbo cU]
 ·simp (disch:=first|assumption|omega) only[S0,rA,rQ,rB,rT,rE,jH]
theorem Ea3 (k i f t a:Int):Fun T 120 [i64 k,i64 i,i64 f,i64 t,i64 a]=some [rL (lG ⟨k,i,f,t,a⟩)]:=by
 rw[aO (t:=Cba) rfl];unfold Cba;unfold lG
 have h0:(aT.mk 1 0).run []=some [.rows 1 []]:=rfl
 (refine aG ?_;repeat' (refine aF ?_ ?_<;>intro _<;>try simp (disch:=first|assumption|omega) only[S0,rA,rQ,rB,rT,rE,jH,h0,Eby, *]))
theorem Fap (fh kk gv gw gr:Int)(cS fw dt dq dk:Int)(ha:iZ ⟨fh,kk,gv,gw,gr⟩=true)(hb:iZ ⟨cS,fw,dt,dq,dk⟩=true):Fun T 36 [i64 fh,i64 kk,i64 gv,i64 gw,i64 gr,i64 cS,i64 fw,i64 dt,i64 dq,i64 dk]=some [.bool (wZ ⟨fh,kk,gv,gw,gr⟩ ⟨cS,fw,dt,dq,dk⟩)]:=by
 rw[aO (t:=Nbu) rfl];unfold Nbu;unfold wZ
 have la:=yB ⟨fh,kk,gv,gw,gr⟩;have lb:=yB ⟨cS,fw,dt,dq,dk⟩;have lb':(lG ⟨cS,fw,dt,dq,dk⟩).length<=1099511627776:=by omega
 simp (disch:=first|assumption|omega) only[S0,rA,rQ,rB,rT,rE,rO,ha];rw[Jao 1 (lG ⟨fh,kk,gv,gw,gr⟩) (fun k=>uN (lG ⟨cS,fw,dt,dq,dk⟩) k) (fun _=>[.bool true])]
 ·(refine aG ?_;repeat' (refine aF ?_ ?_<;>intro _<;>try simp (disch:=first|assumption|omega) only[S0,rA,rQ,rB,rT,rE, *]))
 ·intro i hi gp hl hp
  simp (disch:=first|assumption|omega) only[S0,rA,rQ,rB,rT,rE,aS,rO,lJ,hb,gp,hl,hp]
 ·intro i hi gp hl hp
  simp (disch:=first|assumption|omega) only[S0,rA,rQ,rB,rT,rE,aS,rO,lJ,hb,gp,hl,hp]
 ·intro hl
  simp (disch:=first|assumption|omega) only[S0,rA,rQ,rB,rT,rE,hl]
theorem vN (n:Int)(cS fw dt dq dk:Int):Fun T 123 [i64 n,i64 cS,i64 fw,i64 dt,i64 dq,i64 dk]=some [.bool (uN (lG ⟨cS,fw,dt,dq,dk⟩) n)]:=by
 rw[aO (t:=Bb7) rfl];unfold Bb7
 have lb:=yB ⟨cS,fw,dt,dq,dk⟩;have lb':(lG ⟨cS,fw,dt,dq,dk⟩).length<=1099511627776:=by omega
 simp (disch:=first|assumption|omega) only[S0,rA,rQ,rB,rT,rE,Ea3,slices_Contains_int]
theorem Jaj (cS fw dt dq dk:Int)(xs:List Int)(hx:xs.length<=1099511627776):Fun T 122 [rL xs,i64 cS,i64 fw,i64 dt,i64 dq,i64 dk]=some [i64 (ixF (fun x=>uN (lG ⟨cS,fw,dt,dq,dk⟩) x) xs)]:=by
 rw[aO (t:=Bb8) rfl];unfold Bb8
 simp (disch:=first|assumption|omega) only[S0,rA,rQ,rB,rT,rE,aS, *];rw[Jao 1 xs (fun x=>uN (lG ⟨cS,fw,dt,dq,dk⟩) x) (fun i=>[i64 i])]
 ·cases h:xs.any (fun x=>uN (lG ⟨cS,fw,dt,dq,dk⟩) x)
  ·have e:ixF (fun x=>uN (lG ⟨cS,fw,dt,dq,dk⟩) x) xs=-1:=by
    have h2:=jG (fun x=>uN (lG ⟨cS,fw,dt,dq,dk⟩) x) xs;rw[h]at h2;unfold ixF at h2 ⊢;split at h2<;>simp_all
   rw[e];simp (disch:=first|assumption|omega) only[S0,rA,rQ,rB,rT,rE]
  ·simp (disch:=first|assumption|omega) only[S0,rA,rQ,rB,rT,rE]
 ·intro i hi hb hl hp
  (refine aG ?_;repeat' (refine aF ?_ ?_<;>intro _<;>try simp (disch:=first|assumption|omega) only[S0,rA,rQ,rB,rT,rE,aS,vN, *]))
 ·intro i hi hb hl hp
  (refine aG ?_;repeat' (refine aF ?_ ?_<;>intro _<;>try simp (disch:=first|assumption|omega) only[S0,rA,rQ,rB,rT,rE,aS,vN, *]))
 ·intro hl
  (refine aG ?_;repeat' (refine aF ?_ ?_<;>intro _<;>try simp (disch:=first|assumption|omega) only[S0,rA,rQ,rB,rT,rE, *]))
theorem Jap (cS fw dt dq dk:Int)(xs:List Int)(hx:xs.length<=1099511627776):Fun T 121 [rL xs,i64 cS,i64 fw,i64 dt,i64 dq,i64 dk]=some [.bool (xs.any (fun x=>uN (lG ⟨cS,fw,dt,dq,dk⟩) x))]:=by
 rw[aO (t:=Bb9) rfl];unfold Bb9
 (refine aG ?_;repeat' (refine aF ?_ ?_<;>intro _<;>try simp (disch:=first|assumption|omega) only[S0,rA,rQ,rB,rT,rE,Jaj,jG, *]))
theorem nL (fh kk gv gw gr:Int)(cS fw dt dq dk:Int):Fun T 119 [i64 fh,i64 kk,i64 gv,i64 gw,i64 gr,i64 cS,i64 fw,i64 dt,i64 dq,i64 dk]=some [.bool (wZ ⟨fh,kk,gv,gw,gr⟩ ⟨cS,fw,dt,dq,dk⟩)]:=by
 rw[aO (t:=Cbb) rfl];unfold Cbb;unfold wZ
 have la:=yB ⟨fh,kk,gv,gw,gr⟩;have la':(lG ⟨fh,kk,gv,gw,gr⟩).length<=1099511627776:=by omega
 simp (disch:=first|assumption|omega) only[S0,rA,rQ,rB,rT,rE,Ea3,Jap]
theorem pV (a b:Int):Fun T 39 [i64 a,i64 b]=some [i64 (max a b)]:=by
 rw[aO (t:=Nbr) rfl];unfold Nbr
 by_cases h:b<a
 ·have h2:decide (b<a)=true:=by simpa using h
  rw[Int.max_eq_left (by omega)];simp (disch:=first|assumption|omega) only[S0,rA,rQ,rB,rT,rE,h2]
 ·have h2:decide (b<a)=false:=by simpa using h
  rw[Int.max_eq_right (by omega)];simp (disch:=first|assumption|omega) only[S0,rA,rQ,rB,rT,rE,h2]
theorem bC (s s':Int)(xs ys:List Int)(hl:xs.length<=ys.length)(hx:xs.length<=10000000000):Fun T 63 [i64 s,rL xs,i64 s',rL ys]=some [i64 (wX ⟨s,xs⟩ ⟨s',ys⟩).seq,rL (wX ⟨s,xs⟩ ⟨s',ys⟩).deps]:=by
 rw[aO (t:=Mb4) rfl];unfold Mb4;unfold wX
 simp (disch:=first|assumption|omega) only[S0,rA,rQ,rB,rT,rE,pV];rw[rX xs.length (fun i=>[i64 i,rL (Cak xs ys i)]) (.yield 1,[rL (Cak xs ys xs.length)]) rfl (by simp)]
 ·simp (disch:=first|assumption|omega) only[S0,rA,rQ,rB,rT,rE]
 ·intro i hi bj
  have hb:InB xs (i:Int):=aX.2 hi;have gp:InB ys (i:Int):=aX.2 (by omega);have ji:(Cak xs ys i).length+([max (atI xs (i:Int)) (atI ys (i:Int))]:List Int).length<=100000000000:=by rw[wV];simp only[Wbb,Wbp];omega
  have e:=Vay xs ys i;simp (disch:=first|assumption|omega) only[S0,rA,rQ,rB,rT,rE,aS,jH,kU,pV,bj,e]
 ·intro bj
  simp (disch:=first|assumption|omega) only[S0,rA,rQ,rB,rT,rE,bj]
theorem xA (n k:Int)(hg:bR n=true):Fun T 155 [i64 n,i64 k]=some [.bool (decide (n / 2<k))]:=by
 rw[aO (t:=Bbf) rfl];unfold Bbf
 have hn:=aL hg;simp (disch:=first|assumption|omega) only[S0,rA,rQ,rB,rT,rE]
theorem uD (n:Int)(seen:List bF)(hg:bR n=true)(h0:0<seen.length)(hl:seen.length<=5)(hr:∀ r∈seen,rowOk n r=true) :
  Fun T 71 [i64 n,rL seen]=some [i64 (fF n seen).1,i64 (fF n seen).2.1.kind,i64 (fF n seen).2.1.id,i64 (fF n seen).2.1.src,i64 (fF n seen).2.1.dst,i64 (fF n seen).2.1.amt,i64 (fF n seen).2.2.seq,rL (fF n seen).2.2.deps]:=by
 rw[aO (t:=Mbw) rfl];unfold Mbw;unfold fF
 have hn:=aL hg;have hd:∀ r∈seen,r.attr.deps.length<=5:=fun r zy=>by have:=nA (hr r zy) hg;omega
 have hb0:InB seen 0:=by unfold InB;omega
 simp (disch:=first|assumption|omega) only[S0,rA,rQ,rB,rT,rE,iO];rw[rX seen.length (fun i=>[i64 (Eag 2 seen i),i64 (Eag 1 seen i),.bool (Oa0 seen i),i64 i,i64 (sZ n seen i).seq,rL (sZ n seen i).deps]) (.yield 1,[i64 (Eag 2 seen seen.length),i64 (Eag 1 seen seen.length),.bool (Oa0 seen seen.length),i64 (sZ n seen seen.length).seq,rL (sZ n seen seen.length).deps]) rfl (by simp)]
 ·rw[Ia5,Ia5]
  have q1:=zG 1 seen seen.length;have q2:=zG 2 seen seen.length;generalize Eag 2 seen seen.length=p2 at q2 ⊢;generalize Eag 1 seen seen.length=p1 at q1 ⊢;by_cases c2:p2<0
  ·have d2:decide (0<=p2)=false:=by simp;omega
   rw[if_pos c2];cases hk:Oa0 seen seen.length
   ·by_cases c1:p1<0
    ·have d1:decide (0<=p1)=false:=by simp;omega
     rw[if_pos c1];simp (disch:=first|assumption|omega) only[S0,rA,rQ,rB,rT,rE,d1,d2,hk,iO,Vbm]
    ·have d1:decide (0<=p1)=true:=by simp;omega
     have lR:InB seen p1:=by unfold InB;omega
     rw[if_neg c1];simp (disch:=first|assumption|omega) only[S0,rA,rQ,rB,rT,rE,d1,d2,hk,aS,Vbm]
   ·have hbl:=hd _ (iW hb0)
    simp (disch:=first|assumption|omega) only[S0,rA,rQ,rB,rT,rE,d2,hk,aS,fT]
  ·have d2:decide (0<=p2)=true:=by simp;omega
   have gp:InB seen p2:=by unfold InB;omega
   have hbl:=hd _ (iW gp);rw[if_neg c2];simp (disch:=first|assumption|omega) only[S0,rA,rQ,rB,rT,rE,d2,aS,fT]
 ·intro i hi bj
  have hb:InB seen (i:Int):=aX.2 hi;have lq:=Oa7 n seen i;have jc:=nA (hr _ (at_mem hi)) hg;have hrd2:=hd _ (at_mem hi);have q1:=zG 1 seen i;have q2:=zG 2 seen i;have hlk:Oa0 seen (i+1)=(Oa0 seen i&&Gb0 seen (atI seen (i:Int))):=rfl;have e9:decide ((atI seen (i:Int)).attr=(atI seen 0).attr)=decide ((⟨(atI seen (i:Int)).attr.seq,(atI seen (i:Int)).attr.deps⟩:bN)=⟨(atI seen 0).attr.seq,(atI seen 0).attr.deps⟩):=rfl
  have kt:(atI seen (i:Int)).state=2\/(atI seen (i:Int)).state=1\/((atI seen (i:Int)).state==2)=false/\((atI seen (i:Int)).state==1)=false:=by
   by_cases h1:(atI seen (i:Int)).state=2
   ·exact .inl h1
   ·by_cases h2:(atI seen (i:Int)).state=1
    ·exact .inr (.inl h2)
    ·exact .inr (.inr ⟨by simpa using h1,by simpa using h2⟩)
  show _=some (Kind.cont,[i64 (Eag 2 seen (i+1)),i64 (Eag 1 seen (i+1)),.bool (Oa0 seen (i+1)),i64 ((i:Int)+1),i64 (sZ n seen (i+1)).seq,rL (sZ n seen (i+1)).deps])
  rw[hlk];rw[Kax,Ia4,Ia4];unfold Gb0;generalize Eag 2 seen i=p2 at q2 ⊢;generalize Eag 1 seen i=p1 at q1 ⊢;generalize sZ n seen i=jj at lq ⊢;generalize Oa0 seen i=lk;have uh:jj.deps.length<=(atI seen (i:Int)).attr.deps.length:=by omega
  have hjj2:jj.deps.length<=10000000000:=by omega
  have hrd3:(atI seen (i:Int)).attr.deps.length<=1099511627776:=by omega
  rcases kt with h|h|⟨h1,h2⟩
  ·by_cases c2:p2<0
   ·have d2:decide (p2<0)=true:=by simpa using c2
    simp (disch:=first|assumption|omega) only[S0,rA,rQ,rB,rT,rE,aS,mR,bj,h,d2]<;>repeat' (refine aF (fun _=>?_) (fun _=>?_)<;>try simp (disch:=first|assumption|omega) only[S0,rA,rQ,rB,rT,rE,aS,mR, *,h,bD])
   ·have d2:decide (p2<0)=false:=by simpa using c2
    have gp:InB seen p2:=by unfold InB;omega
    simp (disch:=first|assumption|omega) only[S0,rA,rQ,rB,rT,rE,aS,mR,bj,h,d2]<;>repeat' (refine aF (fun _=>?_) (fun _=>?_)<;>try simp (disch:=first|assumption|omega) only[S0,rA,rQ,rB,rT,rE,aS,mR, *,h,bD])
  ·by_cases c1:p1<0
   ·have d1:decide (p1<0)=true:=by simpa using c1
    simp (disch:=first|assumption|omega) only[S0,rA,rQ,rB,rT,rE,aS,mR,bj,h,d1,bC]<;>repeat' (refine aF (fun _=>?_) (fun _=>?_)<;>try simp (disch:=first|assumption|omega) only[S0,rA,rQ,rB,rT,rE,aS,mR, *,h,bD,bC])
   ·have d1:decide (p1<0)=false:=by simpa using c1
    have lR:InB seen p1:=by unfold InB;omega
    simp (disch:=first|assumption|omega) only[S0,rA,rQ,rB,rT,rE,aS,mR,bj,h,d1,bC]<;>repeat' (refine aF (fun _=>?_) (fun _=>?_)<;>try simp (disch:=first|assumption|omega) only[S0,rA,rQ,rB,rT,rE,aS,mR, *,h,bD,bC])
  ·simp (disch:=first|assumption|omega) only[S0,rA,rQ,rB,rT,rE,aS,mR,bj,h1,h2]<;>repeat' (refine aF (fun _=>?_) (fun _=>?_)<;>try simp (disch:=first|assumption|omega) only[S0,rA,rQ,rB,rT,rE,aS,mR, *,bD])
 ·intro bj
  simp (disch:=first|assumption|omega) only[S0,rA,rQ,rB,rT,rE,bj]
theorem Iam (a:Int):Fun T 107 [i64 a]=some [.bool false]:=by
 rw[aO (t:=Cbm) rfl];unfold Cbm
 simp (disch:=first|assumption|omega) only[S0,rA,rQ,rB,rT,rE]
theorem Aaz (a b:Int):Fun T 106 [i64 a,i64 b]=some [i64 (Hbv a b)]:=by
 rw[aO (t:=Cbn) rfl];unfold Cbn;unfold Hbv
 by_cases h:a<b
 ·simp (disch:=first|assumption|omega) only[S0,rA,rQ,rB,rT,rE,Iam,h]
 ·by_cases h2:b<a
  ·simp (disch:=first|assumption|omega) only[S0,rA,rQ,rB,rT,rE,Iam,h,h2]
  ·simp (disch:=first|assumption|omega) only[S0,rA,rQ,rB,rT,rE,Iam,h,h2]
theorem qX (xs ys:List Int)(hx:xs.length<=1099511627776)(hy:ys.length<=1099511627776):Fun T 105 [rL xs,rL ys]=some [i64 (Ebl xs ys)]:=by
 rw[aO (t:=Cbo) rfl];unfold Cbo;unfold Ebl
 simp (disch:=first|assumption|omega) only[S0,rA,rQ,rB,rT,rE];rw[Eal (T:=T) (match Ma4 xs ys with|some c=>(.ret,[i64 c])|none=>(.yield 1,[])) (fun i:Nat=>xs.length-i) (fun i=>i<=xs.length/\Ma4 (xs.drop i) (ys.drop i)=Ma4 xs ys) (fun i=>[i64 i]) 0 rfl ⟨by omega,by simp⟩ (by split<;>simp)]
 ·cases Ma4 xs ys with
  |some c=>simp (disch:=first|assumption|omega) only[S0,rA,rQ,rB,rT,rE]
  | none =>
   cases h:decide ((xs.length:Int)<ys.length)
   ·simp (disch:=first|assumption|omega) only[S0,rA,rQ,rB,rT,rE,h,Vbm]
   ·simp (disch:=first|assumption|omega) only[S0,rA,rQ,rB,rT,rE,h]
 ·rintro i ⟨hi,he⟩
  rcases Wbc i xs.length with bj|n4
  ·have h1:decide ((i:Int)<xs.length)=true:=by simp;omega
   have hb:InB xs (i:Int):=aX.2 bj
   rcases Wbc i ys.length with nh|hge2
   ·have h2:decide ((ys.length:Int)<=i)=false:=by simp;omega
    have gp:InB ys (i:Int):=aX.2 nh;rw[Za7 bj nh]at he;by_cases h3:atI xs (i:Int)<atI ys (i:Int)
    ·rw[if_pos h3]at he
     have e:Hbv (atI xs (i:Int)) (atI ys (i:Int))=-1:=if_pos h3;rw[<- he];refine .inr ?_;simp (disch:=first|assumption|omega) only[S0,rA,rQ,rB,rT,rE,aS,Aaz,h1,h2,e]
    ·rw[if_neg h3]at he
     by_cases h4:atI ys (i:Int)<atI xs (i:Int)
     ·rw[if_pos h4]at he
      have e:Hbv (atI xs (i:Int)) (atI ys (i:Int))=1:=by unfold Hbv;rw[if_neg h3,if_pos h4]
      rw[<- he];refine .inr ?_;simp (disch:=first|assumption|omega) only[S0,rA,rQ,rB,rT,rE,aS,Aaz,h1,h2,e]
     ·rw[if_neg h4]at he
      have e:Hbv (atI xs (i:Int)) (atI ys (i:Int))=0:=by unfold Hbv;rw[if_neg h3,if_neg h4]
      refine .inl ⟨i+1,?_,⟨by omega,he⟩,by omega⟩;simp (disch:=first|assumption|omega) only[S0,rA,rQ,rB,rT,rE,aS,Aaz,h1,h2,e]
   ·have h2:decide ((ys.length:Int)<=i)=true:=by simp;omega
    rw[Ebm bj hge2]at he;rw[<- he];refine .inr ?_;simp (disch:=first|assumption|omega) only[S0,rA,rQ,rB,rT,rE,aS,h1,h2]
  ·have h1:decide ((i:Int)<xs.length)=false:=by simp;omega
   rw[List.drop_eq_nil_of_le n4]at he;have he':Ma4 xs ys=none:=by rw[<- he];rfl
   rw[he'];refine .inr ?_;simp (disch:=first|assumption|omega) only[S0,rA,rQ,rB,rT,rE,h1]
theorem mD (xs:List Int)(lo up:Int)(hx:xs.length<=10000000000):Fun T 27 [rL xs,i64 lo,i64 up]=some [.bool (Ga7 xs lo up)]:=by
 rw[aO (t:=Nb3) rfl];unfold Nb3;unfold Ga7
 simp (disch:=first|assumption|omega) only[S0,rA,rQ,rB,rT,rE];rw[Vaj 1 xs.length (fun i=>inR (atI xs (i:Int)) lo up&&Faq xs i) [.bool false]]
 ·(refine aG ?_;repeat' (refine aF ?_ ?_<;>intro _<;>try simp (disch:=first|assumption|omega) only[S0,rA,rQ,rB,rT,rE, *]))
 ·intro i hi bj
  have hb:InB xs (i:Int):=aX.2 hi;unfold Faq;cases h1:inR (atI xs (i:Int)) lo up
  ·simp (disch:=first|assumption|omega) only[S0,rA,rQ,rB,rT,rE,aS,bU,bj,h1]
  ·cases i with
   | zero =>
    have a6b:decide ((0:Int)<xs.length)=true:=bj;have hb0:InB xs 0:=hb;have da:inR (atI xs 0) lo up=true:=h1;have d0:decide ((0:Int)<0)=false:=rfl;have d1:decide ((0:Nat)<0)=false:=rfl;simp (disch:=first|assumption|omega) only[S0,rA,rQ,rB,rT,rE,aS,bU,a6b,da,d0,d1,Int.natCast_zero,Nat.lt_irrefl,Int.cast_ofNat_Int]
   | succ i =>
    have gp:InB xs ((i:Int)+1-1):=by unfold InB;omega
    have d1:decide ((0:Int)<(i:Int)+1)=true:=decide_eq_true (by omega);have d2:decide (0<i+1)=true:=decide_eq_true (by omega);have rh:InB xs ((i:Int)+1):=hb;have a09:decide ((i:Int)+1<xs.length)=true:=bj;have jk:inR (atI xs ((i:Int)+1)) lo up=true:=h1;cases h2:decide (atI xs ((i:Int)+1)<=atI xs ((i:Int)+1-1))
    ·simp (disch:=first|assumption|omega) only[S0,rA,rQ,rB,rT,rE,aS,bU,a09,jk,d1,d2,h2]
    ·simp (disch:=first|assumption|omega) only[S0,rA,rQ,rB,rT,rE,aS,bU,a09,jk,d1,d2,h2]
 ·intro bj
  simp (disch:=first|assumption|omega) only[S0,rA,rQ,rB,rT,rE,bj]
theorem Paa (xs:List Int)(hx:xs.length<=10000000000):Fun T 96 [rL xs]=some [.bool (zM (Faq xs) xs.length)]:=by
 rw[aO (t:=Lb7) rfl];unfold Lb7
 have e:zM (Faq xs) xs.length=zM (fun i=>decide (i<1)||!decide (atI xs (i:Int)<=atI xs ((i:Int)-1))) xs.length:=by
  refine Ka9 fun i hi=>?_
  unfold Faq
  cases i with
  |zero=>rfl
  |succ i=>simp
 rw[e];simp (disch:=first|assumption|omega) only[S0,rA,rQ,rB,rT,rE];have h1:(D.int .i64 1)=i64 ((1:Nat):Int):=rfl;rw[h1,Ob9 1 1 xs.length (fun i=>!decide (atI xs (i:Int)<=atI xs ((i:Int)-1))) [.bool false]]
 ·(refine aG ?_;repeat' (refine aF ?_ ?_<;>intro _<;>try simp (disch:=first|assumption|omega) only[S0,rA,rQ,rB,rT,rE, *]))
 ·intro i hs hi bj
  have hb:InB xs (i:Int):=aX.2 hi;have gp:InB xs ((i:Int)-1):=by unfold InB;omega
  have hz:((0:Nat):Int)+1=1:=rfl;cases hq:decide (atI xs (i:Int)<=atI xs ((i:Int)-1))<;>simp (disch:=first|assumption|omega) only[S0,rA,rQ,rB,rT,rE,aS,bj,hz,hq]
 ·intro i hi bj
  simp (disch:=first|assumption|omega) only[S0,rA,rQ,rB,rT,rE,bj]
theorem tC (x n:Int)(hg:Ea2 n):Fun T 99 [i64 x,i64 n]=some [.bool (!inR x 0 (n-1))]:=by
 rw[aO (t:=Lb4) rfl];unfold Lb4
 unfold Ea2 at hg;simp (disch:=first|assumption|omega) only[S0,rA,rQ,rB,rT,rE,dM]
theorem Hao (n:Int)(hg:Ea2 n)(xs:List Int)(hx:xs.length<=1099511627776):Fun T 98 [rL xs,i64 n]=some [i64 (ixF (fun x=>!inR x 0 (n-1)) xs)]:=by
 rw[aO (t:=Lb5) rfl];unfold Lb5
 simp (disch:=first|assumption|omega) only[S0,rA,rQ,rB,rT,rE,aS, *];rw[Jao 1 xs (fun x=>!inR x 0 (n-1)) (fun i=>[i64 i])]
 ·cases h:xs.any (fun x=>!inR x 0 (n-1))
  ·have e:ixF (fun x=>!inR x 0 (n-1)) xs=-1:=by
    have h2:=jG (fun x=>!inR x 0 (n-1)) xs;rw[h]at h2;unfold ixF at h2 ⊢;split at h2<;>simp_all
   rw[e];simp (disch:=first|assumption|omega) only[S0,rA,rQ,rB,rT,rE]
  ·simp (disch:=first|assumption|omega) only[S0,rA,rQ,rB,rT,rE]
 ·intro i hi hb hl hp
  (refine aG ?_;repeat' (refine aF ?_ ?_<;>intro _<;>try simp (disch:=first|assumption|omega) only[S0,rA,rQ,rB,rT,rE,aS,tC, *]))
 ·intro i hi hb hl hp
  (refine aG ?_;repeat' (refine aF ?_ ?_<;>intro _<;>try simp (disch:=first|assumption|omega) only[S0,rA,rQ,rB,rT,rE,aS,tC, *]))
 ·intro hl
  (refine aG ?_;repeat' (refine aF ?_ ?_<;>intro _<;>try simp (disch:=first|assumption|omega) only[S0,rA,rQ,rB,rT,rE, *]))
theorem Iah (n:Int)(hg:Ea2 n)(xs:List Int)(hx:xs.length<=1099511627776):Fun T 97 [rL xs,i64 n]=some [.bool (xs.any (fun x=>!inR x 0 (n-1)))]:=by
 rw[aO (t:=Lb6) rfl];unfold Lb6
 (refine aG ?_;repeat' (refine aF ?_ ?_<;>intro _<;>try simp (disch:=first|assumption|omega) only[S0,rA,rQ,rB,rT,rE,Hao,jG, *]))
theorem jR (n:Int)(xs:List Int)(hg:Ea2 n)(hx:xs.length<=10000000000):Fun T 95 [i64 n,rL xs]=some [.bool (Ga7 xs 0 (n-1))]:=by
 rw[aO (t:=Lb8) rfl];unfold Lb8;unfold Ga7
 have rK:xs.length<=1099511627776:=by omega
 have e:xs.any (fun x=>!inR x 0 (n-1))=!xs.all fun x=>inR x 0 (n-1):=by rw[Ybf]
 rw[Uam,Uan xs (fun x=>inR x 0 (n-1)),Bool.and_comm];cases h:zM (Faq xs) xs.length
 ·simp (disch:=first|assumption|omega) only[S0,rA,rQ,rB,rT,rE,Paa,h]
 ·simp (disch:=first|assumption|omega) only[S0,rA,rQ,rB,rT,rE,Paa,Iah,h,e,Bool.not_not]
theorem uC (n me:Int)(cw cL b9 cx bp ca br bt bq bg:Int)(ba:(List Int))(bk:Int)(bd:(List Int))(cF:Bool)(cH:(List Int))(bw:(List bF))(hg:bR n=true)(hs:Tak ⟨cw,cL,b9,cx,⟨bp,ca,br,bt,bq⟩,⟨bg,ba⟩,⟨bk,bd⟩,cF,cH,bw⟩):Fun T 25 [i64 n,i64 me,i64 cw,i64 cL,i64 b9,i64 cx,i64 bp,i64 ca,i64 br,i64 bt,i64 bq,i64 bg,rL ba,i64 bk,rL bd,.bool cF,rL cH,rL bw]=some [.bool (gP n me ⟨cw,cL,b9,cx,⟨bp,ca,br,bt,bq⟩,⟨bg,ba⟩,⟨bk,bd⟩,cF,cH,bw⟩)]:=by
 rw[aO (t:=Nb5) rfl];unfold Nb5
 have hn:=aL hg;obtain⟨h1,h2,h3,h4,h5⟩:=hs;simp only at h1 h2 h3 h4 h5;have wg:ba.length<=1099511627776:=by omega
 have uy:bd.length<=1099511627776:=by omega
 have h3':cH.length<=1099511627776:=by omega
 have ea:decide ((⟨bg,ba⟩:bN)=none0 n)=decide ((⟨bg,ba⟩:bN)=⟨(none0 n).seq,(none0 n).deps⟩):=rfl;have eb:decide ((⟨bk,bd⟩:bN)=none0 n)=decide ((⟨bk,bd⟩:bN)=⟨(none0 n).seq,(none0 n).deps⟩):=rfl;unfold gP;cases c1:inst n cw cL
 ·simp (disch:=first|assumption|omega) only[S0,rA,rQ,rB,rT,rE,dR,c1]
 cases c2:inR b9 0 9999
 ·simp (disch:=first|assumption|omega) only[S0,rA,rQ,rB,rT,rE,dR,bU,c1,c2]
 cases c3:Ga7 cH 0 (n-1)
 ·simp (disch:=first|assumption|omega) only[S0,rA,rQ,rB,rT,rE,dR,bU,mD,c1,c2,c3]
 cases c4:uN cH me
 ·simp (disch:=first|assumption|omega) only[S0,rA,rQ,rB,rT,rE,dR,bU,mD,lJ,c1,c2,c3,c4]
 cases c5:bZ n ⟨bg,ba⟩
 ·simp (disch:=first|assumption|omega) only[S0,rA,rQ,rB,rT,rE,dR,bU,mD,lJ,pU,c1,c2,c3,c4,c5]
 cases c6:bZ n ⟨bk,bd⟩
 ·simp (disch:=first|assumption|omega) only[S0,rA,rQ,rB,rT,rE,dR,bU,mD,lJ,pU,c1,c2,c3,c4,c5,c6]
 simp (disch:=first|assumption|omega) only[S0,rA,rQ,rB,rT,rE,dR,bU,mD,lJ,pU,c1,c2,c3,c4,c5,c6];rw[Pbz 1 bw (fun r=>rowOk n r&&!(r.state==3)) [.bool false]]
 ·have e0:((bw.length:Int)==0)=true->(bw.all fun r=>rowOk n r&&!(r.state==3))=true:=fun h=>by
   have:bw=[]:=List.length_eq_zero_iff.1 (by simpa using h);rw[this];rfl
  cases c7:bw.all fun r=>rowOk n r&&!(r.state==3)
  ·have e1:((bw.length:Int)==0)=false:=by
    cases h:((bw.length:Int)==0) with
    |false=>rfl
    |true=>rw[e0 h]at c7;cases c7
   rcases Yad cx with rfl|rfl|rfl|⟨p1,p2,p3⟩
   ·simp (disch:=first|assumption|omega) only[S0,rA,rQ,rB,rT,rE,e1]
   ·simp (disch:=first|assumption|omega) only[S0,rA,rQ,rB,rT,rE,e1]
   ·simp (disch:=first|assumption|omega) only[S0,rA,rQ,rB,rT,rE]
   ·simp (disch:=first|assumption|omega) only[S0,rA,rQ,rB,rT,rE,p1,p2,p3,Vbm]
  ·clear e0
   rcases Yad cx with rfl|rfl|rfl|⟨p1,p2,p3⟩
   ·simp (disch:=first|assumption|omega) only[S0,rA,rQ,rB,rT,rE,eT]<;>repeat' (refine aF (fun _=>?_) (fun _=>?_)<;>try simp (disch:=first|assumption|omega) only[S0,rA,rQ,rB,rT,rE,eT, *])
   ·simp (disch:=first|assumption|omega) only[S0,rA,rQ,rB,rT,rE,eT]<;>repeat' (refine aF (fun _=>?_) (fun _=>?_)<;>try simp (disch:=first|assumption|omega) only[S0,rA,rQ,rB,rT,rE,eT,bD, *])
   ·cases k0:decide (({ kind:=bp,id:=ca,src:=br,dst:=bt,amt:=bq }:kM)={ kind:=0,id:=0,src:=0,dst:=0,amt:=0 })<;>cases k1:decide (({ seq:=bg,deps:=ba }:bN)=bN.mk (none0 n).seq (none0 n).deps)<;>cases k2:decide (({ seq:=bk,deps:=bd }:bN)=bN.mk (none0 n).seq (none0 n).deps)
    all_goals (have k1':=ea.trans k1;have k2':=eb.trans k2;simp (disch:=first|assumption|omega) only[S0,rA,rQ,rB,rT,rE,iO,bD,mR,k0,k1,k2,k1',k2'])
    all_goals (cases cF<;>simp (disch:=first|assumption|omega) only[S0,rA,rQ,rB,rT,rE])
   ·simp (disch:=first|assumption|omega) only[S0,rA,rQ,rB,rT,rE,p1,p2,p3,Vbm]
 ·intro i hi hb bj hm
  have hq:=h5 _ hm;have nn:(atI bw (i:Int)).attr.deps.length<=1099511627776:=by omega
  simp (disch:=first|assumption|omega) only[S0,rA,rQ,rB,rT,rE,aS,sJ,bj]<;>repeat' (refine aF (fun _=>?_) (fun _=>?_)<;>try simp (disch:=first|assumption|omega) only[S0,rA,rQ,rB,rT,rE,aS,sJ, *])
 ·intro bj
  simp (disch:=first|assumption|omega) only[S0,rA,rQ,rB,rT,rE,bj]
theorem xB (cD cV cG bz cz cq cr cn cj:Int)(bl:(List Int))(n:Int)(hg:bR n=true)(hx:bl.length<=1099511627776):Fun T 104 [i64 cD,i64 cV,i64 cG,i64 bz,i64 cz,i64 cq,i64 cr,i64 cn,i64 cj,rL bl,i64 n]=some [.bool (!(rowOk n ⟨cD,cV,cG,⟨bz,cz,cq,cr,cn⟩,⟨cj,bl⟩⟩&&!(cG==3)))]:=by
 rw[aO (t:=Cbp) rfl];unfold Cbp
 (refine aG ?_;repeat' (refine aF ?_ ?_<;>intro _<;>try simp (disch:=first|assumption|omega) only[S0,rA,rQ,rB,rT,rE,Ea5,Bool.not_not, *]))
theorem Mai (n:Int)(hg:bR n=true)(xs:List bF)(hx:xs.length<=1099511627776)(hq:∀ x∈xs,x.attr.deps.length<=1099511627776):Fun T 103 [rL xs,i64 n]=some [i64 (ixF (fun r=>!(rowOk n r&&!(r.state==3))) xs)]:=by
 rw[aO (t:=Cbq) rfl];unfold Cbq
 simp (disch:=first|assumption|omega) only[S0,rA,rQ,rB,rT,rE,aS, *];rw[Jao 1 xs (fun r=>!(rowOk n r&&!(r.state==3))) (fun i=>[i64 i])]
 ·cases h:xs.any (fun r=>!(rowOk n r&&!(r.state==3)))
  ·have e:ixF (fun r=>!(rowOk n r&&!(r.state==3))) xs=-1:=by
    have h2:=jG (fun r=>!(rowOk n r&&!(r.state==3))) xs;rw[h]at h2;unfold ixF at h2 ⊢;split at h2<;>simp_all
   rw[e];simp (disch:=first|assumption|omega) only[S0,rA,rQ,rB,rT,rE]
  ·simp (disch:=first|assumption|omega) only[S0,rA,rQ,rB,rT,rE]
 ·intro i hi hb hl hp
  have nn:=hq _ (at_mem hi)
  try simp only at nn hp
  (refine aG ?_;repeat' (refine aF ?_ ?_<;>intro _<;>try simp (disch:=first|assumption|omega) only[S0,rA,rQ,rB,rT,rE,aS,xB, *]))
 ·intro i hi hb hl hp
  have nn:=hq _ (at_mem hi)
  try simp only at nn hp
  (refine aG ?_;repeat' (refine aF ?_ ?_<;>intro _<;>try simp (disch:=first|assumption|omega) only[S0,rA,rQ,rB,rT,rE,aS,xB, *]))
 ·intro hl
  (refine aG ?_;repeat' (refine aF ?_ ?_<;>intro _<;>try simp (disch:=first|assumption|omega) only[S0,rA,rQ,rB,rT,rE, *]))
theorem Maz (n:Int)(hg:bR n=true)(xs:List bF)(hx:xs.length<=1099511627776)(hq:∀ x∈xs,x.attr.deps.length<=1099511627776):Fun T 102 [rL xs,i64 n]=some [.bool (xs.any (fun r=>!(rowOk n r&&!(r.state==3))))]:=by
 rw[aO (t:=Cbr) rfl];unfold Cbr
 (refine aG ?_;repeat' (refine aF ?_ ?_<;>intro _<;>try simp (disch:=first|assumption|omega) only[S0,rA,rQ,rB,rT,rE,Mai,jG, *]))
theorem uM (n me:Int)(cw cL b9 cx bp ca br bt bq bg:Int)(ba:(List Int))(bk:Int)(bd:(List Int))(cF:Bool)(cH:(List Int))(bw:(List bF))(hg:bR n=true)(hs:Tak ⟨cw,cL,b9,cx,⟨bp,ca,br,bt,bq⟩,⟨bg,ba⟩,⟨bk,bd⟩,cF,cH,bw⟩):Fun T 93 [i64 n,i64 me,i64 cw,i64 cL,i64 b9,i64 cx,i64 bp,i64 ca,i64 br,i64 bt,i64 bq,i64 bg,rL ba,i64 bk,rL bd,.bool cF,rL cH,rL bw]=some [.bool (gP n me ⟨cw,cL,b9,cx,⟨bp,ca,br,bt,bq⟩,⟨bg,ba⟩,⟨bk,bd⟩,cF,cH,bw⟩)]:=by
 rw[aO (t:=Mba) rfl];unfold Mba
 have hn:=aL hg;have hgn:Ea2 n:=Ya0 hg;obtain⟨h1,h2,h3,h4,h5⟩:=hs;simp only at h1 h2 h3 h4 h5;have wg:ba.length<=1099511627776:=by omega
 have uy:bd.length<=1099511627776:=by omega
 have h3':cH.length<=1099511627776:=by omega
 have vp:bw.length<=1099511627776:=by omega
 have sd:∀ x∈bw,x.attr.deps.length<=1099511627776:=fun x hx=>by have:=h5 x hx;omega
 have ea:decide ((⟨bg,ba⟩:bN)=none0 n)=decide ((⟨bg,ba⟩:bN)=⟨(none0 n).seq,(none0 n).deps⟩):=rfl;have eb:decide ((⟨bk,bd⟩:bN)=none0 n)=decide ((⟨bk,bd⟩:bN)=⟨(none0 n).seq,(none0 n).deps⟩):=rfl;have e3:(bw.any fun r=>!(rowOk n r&&!(r.state==3)))=!bw.all fun r=>rowOk n r&&!(r.state==3):=by rw[Ybf]
 unfold gP;cases c1:inst n cw cL
 ·simp (disch:=first|assumption|omega) only[S0,rA,rQ,rB,rT,rE,bY,hg,c1]
 cases c2:inR b9 0 9999
 ·simp (disch:=first|assumption|omega) only[S0,rA,rQ,rB,rT,rE,bY,dM,hg,c1,c2]
 cases c3:Ga7 cH 0 (n-1)
 ·simp (disch:=first|assumption|omega) only[S0,rA,rQ,rB,rT,rE,bY,dM,jR,hg,c1,c2,c3]
 cases c4:uN cH me
 ·simp (disch:=first|assumption|omega) only[S0,rA,rQ,rB,rT,rE,bY,dM,jR,slices_Contains_int,hg,c1,c2,c3,c4]
 cases c5:bZ n ⟨bg,ba⟩
 ·simp (disch:=first|assumption|omega) only[S0,rA,rQ,rB,rT,rE,bY,dM,jR,slices_Contains_int,oU,hg,c1,c2,c3,c4,c5]
 cases c6:bZ n ⟨bk,bd⟩
 ·simp (disch:=first|assumption|omega) only[S0,rA,rQ,rB,rT,rE,bY,dM,jR,slices_Contains_int,oU,hg,c1,c2,c3,c4,c5,c6]
 simp (disch:=first|assumption|omega) only[S0,rA,rQ,rB,rT,rE,bY,dM,jR,slices_Contains_int,oU,hg,c1,c2,c3,c4,c5,c6]
 rcases Yad cx with rfl|rfl|rfl|⟨p1,p2,p3⟩
 ·simp (disch:=first|assumption|omega) only[S0,rA,rQ,rB,rT,rE,eY]<;>repeat' (refine aF (fun _=>?_) (fun _=>?_)<;>try simp (disch:=first|assumption|omega) only[S0,rA,rQ,rB,rT,rE,eY, *])
 ·cases c7:iZ ⟨bp,ca,br,bt,bq⟩
  ·simp (disch:=first|assumption|omega) only[S0,rA,rQ,rB,rT,rE,eY,c7]
  cases c8:(bw.length:Int)==0
  ·simp (disch:=first|assumption|omega) only[S0,rA,rQ,rB,rT,rE,eY,c7,c8]
  cases c9:decide ((⟨bg,ba⟩:bN)=⟨bk,bd⟩)<;>cases c10:cF<;>simp (disch:=first|assumption|omega) only[S0,rA,rQ,rB,rT,rE,eY,iR,c7,c8,c9,c10]
 ·cases c7:decide ((⟨bp,ca,br,bt,bq⟩:kM)=⟨0,0,0,0,0⟩)
  ·simp (disch:=first|assumption|omega) only[S0,rA,rQ,rB,rT,rE,dJ,mR,c7]
  cases c8:decide ((⟨bg,ba⟩:bN)=none0 n)
  ·simp (disch:=first|assumption|omega) only[S0,rA,rQ,rB,rT,rE,dJ,iR,mR,c7,c8]
  cases c9:decide ((⟨bk,bd⟩:bN)=none0 n)
  ·simp (disch:=first|assumption|omega) only[S0,rA,rQ,rB,rT,rE,dJ,iR,mR,c7,c8,c9]
  cases c10:cF
  rotate_left
  ·simp (disch:=first|assumption|omega) only[S0,rA,rQ,rB,rT,rE,dJ,iR,mR,c7,c8,c9,c10]
  cases c11:(bw.length:Int)==(cH.length:Int)
  ·simp (disch:=first|assumption|omega) only[S0,rA,rQ,rB,rT,rE,dJ,iR,mR,c7,c8,c9,c10,c11]
  simp (disch:=first|assumption|omega) only[S0,rA,rQ,rB,rT,rE,dJ,iR,mR,c7,c8,c9,c10,c11,Maz,e3,Bool.not_not]
 ·simp (disch:=first|assumption|omega) only[S0,rA,rQ,rB,rT,rE,p1,p2,p3,Vbm]
theorem aK (me n:Int)(rows:List (List bF))(leads:List aN)(hs:gF rows)(gR:iB leads):Fun T 14 [i64 me,i64 n,rL rows,rL leads]=some [.bool (bV ⟨me,⟨n,rows⟩,leads⟩)]:=by
 rw[aO (t:=Obf) rfl];unfold Obf;unfold bV
 obtain⟨hs3,hs4⟩:=gR;cases ht:dZ ⟨n,rows⟩
 ·simp (disch:=first|assumption|omega) only[S0,rA,rQ,rB,rT,rE,kN,ht]
 have hg:bR n=true:=aU ht;have hn:=aL hg;cases hm:inR me 0 (n-1)
 ·simp (disch:=first|assumption|omega) only[S0,rA,rQ,rB,rT,rE,kN,bU,ht,hm]
 simp (disch:=first|assumption|omega) only[S0,rA,rQ,rB,rT,rE,kN,bU,ht,hm];rw[Vaj 1 leads.length (Ham n me leads) [.bool false]]
 ·(refine aG ?_;repeat' (refine aF ?_ ?_<;>intro _<;>try simp (disch:=first|assumption|omega) only[S0,rA,rQ,rB,rT,rE, *]))
 ·intro i hi bj
  have hb:InB leads (i:Int):=aX.2 hi;have hq:=hs4 _ (at_mem hi);unfold Ham Oa1;cases c1:gP n me (atI leads (i:Int))
  ·simp (disch:=first|assumption|omega) only[S0,rA,rQ,rB,rT,rE,aS,uC,bj,c1]
  by_cases h0:0<(i:Int)
  ·have d0:decide (0<(i:Int))=true:=by simpa using h0
   have gp:InB leads ((i:Int)-1):=by unfold InB;omega
   simp (disch:=first|assumption|omega) only[S0,rA,rQ,rB,rT,rE,aS,uC,bj,c1,d0]<;>repeat' (refine aF (fun _=>?_) (fun _=>?_)<;>try simp (disch:=first|assumption|omega) only[S0,rA,rQ,rB,rT,rE,aS,uC, *])
  ·have d0:decide (0<(i:Int))=false:=by simpa using h0
   simp (disch:=first|assumption|omega) only[S0,rA,rQ,rB,rT,rE,aS,uC,bj,c1,d0]
 ·intro bj
  simp (disch:=first|assumption|omega) only[S0,rA,rQ,rB,rT,rE,bj]
theorem dK (me n:Int)(rows:List (List bF))(leads:List aN)(hs:gF rows)(gR:iB leads):Fun T 73 [i64 me,i64 n,rL rows,rL leads]=some [.bool (bV ⟨me,⟨n,rows⟩,leads⟩)]:=by
 rw[aO (t:=Mbu) rfl];unfold Mbu;unfold bV
 obtain⟨hs3,hs4⟩:=gR;cases ht:dZ ⟨n,rows⟩
 ·simp (disch:=first|assumption|omega) only[S0,rA,rQ,rB,rT,rE,jE,ht]
 have hg:bR n=true:=aU ht;have hn:=aL hg;cases hm:inR me 0 (n-1)
 ·simp (disch:=first|assumption|omega) only[S0,rA,rQ,rB,rT,rE,jE,dM,ht,hm]
 simp (disch:=first|assumption|omega) only[S0,rA,rQ,rB,rT,rE,jE,dM,ht,hm];rw[Vaj 1 leads.length (Ham n me leads) [.bool false]]
 ·(refine aG ?_;repeat' (refine aF ?_ ?_<;>intro _<;>try simp (disch:=first|assumption|omega) only[S0,rA,rQ,rB,rT,rE, *]))
 ·intro i hi bj
  have hb:InB leads (i:Int):=aX.2 hi;have hq:=hs4 _ (at_mem hi);unfold Ham Oa1;cases c1:gP n me (atI leads (i:Int))
  ·simp (disch:=first|assumption|omega) only[S0,rA,rQ,rB,rT,rE,aS,uM,bj,c1]
  by_cases h0:0<(i:Int)
  ·have d0:decide (0<(i:Int))=true:=by simpa using h0
   have gp:InB leads ((i:Int)-1):=by unfold InB;omega
   have hc:=Vbg (atI leads (i:Int)).rep (atI leads (i:Int)).no (atI leads ((i:Int)-1)).rep (atI leads ((i:Int)-1)).no;have l1:([(atI leads (i:Int)).rep,(atI leads (i:Int)).no]:List Int).length<=1099511627776:=by simp
   have l2:([(atI leads ((i:Int)-1)).rep,(atI leads ((i:Int)-1)).no]:List Int).length<=1099511627776:=by simp
   generalize hz:(decide ((atI leads (i:Int)).rep<(atI leads ((i:Int)-1)).rep)||((atI leads ((i:Int)-1)).rep==(atI leads (i:Int)).rep&&decide ((atI leads (i:Int)).no<=(atI leads ((i:Int)-1)).no)))=z at hc ⊢;cases z<;>simp (disch:=first|assumption|omega) only[S0,rA,rQ,rB,rT,rE,aS,jH,uM,qX,bj,c1,d0,hc]
  ·have d0:decide (0<(i:Int))=false:=by simpa using h0
   simp (disch:=first|assumption|omega) only[S0,rA,rQ,rB,rT,rE,aS,uM,bj,c1,d0]
 ·intro bj
  simp (disch:=first|assumption|omega) only[S0,rA,rQ,rB,rT,rE,bj]
theorem oF (cw cL b9 cx bp ca br bt bq bg:Int)(ba:(List Int))(bk:Int)(bd:(List Int))(cF:Bool)(cH:(List Int))(bw:(List bF))(h1:ba.length<=10000000000)(h2:bd.length<=10000000000)(h3:cH.length<=10000000000)(h4:mF bw):Fun T 115 [i64 cw,i64 cL,i64 b9,i64 cx,i64 bp,i64 ca,i64 br,i64 bt,i64 bq,i64 bg,rL ba,i64 bk,rL bd,.bool cF,rL cH,rL bw]=some [i64 cw,i64 cL,i64 b9,i64 cx,i64 bp,i64 ca,i64 br,i64 bt,i64 bq,i64 bg,rL ba,i64 bk,rL bd,.bool cF,rL cH,rL bw]:=by
 rw[aO (t:=Cbf) rfl];unfold Cbf
 simp (disch:=first|assumption|omega) only[S0,rA,rQ,rB,rT,rE,oG,Cal,slices_Clone_int]
theorem Aaq (aE ae:Int)(aa:(List (List bF)))(ak:(List aN))(h1:gF aa)(h2:iB ak):Fun T 109 [i64 aE,i64 ae,rL aa,rL ak]=some [i64 aE,i64 ae,rL aa,rL ak]:=by
 rw[aO (t:=Cbk) rfl];unfold Cbk
 obtain⟨ke,gR⟩:=h2;simp (disch:=first|assumption|omega) only[S0,rA,rQ,rB,rT,rE,Da2];rw[rX ak.length (fun i=>[i64 i,rL (ak.take i)]) (.yield 1,[rL ak]) rfl (by simp)]
 ·simp (disch:=first|assumption|omega) only[S0,rA,rQ,rB,rT,rE]
 ·intro i hi bj
  have hb:InB ak (i:Int):=aX.2 hi;obtain⟨q1,q2,q3,q4⟩:=gR _ (at_mem hi);have oT:=take_at hi;have ji:(ak.take i).length+([atI ak (i:Int)]:List aN).length<=100000000000:=by rw[Wbh];simp only[Wbb,Wbp];omega
  simp (disch:=first|assumption|omega) only[S0,rA,rQ,rB,rT,rE,aS,jH,kU,oF,bj,oT]
 ·intro bj
  rw[Xbt];simp (disch:=first|assumption|omega) only[S0,rA,rQ,rB,rT,rE,bj]
theorem Uaj (code:D)(hc:isBytes code)(a s:Int)(h0:0<=a)(h1:a<=4611686018427387904):∃ v s',Fun T 6 [code,i64 a,u64 s]=some [i64 v,code,i64 (a+1),u64 s']/\0<=v/\v<=255:=by
 rw[aO (t:=tm6) rfl];unfold tm6
 obtain⟨l1,l2⟩:=Iao hc;by_cases bj:a<(Abp code:Nat)
 ·obtain⟨b1,b,b2,b3,b4⟩:=bytes_at hc h0 bj
  have c8:=Fb2 b3 b4;have d:decide (a<((Abp code:Nat):Int))=true:=by simpa using bj
  have e:decide (a+1<=((Abp code:Nat):Int))=true:=by simp;omega
  simp (disch:=first|assumption|omega) only[S0,rA,rQ,rB,rT,rE,l1,b1,b2,c8,d,e,Lbl];exact⟨_,_,rfl,b3,b4⟩
 ·have d:decide (a<((Abp code:Nat):Int))=false:=by simpa using bj
  have e:decide (a+1<=((Abp code:Nat):Int))=false:=by simp;omega
  simp (disch:=first|assumption|omega) only[S0,rA,rQ,rB,rT,rE,l1,d,e,Lbl];exact⟨_,_,rfl,(Ta3 _).1,(Ta3 _).2⟩
theorem bA (code:D)(hc:isBytes code)(n a s:Int)(h0:0<=a)(h1:a<=2305843009213693952):∃ v a' s',Fun T 5 [i64 n,code,i64 a,u64 s]=some [i64 v,code,i64 a',u64 s']/\0<=v/\(1<=n->v<n)/\a<=a'/\a'<=a+2:=by
 rw[aO (t:=tm5) rfl];unfold tm5
 by_cases hn:n<=1
 ·have d:decide (n<=1)=true:=by simpa using hn
  simp (disch:=first|assumption|omega) only[S0,rA,rQ,rB,rT,rE,d];exact⟨_,_,_,rfl,by omega,by omega,by omega,by omega⟩
 ·have d:decide (n<=1)=false:=by simpa using hn
  obtain⟨v,s',e,v1,v2⟩:=Uaj code hc a s h0 (by omega);by_cases rz:200<n
  ·have d2:decide (200<n)=true:=by simpa using rz
   obtain⟨w,s2,e2,w1,w2⟩:=Uaj code hc (a+1) s' (by omega) (by omega);have r1:(aT.bin .mul).run [i64 v,i64 256]=some [i64 (v*256)]:=Cb6 (by omega) (by omega);have r2:=yF (a:=v*256+w) (b:=n) (by omega) (by omega);simp (disch:=first|assumption|omega) only[S0,rA,rQ,rB,rT,rE,d,d2,e,e2,r1,r2];exact⟨_,_,_,rfl,Int.emod_nonneg _ (by omega),fun _=>Int.emod_lt_of_pos _ (by omega),by omega,by omega⟩
  ·have d2:decide (200<n)=false:=by simpa using rz
   have r2:=yF (a:=v) (b:=n) (by omega) (by omega);simp (disch:=first|assumption|omega) only[S0,rA,rQ,rB,rT,rE,d,d2,e,r2];exact⟨_,_,_,rfl,Int.emod_nonneg _ (by omega),fun _=>Int.emod_lt_of_pos _ (by omega),by omega,by omega⟩
theorem Iag (code:D)(hc:isBytes code)(n a s:Int)(h0:0<=a)(h1:a<=2305843009213693952):∃ v a' s',Fun T 12 [i64 n,code,i64 a,u64 s]=some [.bool v,code,i64 a',u64 s']/\a<=a'/\a'<=a+2:=by
 rw[aO (t:=Obh) rfl];unfold Obh
 obtain⟨v,a',s',e,v1,v2,v3,v4⟩:=bA code hc n a s h0 h1;simp (disch:=first|assumption|omega) only[S0,rA,rQ,rB,rT,rE,e];exact⟨_,_,_,rfl,v3,v4⟩
theorem mM (code:D)(hc:isBytes code)(xs:List Int)(a s:Int)(hx:0<xs.length)(qe:xs.length<=10000000000)(h0:0<=a)(h1:a<=2305843009213693952):∃ v a' s',Fun T 4 [rL xs,code,i64 a,u64 s]=some [i64 v,code,i64 a',u64 s']/\v∈xs/\a<=a'/\a'<=a+2:=by
 rw[aO (t:=tm4) rfl];unfold tm4
 obtain⟨v,a',s',e,v1,v2,v3,v4⟩:=bA code hc xs.length a s h0 h1;have hb:InB xs v:=by unfold InB;omega
 simp (disch:=first|assumption|omega) only[S0,rA,rQ,rB,rT,rE,e,aS];exact⟨_,_,_,rfl,iW hb,v3,v4⟩
theorem Eaa (code:D)(hc:isBytes code)(a s:Int)(h0:0<=a)(h1:a<=1152921504606846976):∃ (c:kM) (a' s':Int),Fun T 11 [code,i64 a,u64 s]=some [i64 c.kind,i64 c.id,i64 c.src,i64 c.dst,i64 c.amt,code,i64 a',u64 s']/\(1<=c.amt->c.kind=1)/\(0<=c.amt/\c.amt<=30)/\a<=a'/\a'<=a+10:=by
 rw[aO (t:=Obi) rfl];unfold Obi
 obtain⟨v1,a1,s1,e1,p1,q1,g1,k1⟩:=bA code hc 9 a s h0 (by omega);obtain⟨v2,a2,s2,e2,p2,q2,g2,k2⟩:=bA code hc 4 a1 s1 (by omega) (by omega);obtain⟨v3,a3,s3,e3,p3,q3,g3,k3⟩:=bA code hc 30 a2 s2 (by omega) (by omega);obtain⟨v4,a4,s4,e4,p4,q4,g4,k4⟩:=bA code hc 3 a3 s3 (by omega) (by omega);obtain⟨v5,a5,s5,e5,g5,k5⟩:=Iag code hc 4 a4 s4 (by omega) (by omega);have r2:=yF (a:=v2+1+v4) (b:=4) (by omega) (by omega);have q1':=q1 (by omega);have q2':=q2 (by omega);have q3':=q3 (by omega);have q4':=q4 (by omega);cases v5
 ·simp (disch:=first|assumption|omega) only[S0,rA,rQ,rB,rT,rE,e1,e2,e3,e4,e5,r2]
  exact⟨⟨_,_,_,_,_⟩,_,_,rfl,fun _=>rfl,by simp only;omega,by omega,by omega⟩
 ·simp (disch:=first|assumption|omega) only[S0,rA,rQ,rB,rT,rE,e1,e2,e3,e4,e5,r2]
  exact⟨⟨_,_,_,_,_⟩,_,_,rfl,by simp only;omega,by simp only;omega,by omega,by omega⟩
theorem lZ (n:Int)(h0:0<=n)(h1:n<=1000):Fun T 17 [i64 n]=some [i64 0,rL (Wba n.toNat (0:Int))]:=by
 rw[aO (t:=Ibq) rfl];unfold Ibq
 (refine aG ?_;repeat' (refine aF ?_ ?_<;>intro _<;>try simp (disch:=first|assumption|omega) only[S0,rA,rQ,rB,rT,rE,Uaq, *]))
theorem Za2 (code:D)(hc:isBytes code)(n a s:Int)(hn:0<=n)(rz:n<=10)(h0:0<=a)(h1:a<=576460752303423488):∃ (r:bF) (a' s':Int),Fun T 57 [i64 n,code,i64 a,u64 s]=some [i64 r.ballot,i64 r.vote,i64 r.state,i64 r.cmd.kind,i64 r.cmd.id,i64 r.cmd.src,i64 r.cmd.dst,i64 r.cmd.amt,i64 r.attr.seq,rL r.attr.deps,code,i64 a',u64 s']/\(r.attr.deps.length:Int)=n/\a<=a'/\a'<=a+50:=by
 rw[aO (t:=Nba) rfl];unfold Nba
 obtain⟨v1,a1,s1,e1,p1,g1,k1⟩:=mM code hc [0,0,8,9,17] a s (by simp) (by simp) h0 (by omega);obtain⟨v2,a2,s2,e2,p2,q2,g2,k2⟩:=bA code hc 4 a1 s1 (by omega) (by omega);obtain⟨c3,a3,s3,e3,-,-,g3,k3⟩:=Eaa code hc a2 s2 (by omega) (by omega);obtain⟨v4,a4,s4,e4,p4,q4,g4,k4⟩:=bA code hc 5 a3 s3 (by omega) (by omega);simp (disch:=first|assumption|omega) only[S0,rA,rQ,rB,rT,rE,e1,e2,e3,e4,jH];generalize hE:Er T (Tm.loop _ _) _=E
 have key:∃ q,E=some q/\∃ (ds:List Int) (a' s':Int),q=(.yield 1,[code,i64 a',u64 s',rL ds])/\(ds.length:Int)=n/\a<=a'/\a'<=a+40:=by
  rw[<- hE];refine Yap (γ:=Nat×Int×Int×List Int) (fun c=>n.toNat-c.1) (fun c=>(c.1:Int)<=n/\c.2.2.2.length=c.1/\a4<=c.2.1/\c.2.1<=a4+2*c.1) (fun c=>[i64 c.1,code,i64 c.2.1,u64 c.2.2.1,rL c.2.2.2]) _ (0,a4,s4,[]) rfl (by simp;omega) ?_
  rintro⟨i,a5,s5,ds⟩ ⟨h2,h3,h4,h5⟩
  simp only at h2 h3 h4 h5;by_cases hi:(i:Int)<n
  ·have d:decide ((i:Int)<n)=true:=by simpa using hi
   obtain⟨v6,a6,s6,e6,p6,q6,g6,k6⟩:=bA code hc 3 a5 s5 (by omega) (by omega);have z:ds.length+([v6]:List Int).length<=100000000000:=by simp only[Wbb,Wbp];omega
   refine .inl ⟨(i+1,a6,s6,ds++[v6]),?_,⟨by simp only;omega,by simp[h3],by simp only;omega,by simp only;omega⟩,by simp only;omega⟩;simp (disch:=first|assumption|omega) only[S0,rA,rQ,rB,rT,rE,d,e6,jH,kU]
  ·have d:decide ((i:Int)<n)=false:=by simpa using hi
   refine .inr ⟨(.yield 1,[code,i64 a5,u64 s5,rL ds]),?_,by simp,ds,a5,s5,rfl,by omega,by omega,by omega⟩;simp (disch:=first|assumption|omega) only[S0,rA,rQ,rB,rT,rE,d]
 obtain⟨q,rfl,ds,a5,s5,rfl,h2,h3,h4⟩:=key;obtain⟨v6,a6,s6,e6,g6,k6⟩:=Iag code hc 2 a5 s5 (by omega) (by omega);cases hz:v2==0
 ·cases v6
  ·simp (disch:=first|assumption|omega) only[S0,rA,rQ,rB,rT,rE,e6,hz]
   exact⟨⟨_,_,_,⟨_,_,_,_,_⟩,⟨_,_⟩⟩,_,_,rfl,h2,by omega,by omega⟩
  ·simp (disch:=first|assumption|omega) only[S0,rA,rQ,rB,rT,rE,e6,hz]
   exact⟨⟨_,_,_,⟨_,_,_,_,_⟩,⟨_,_⟩⟩,_,_,rfl,h2,by omega,by omega⟩
 ·have e7:=lZ n (by omega) (by omega)
  cases v6
  ·simp (disch:=first|assumption|omega) only[S0,rA,rQ,rB,rT,rE,e6,e7,hz]
   exact⟨⟨_,_,_,⟨_,_,_,_,_⟩,⟨_,_⟩⟩,_,_,rfl,by simp only[Wb1];omega,by omega,by omega⟩
  ·simp (disch:=first|assumption|omega) only[S0,rA,rQ,rB,rT,rE,e6,e7,hz]
   exact⟨⟨_,_,_,⟨_,_,_,_,_⟩,⟨_,_⟩⟩,_,_,rfl,by simp only[Wb1];omega,by omega,by omega⟩
theorem Gac (code:D)(hc:isBytes code)(a s:Int)(h0:0<=a)(h1:a<=1152921504606846976):∃ (k i a' s':Int),Fun T 48 [code,i64 a,u64 s]=some [i64 k,i64 i,code,i64 a',u64 s']/\a<=a'/\a'<=a+10:=by
 rw[aO (t:=Nbj) rfl];unfold Nbj
 obtain⟨v1,a1,s1,e1,p1,q1,g1,k1⟩:=bA code hc 4 a s h0 (by omega);obtain⟨v2,a2,s2,e2,p2,q2,g2,k2⟩:=bA code hc 12 a1 s1 (by omega) (by omega);obtain⟨v3,a3,s3,e3,p3,g3,k3⟩:=mM code hc [1,1,2,2,3,4,6,7,0] a2 s2 (by simp) (by simp) (by omega) (by omega);have q1':=q1 (by omega);have q2':=q2 (by omega);have b1:0<=v2 / 11/\v2 / 11<=1:=by omega
 have z:(aT.mk 1 9).run [i64 1,i64 1,i64 2,i64 2,i64 3,i64 4,i64 6,i64 7,i64 0]=some [rL ([1,1,2,2,3,4,6,7,0]:List Int)]:=rfl;simp (disch:=first|assumption|omega) only[S0,rA,rQ,rB,rT,rE,e1,e2,e3,z];exact⟨_,_,_,_,rfl,by omega,by omega⟩
theorem kF (code:D)(hc:isBytes code)(a s:Int)(h0:0<=a)(h1:a<=288230376151711744):∃ (c:kM) (a' s':Int),Fun T 58 [code,i64 a,u64 s]=some [i64 c.kind,i64 c.id,i64 c.src,i64 c.dst,i64 c.amt,code,i64 a',u64 s']/\a<=a'/\a'<=a+20:=by
 rw[aO (t:=Mb9) rfl];unfold Mb9
 obtain⟨c,a1,s1,e1,-,-,g1,k1⟩:=Eaa code hc a s h0 (by omega);obtain⟨v2,a2,s2,e2,p2,q2,g2,k2⟩:=bA code hc 20 a1 s1 (by omega) (by omega);cases c0:v2==0
 rotate_left
 ·simp (disch:=first|assumption|omega) only[S0,rA,rQ,rB,rT,rE,e1,e2,c0]
  exact⟨⟨0,0,0,0,0⟩,_,_,rfl,by omega,by omega⟩
 cases c1:v2==1
 rotate_left
 ·simp (disch:=first|assumption|omega) only[S0,rA,rQ,rB,rT,rE,e1,e2,c0,c1]
  exact⟨⟨c.kind,c.id,c.src,c.src,c.amt⟩,a2,s2,rfl,by omega,by omega⟩
 cases c2:v2==2
 rotate_left
 ·obtain⟨v3,a3,s3,e3,p3,g3,k3⟩:=mM code hc [0,999,1000] a2 s2 (by simp) (by simp) (by omega) (by omega)
  simp (disch:=first|assumption|omega) only[S0,rA,rQ,rB,rT,rE,e1,e2,c0,c1,c2,jH,e3];exact⟨⟨c.kind,v3,c.src,c.dst,c.amt⟩,a3,s3,rfl,by omega,by omega⟩
 cases c3:v2==3
 rotate_left
 ·obtain⟨v3,a3,s3,e3,p3,g3,k3⟩:=mM code hc [0,1000,1001] a2 s2 (by simp) (by simp) (by omega) (by omega)
  simp (disch:=first|assumption|omega) only[S0,rA,rQ,rB,rT,rE,e1,e2,c0,c1,c2,c3,jH,e3];exact⟨⟨c.kind,c.id,c.src,c.dst,v3⟩,a3,s3,rfl,by omega,by omega⟩
 cases c4:v2==4
 rotate_left
 ·obtain⟨v3,a3,s3,e3,p3,g3,k3⟩:=mM code hc [-1,4] a2 s2 (by simp) (by simp) (by omega) (by omega)
  simp (disch:=first|assumption|omega) only[S0,rA,rQ,rB,rT,rE,e1,e2,c0,c1,c2,c3,c4,jH,e3];exact⟨⟨c.kind,c.id,v3,c.dst,c.amt⟩,a3,s3,rfl,by omega,by omega⟩
 cases c5:v2==5
 ·simp (disch:=first|assumption|omega) only[S0,rA,rQ,rB,rT,rE,e1,e2,c0,c1,c2,c3,c4,c5]
  exact⟨c,a2,s2,rfl,by omega,by omega⟩
 ·obtain⟨v3,a3,s3,e3,p3,q3,g3,k3⟩:=bA code hc 4 a2 s2 (by omega) (by omega)
  simp (disch:=first|assumption|omega) only[S0,rA,rQ,rB,rT,rE,e1,e2,c0,c1,c2,c3,c4,c5,e3];exact⟨⟨v3,c.id,c.src,c.dst,c.amt⟩,a3,s3,rfl,by omega,by omega⟩
theorem Dbo (code more:D)(hc:isBytes code)(hm:isBytes more):∃ b,Fun T 1 [code,more]=some [.bool b]:=by
 rw[aO (t:=tm1) rfl];unfold tm1
 obtain⟨l1,l2⟩:=Iao hc;obtain⟨l3,l4⟩:=Iao hm;cases d:decide (1048576<((Abp code:Nat):Int))
 ·simp (disch:=first|assumption|omega) only[S0,rA,rQ,rB,rT,rE,l1,l3,d]
  exact⟨_,rfl⟩
 ·simp (disch:=first|assumption|omega) only[S0,rA,rQ,rB,rT,rE,l1,l3,d]
  exact⟨_,rfl⟩
theorem Ga2 (xs ys:List Int)(hx:xs.length<=1099511627776):Fun T 142 [rL xs,rL ys]=some [.bool (decide (xs=ys))]:=by
 rw[aO (t:=Bbs) rfl];unfold Bbs
 by_cases hl:ys.length=xs.length
 ·have e1:((xs.length:Int)==ys.length)=true:=by simp[hl]
  simp (disch:=first|assumption|omega) only[S0,rA,rQ,rB,rT,rE,e1];rw[Vaj 1 xs.length (fun i=>decide (atI xs (i:Int)=atI ys (i:Int))) [.bool false],Ia2 hl.symm]
  ·cases decide (xs=ys)<;>simp (disch:=first|assumption|omega) only[S0,rA,rQ,rB,rT,rE]
  ·intro i hi bj
   have hb:InB xs (i:Int):=aX.2 hi;have gp:InB ys (i:Int):=aX.2 (by omega);have e:(!(atI xs (i:Int)==atI ys (i:Int)))=!decide (atI xs (i:Int)=atI ys (i:Int)):=by rw[Xb8]
   (refine aG ?_;repeat' (refine aF ?_ ?_<;>intro _<;>try simp (disch:=first|assumption|omega) only[S0,rA,rQ,rB,rT,rE,aS,bj,e, *]))
  ·intro bj
   simp (disch:=first|assumption|omega) only[S0,rA,rQ,rB,rT,rE,bj]
 ·have e1:((xs.length:Int)==ys.length)=false:=by simp;omega
  rw[Pau (fun e=>hl e.symm)];simp (disch:=first|assumption|omega) only[S0,rA,rQ,rB,rT,rE,e1]
theorem Ga3 (s t:Int)(xs ys:List Int)(hx:xs.length<=1099511627776):Fun T 141 [i64 s,rL xs,i64 t,rL ys]=some [.bool (decide ((⟨s,xs⟩:bN)=⟨t,ys⟩))]:=by
 rw[aO (t:=Bbt) rfl];unfold Bbt
 have e:decide ((⟨s,xs⟩:bN)=⟨t,ys⟩)=(s==t&&decide (xs=ys)):=by simp[bN.mk.injEq,Xb8]
 rw[e];cases h:s==t
 ·simp (disch:=first|assumption|omega) only[S0,rA,rQ,rB,rT,rE,Ga2,h]
 ·simp (disch:=first|assumption|omega) only[S0,rA,rQ,rB,rT,rE,Ga2,h]
theorem Tao (fX mw k8 eE ga fq fu fk fj:Int)(du:(List Int))(jv mo ky gu jm ir iz iw jb:Int)(ia:(List Int))(hx:du.length<=1099511627776):Fun T 140 [i64 fX,i64 mw,i64 k8,i64 eE,i64 ga,i64 fq,i64 fu,i64 fk,i64 fj,rL du,i64 jv,i64 mo,i64 ky,i64 gu,i64 jm,i64 ir,i64 iz,i64 iw,i64 jb,rL ia]=some [.bool (decide ((⟨fX,mw,k8,⟨eE,ga,fq,fu,fk⟩,⟨fj,du⟩⟩:bF)=⟨jv,mo,ky,⟨gu,jm,ir,iz,iw⟩,⟨jb,ia⟩⟩))]:=by
 rw[aO (t:=Bbu) rfl];unfold Bbu
 have e:decide ((⟨fX,mw,k8,⟨eE,ga,fq,fu,fk⟩,⟨fj,du⟩⟩:bF)=⟨jv,mo,ky,⟨gu,jm,ir,iz,iw⟩,⟨jb,ia⟩⟩)=(fX==jv&&(mw==mo&&(k8==ky&&(decide ((⟨eE,ga,fq,fu,fk⟩:kM)=⟨gu,jm,ir,iz,iw⟩)&&decide ((⟨fj,du⟩:bN)=⟨jb,ia⟩))))):=by
  simp only[bF.mk.injEq,Xb8,Bool.decide_and]
 rw[e];cases h1:fX==jv
 ·simp (disch:=first|assumption|omega) only[S0,rA,rQ,rB,rT,rE,h1]
 cases h2:mw==mo
 ·simp (disch:=first|assumption|omega) only[S0,rA,rQ,rB,rT,rE,h1,h2]
 cases h3:k8==ky
 ·simp (disch:=first|assumption|omega) only[S0,rA,rQ,rB,rT,rE,h1,h2,h3]
 cases h4:decide ((⟨eE,ga,fq,fu,fk⟩:kM)=⟨gu,jm,ir,iz,iw⟩)
 ·simp (disch:=first|assumption|omega) only[S0,rA,rQ,rB,rT,rE,h1,h2,h3,mR,h4]
 ·simp (disch:=first|assumption|omega) only[S0,rA,rQ,rB,rT,rE,h1,h2,h3,mR,h4,Ga3]
theorem Oac (xs ys:List bF)(hs:mF xs):Fun T 139 [rL xs,rL ys]=some [.bool (decide (xs=ys))]:=by
 rw[aO (t:=Bbv) rfl];unfold Bbv
 obtain⟨hx,hq⟩:=hs;by_cases hl:ys.length=xs.length
 ·have e1:((xs.length:Int)==ys.length)=true:=by simp[hl]
  have rK:xs.length<=1099511627776:=by omega
  simp (disch:=first|assumption|omega) only[S0,rA,rQ,rB,rT,rE,e1];rw[Vaj 1 xs.length (fun i=>decide (atI xs (i:Int)=atI ys (i:Int))) [.bool false],Ia2 hl.symm]
  ·cases decide (xs=ys)<;>simp (disch:=first|assumption|omega) only[S0,rA,rQ,rB,rT,rE]
  ·intro i hi bj
   have hb:InB xs (i:Int):=aX.2 hi;have gp:InB ys (i:Int):=aX.2 (by omega);have ql:=hq _ (at_mem hi);have oE:(atI xs (i:Int)).attr.deps.length<=1099511627776:=by omega
   (refine aG ?_;repeat' (refine aF ?_ ?_<;>intro _<;>try simp (disch:=first|assumption|omega) only[S0,rA,rQ,rB,rT,rE,aS,bj,Tao, *]))
  ·intro bj
   simp (disch:=first|assumption|omega) only[S0,rA,rQ,rB,rT,rE,bj]
 ·have e1:((xs.length:Int)==ys.length)=false:=by simp;omega
  rw[Pau (fun e=>hl e.symm)];simp (disch:=first|assumption|omega) only[S0,rA,rQ,rB,rT,rE,e1]
theorem Vak (n m:Int)(xs ys:List (List bF))(hs:gF xs):Fun T 138 [i64 n,rL xs,i64 m,rL ys]=some [.bool (decide ((⟨n,xs⟩:aM)=⟨m,ys⟩))]:=by
 rw[aO (t:=Bbw) rfl];unfold Bbw
 obtain⟨hx,hq⟩:=hs;have e:decide ((⟨n,xs⟩:aM)=⟨m,ys⟩)=(n==m&&decide (xs=ys)):=by simp[aM.mk.injEq,Xb8]
 rw[e];cases hn:n==m
 ·simp (disch:=first|assumption|omega) only[S0,rA,rQ,rB,rT,rE,hn]
 by_cases hl:ys.length=xs.length
 ·have e1:((xs.length:Int)==ys.length)=true:=by simp[hl]
  simp (disch:=first|assumption|omega) only[S0,rA,rQ,rB,rT,rE,hn,e1];rw[Vaj 1 xs.length (fun i=>decide (atI xs (i:Int)=atI ys (i:Int))) [.bool false],Ia2 hl.symm]
  ·cases decide (xs=ys)<;>simp (disch:=first|assumption|omega) only[S0,rA,rQ,rB,rT,rE]
  ·intro i hi bj
   have hb:InB xs (i:Int):=aX.2 hi;have gp:InB ys (i:Int):=aX.2 (by omega);have ql:=hq _ (at_mem hi)
   (refine aG ?_;repeat' (refine aF ?_ ?_<;>intro _<;>try simp (disch:=first|assumption|omega) only[S0,rA,rQ,rB,rT,rE,aS,bj,Oac, *]))
  ·intro bj
   simp (disch:=first|assumption|omega) only[S0,rA,rQ,rB,rT,rE,bj]
 ·have e1:((xs.length:Int)==ys.length)=false:=by simp;omega
  rw[Pau (fun e=>hl e.symm)];simp (disch:=first|assumption|omega) only[S0,rA,rQ,rB,rT,rE,hn,e1]
theorem Oa2 (x y:fC)(hx:x.attr.deps.length<=1099511627776)(hy:y.attr.deps.length<=1099511627776):Fun T 145 [i64 x.kind,i64 x.src,i64 x.dst,i64 x.rep,i64 x.no,i64 x.ballot,i64 x.vote,i64 x.state,i64 x.cmd.kind,i64 x.cmd.id,i64 x.cmd.src,i64 x.cmd.dst,i64 x.cmd.amt,i64 x.attr.seq,rL x.attr.deps,i64 y.kind,i64 y.src,i64 y.dst,i64 y.rep,i64 y.no,i64 y.ballot,i64 y.vote,i64 y.state,i64 y.cmd.kind,i64 y.cmd.id,i64 y.cmd.src,i64 y.cmd.dst,i64 y.cmd.amt,i64 y.attr.seq,rL y.attr.deps]=some [.bool (Tap x y)]:=by
 rw[aO (t:=Bbp) rfl];unfold Bbp
 unfold Tap
 (refine aG ?_;repeat' (refine aF ?_ ?_<;>intro _<;>try simp (disch:=first|assumption|omega) only[S0,rA,rQ,rB,rT,rE,mR,Ga3, *]))
theorem Ca3 (code:D)(hc:isBytes code)(n a s:Int)(hn:0<=n)(rz:n<=10)(h0:0<=a)(h1:a<=576460752303423488):∃ (x:bN) (a' s':Int),Fun T 56 [i64 n,code,i64 a,u64 s]=some [i64 x.seq,rL x.deps,code,i64 a',u64 s']/\x.deps.length<=20/\a<=a'/\a'<=a+40:=by
 rw[aO (t:=Nbb) rfl];unfold Nbb
 obtain⟨v1,a4,s4,e1,p1,q1,g1,k1⟩:=bA code hc 5 a s h0 (by omega);simp (disch:=first|assumption|omega) only[S0,rA,rQ,rB,rT,rE,e1];generalize hE:Er T (Tm.loop _ _) _=E
 have key:∃ q,E=some q/\∃ (ds:List Int) (a' s':Int),q=(.yield 1,[code,i64 a',u64 s',rL ds])/\(ds.length:Int)=n/\a<=a'/\a'<=a+30:=by
  rw[<- hE];refine Yap (γ:=Nat×Int×Int×List Int) (fun c=>n.toNat-c.1) (fun c=>(c.1:Int)<=n/\c.2.2.2.length=c.1/\a4<=c.2.1/\c.2.1<=a4+2*c.1) (fun c=>[i64 c.1,code,i64 c.2.1,u64 c.2.2.1,rL c.2.2.2]) _ (0,a4,s4,[]) rfl (by simp;omega) ?_
  rintro⟨i,a5,s5,ds⟩ ⟨h2,h3,h4,h5⟩
  simp only at h2 h3 h4 h5;by_cases hi:(i:Int)<n
  ·have d:decide ((i:Int)<n)=true:=by simpa using hi
   obtain⟨v6,a6,s6,e6,p6,q6,g6,k6⟩:=bA code hc 4 a5 s5 (by omega) (by omega);have z:ds.length+([v6]:List Int).length<=100000000000:=by simp only[Wbb,Wbp];omega
   refine .inl ⟨(i+1,a6,s6,ds++[v6]),?_,⟨by simp only;omega,by simp[h3],by simp only;omega,by simp only;omega⟩,by simp only;omega⟩;simp (disch:=first|assumption|omega) only[S0,rA,rQ,rB,rT,rE,d,e6,jH,kU]
  ·have d:decide ((i:Int)<n)=false:=by simpa using hi
   refine .inr ⟨(.yield 1,[code,i64 a5,u64 s5,rL ds]),?_,by simp,ds,a5,s5,rfl,by omega,by omega,by omega⟩;simp (disch:=first|assumption|omega) only[S0,rA,rQ,rB,rT,rE,d]
 obtain⟨q,rfl,ds,a5,s5,rfl,h2,h3,h4⟩:=key;obtain⟨v6,a6,s6,e6,p6,q6,g6,k6⟩:=bA code hc 30 a5 s5 (by omega) (by omega);cases c0:v6==0
 rotate_left
 ·obtain⟨v7,a7,s7,e7,p7,g7,k7⟩:=mM code hc [-1,999,1000] a6 s6 (by simp) (by simp) (by omega) (by omega)
  simp (disch:=first|assumption|omega) only[S0,rA,rQ,rB,rT,rE,e6,c0,jH,e7];exact⟨⟨v7,ds⟩,_,_,rfl,by simp only;omega,by omega,by omega⟩
 cases c1:v6==1
 rotate_left
 ·by_cases hz:0<n
  ·have d:decide (0<n)=true:=by simpa using hz
   obtain⟨v7,a7,s7,e7,p7,g7,k7⟩:=mM code hc [-1,6,7] a6 s6 (by simp) (by simp) (by omega) (by omega);have hb:InB ds 0:=by unfold InB;omega
   simp (disch:=first|assumption|omega) only[S0,rA,rQ,rB,rT,rE,e6,c0,c1,d,jH,e7,Faw];exact⟨⟨v1,jF ds 0 v7⟩,_,_,rfl,by simp only[nJ];omega,by omega,by omega⟩
  ·have d:decide (0<n)=false:=by simpa using hz
   simp (disch:=first|assumption|omega) only[S0,rA,rQ,rB,rT,rE,e6,c0,c1,d];exact⟨⟨v1,ds⟩,_,_,rfl,by simp only;omega,by omega,by omega⟩
 cases c2:v6==2
 ·simp (disch:=first|assumption|omega) only[S0,rA,rQ,rB,rT,rE,e6,c0,c1,c2]
  exact⟨⟨v1,ds⟩,_,_,rfl,by simp only;omega,by omega,by omega⟩
 ·have z:ds.length+([1]:List Int).length<=100000000000:=by simp only[Wbb,Wbp];omega
  simp (disch:=first|assumption|omega) only[S0,rA,rQ,rB,rT,rE,e6,c0,c1,c2,jH,kU];exact⟨⟨v1,ds++[1]⟩,_,_,rfl,by simp only[Vbw,Wbb,Wbp];omega,by omega,by omega⟩
theorem Hbp (code:D)(hc:isBytes code)(n a s:Int)(hn:0<=n)(rz:n<=5)(h0:0<=a)(h1:a<=100000000):∃ (m:fC) (a' s':Int),Fun T 55 [i64 n,code,i64 a,u64 s]=some [i64 m.kind,i64 m.src,i64 m.dst,i64 m.rep,i64 m.no,i64 m.ballot,i64 m.vote,i64 m.state,i64 m.cmd.kind,i64 m.cmd.id,i64 m.cmd.src,i64 m.cmd.dst,i64 m.cmd.amt,i64 m.attr.seq,rL m.attr.deps,code,i64 a',u64 s']/\m.attr.deps.length<=20/\a<=a'/\a'<=a+400:=by
 rw[aO (t:=Nbc) rfl];unfold Nbc
 obtain⟨v1,a1,s1,e1,p1,q1,g1,j1⟩:=bA code hc 7 a s h0 (by omega);obtain⟨v2,a2,s2,e2,p2,q2,g2,j2⟩:=bA code hc 3 a1 s1 (by omega) (by omega);obtain⟨v3,a3,s3,e3,p3,q3,g3,j3⟩:=bA code hc 3 a2 s2 (by omega) (by omega);obtain⟨v4,a4,s4,e4,p4,q4,g4,j4⟩:=bA code hc 3 a3 s3 (by omega) (by omega);obtain⟨v5,a5,s5,e5,p5,g5,j5⟩:=mM code hc [0,0,8,9,17] a4 s4 (by simp) (by simp) (by omega) (by omega);obtain⟨v6,a6,s6,e6,p6,q6,g6,j6⟩:=bA code hc 2 a5 s5 (by omega) (by omega);have q1':=q1 (by omega);have q2':=q2 (by omega);have q4':=q4 (by omega);have q6':=q6 (by omega)
 have em:Fun T 39 [i64 n,i64 0]=some [i64 n]:=by
  rw[pV,show max n 0=n by omega]
 have e0:=lZ n hn (by omega);have nc:(Wba n.toNat (0:Int)).length<=20:=by rw[Wb1];omega
 have er:=yF (a:=v2+1+v6) (b:=3) (by omega) (by omega)
 rcases (show v1=0\/v1=1\/v1=2\/v1=3\/v1=4\/v1=5\/v1=6 by omega) with rfl|rfl|rfl|rfl|rfl|rfl|rfl
 ·have k1:((1+0:Int)==1)=true:=rfl
  have k3:((1+0:Int)==3)=false:=rfl;have k5:((1+0:Int)==5)=false:=rfl;have k2:((1+0:Int)==2)=false:=rfl;have k7:((1+0:Int)==7)=false:=rfl;obtain⟨c,a7,s7,e7,-,-,g7,j7⟩:=Eaa code hc a6 s6 (by omega) (by omega);obtain⟨x,a8,s8,e8,x1,g8,j8⟩:=Ca3 code hc n a7 s7 hn (by omega) (by omega) (by omega);obtain⟨y,b1,r1,f1,y1,y2,y3,y4⟩:=bA code hc 40 a8 s8 (by omega) (by omega);cases c0:y==0
  rotate_left
  ·simp (disch:=first|assumption|omega) only[S0,rA,rQ,rB,rT,rE,e1,e2,e3,e4,jH,e5,em,e0,e6,er,k1,k3,k5,k2,k7,e7,e8,f1,c0]
   exact⟨⟨_,_,_,_,_,_,_,_,⟨_,_,_,_,_⟩,⟨_,_⟩⟩,_,_,rfl,by first|assumption|(simp only;omega),by omega,by omega⟩
  cases c1:y==1
  rotate_left
  ·obtain⟨z,b2,r2,f2,z1,z2,z3,z4⟩:=bA code hc 5 b1 r1 (by omega) (by omega)
   simp (disch:=first|assumption|omega) only[S0,rA,rQ,rB,rT,rE,e1,e2,e3,e4,jH,e5,em,e0,e6,er,k1,k3,k5,k2,k7,e7,e8,f1,c0,c1,f2];exact⟨⟨_,_,_,_,_,_,_,_,⟨_,_,_,_,_⟩,⟨_,_⟩⟩,_,_,rfl,by first|assumption|(simp only;omega),by omega,by omega⟩
  cases c2:y==2
  ·simp (disch:=first|assumption|omega) only[S0,rA,rQ,rB,rT,rE,e1,e2,e3,e4,jH,e5,em,e0,e6,er,k1,k3,k5,k2,k7,e7,e8,f1,c0,c1,c2]
   exact⟨⟨_,_,_,_,_,_,_,_,⟨_,_,_,_,_⟩,⟨_,_⟩⟩,_,_,rfl,by first|assumption|(simp only;omega),by omega,by omega⟩
  ·obtain⟨z,b2,r2,f2,z3,z4⟩:=kF code hc b1 r1 (by omega) (by omega)
   simp (disch:=first|assumption|omega) only[S0,rA,rQ,rB,rT,rE,e1,e2,e3,e4,jH,e5,em,e0,e6,er,k1,k3,k5,k2,k7,e7,e8,f1,c0,c1,c2,f2];exact⟨⟨_,_,_,_,_,_,_,_,⟨_,_,_,_,_⟩,⟨_,_⟩⟩,_,_,rfl,by first|assumption|(simp only;omega),by omega,by omega⟩
 ·have k1:((1+1:Int)==1)=false:=rfl
  have k3:((1+1:Int)==3)=false:=rfl;have k5:((1+1:Int)==5)=false:=rfl;have k2:((1+1:Int)==2)=true:=rfl;have k7:((1+1:Int)==7)=false:=rfl;obtain⟨x,a8,s8,e8,x1,g8,j8⟩:=Ca3 code hc n a6 s6 hn (by omega) (by omega) (by omega);obtain⟨y,b1,r1,f1,y1,y2,y3,y4⟩:=bA code hc 40 a8 s8 (by omega) (by omega);cases c0:y==0
  rotate_left
  ·simp (disch:=first|assumption|omega) only[S0,rA,rQ,rB,rT,rE,e1,e2,e3,e4,jH,e5,em,e0,e6,er,k1,k3,k5,k2,k7,e8,f1,c0]
   exact⟨⟨_,_,_,_,_,_,_,_,⟨_,_,_,_,_⟩,⟨_,_⟩⟩,_,_,rfl,by first|assumption|(simp only;omega),by omega,by omega⟩
  cases c1:y==1
  rotate_left
  ·obtain⟨z,b2,r2,f2,z1,z2,z3,z4⟩:=bA code hc 5 b1 r1 (by omega) (by omega)
   simp (disch:=first|assumption|omega) only[S0,rA,rQ,rB,rT,rE,e1,e2,e3,e4,jH,e5,em,e0,e6,er,k1,k3,k5,k2,k7,e8,f1,c0,c1,f2];exact⟨⟨_,_,_,_,_,_,_,_,⟨_,_,_,_,_⟩,⟨_,_⟩⟩,_,_,rfl,by first|assumption|(simp only;omega),by omega,by omega⟩
  cases c2:y==2
  ·simp (disch:=first|assumption|omega) only[S0,rA,rQ,rB,rT,rE,e1,e2,e3,e4,jH,e5,em,e0,e6,er,k1,k3,k5,k2,k7,e8,f1,c0,c1,c2]
   exact⟨⟨_,_,_,_,_,_,_,_,⟨_,_,_,_,_⟩,⟨_,_⟩⟩,_,_,rfl,by first|assumption|(simp only;omega),by omega,by omega⟩
  ·obtain⟨z,b2,r2,f2,z3,z4⟩:=kF code hc b1 r1 (by omega) (by omega)
   simp (disch:=first|assumption|omega) only[S0,rA,rQ,rB,rT,rE,e1,e2,e3,e4,jH,e5,em,e0,e6,er,k1,k3,k5,k2,k7,e8,f1,c0,c1,c2,f2];exact⟨⟨_,_,_,_,_,_,_,_,⟨_,_,_,_,_⟩,⟨_,_⟩⟩,_,_,rfl,by first|assumption|(simp only;omega),by omega,by omega⟩
 ·have k1:((1+2:Int)==1)=false:=rfl
  have k3:((1+2:Int)==3)=true:=rfl;have k5:((1+2:Int)==5)=false:=rfl;have k2:((1+2:Int)==2)=false:=rfl;have k7:((1+2:Int)==7)=false:=rfl;obtain⟨c,a7,s7,e7,-,-,g7,j7⟩:=Eaa code hc a6 s6 (by omega) (by omega);obtain⟨x,a8,s8,e8,x1,g8,j8⟩:=Ca3 code hc n a7 s7 hn (by omega) (by omega) (by omega);obtain⟨y,b1,r1,f1,y1,y2,y3,y4⟩:=bA code hc 40 a8 s8 (by omega) (by omega);cases c0:y==0
  rotate_left
  ·simp (disch:=first|assumption|omega) only[S0,rA,rQ,rB,rT,rE,e1,e2,e3,e4,jH,e5,em,e0,e6,er,k1,k3,k5,k2,k7,e7,e8,f1,c0]
   exact⟨⟨_,_,_,_,_,_,_,_,⟨_,_,_,_,_⟩,⟨_,_⟩⟩,_,_,rfl,by first|assumption|(simp only;omega),by omega,by omega⟩
  cases c1:y==1
  rotate_left
  ·obtain⟨z,b2,r2,f2,z1,z2,z3,z4⟩:=bA code hc 5 b1 r1 (by omega) (by omega)
   simp (disch:=first|assumption|omega) only[S0,rA,rQ,rB,rT,rE,e1,e2,e3,e4,jH,e5,em,e0,e6,er,k1,k3,k5,k2,k7,e7,e8,f1,c0,c1,f2];exact⟨⟨_,_,_,_,_,_,_,_,⟨_,_,_,_,_⟩,⟨_,_⟩⟩,_,_,rfl,by first|assumption|(simp only;omega),by omega,by omega⟩
  cases c2:y==2
  ·simp (disch:=first|assumption|omega) only[S0,rA,rQ,rB,rT,rE,e1,e2,e3,e4,jH,e5,em,e0,e6,er,k1,k3,k5,k2,k7,e7,e8,f1,c0,c1,c2]
   exact⟨⟨_,_,_,_,_,_,_,_,⟨_,_,_,_,_⟩,⟨_,_⟩⟩,_,_,rfl,by first|assumption|(simp only;omega),by omega,by omega⟩
  ·obtain⟨z,b2,r2,f2,z3,z4⟩:=kF code hc b1 r1 (by omega) (by omega)
   simp (disch:=first|assumption|omega) only[S0,rA,rQ,rB,rT,rE,e1,e2,e3,e4,jH,e5,em,e0,e6,er,k1,k3,k5,k2,k7,e7,e8,f1,c0,c1,c2,f2];exact⟨⟨_,_,_,_,_,_,_,_,⟨_,_,_,_,_⟩,⟨_,_⟩⟩,_,_,rfl,by first|assumption|(simp only;omega),by omega,by omega⟩
 ·have k1:((1+3:Int)==1)=false:=rfl
  have k3:((1+3:Int)==3)=false:=rfl;have k5:((1+3:Int)==5)=false:=rfl;have k2:((1+3:Int)==2)=false:=rfl;have k7:((1+3:Int)==7)=false:=rfl;obtain⟨y,b1,r1,f1,y1,y2,y3,y4⟩:=bA code hc 40 a6 s6 (by omega) (by omega);cases c0:y==0
  rotate_left
  ·simp (disch:=first|assumption|omega) only[S0,rA,rQ,rB,rT,rE,e1,e2,e3,e4,jH,e5,em,e0,e6,er,k1,k3,k5,k2,k7,f1,c0]
   exact⟨⟨_,_,_,_,_,_,_,_,⟨_,_,_,_,_⟩,⟨_,_⟩⟩,_,_,rfl,by first|assumption|(simp only;omega),by omega,by omega⟩
  cases c1:y==1
  rotate_left
  ·obtain⟨z,b2,r2,f2,z1,z2,z3,z4⟩:=bA code hc 5 b1 r1 (by omega) (by omega)
   simp (disch:=first|assumption|omega) only[S0,rA,rQ,rB,rT,rE,e1,e2,e3,e4,jH,e5,em,e0,e6,er,k1,k3,k5,k2,k7,f1,c0,c1,f2];exact⟨⟨_,_,_,_,_,_,_,_,⟨_,_,_,_,_⟩,⟨_,_⟩⟩,_,_,rfl,by first|assumption|(simp only;omega),by omega,by omega⟩
  cases c2:y==2
  ·simp (disch:=first|assumption|omega) only[S0,rA,rQ,rB,rT,rE,e1,e2,e3,e4,jH,e5,em,e0,e6,er,k1,k3,k5,k2,k7,f1,c0,c1,c2]
   exact⟨⟨_,_,_,_,_,_,_,_,⟨_,_,_,_,_⟩,⟨_,_⟩⟩,_,_,rfl,by first|assumption|(simp only;omega),by omega,by omega⟩
  ·obtain⟨z,b2,r2,f2,z3,z4⟩:=kF code hc b1 r1 (by omega) (by omega)
   simp (disch:=first|assumption|omega) only[S0,rA,rQ,rB,rT,rE,e1,e2,e3,e4,jH,e5,em,e0,e6,er,k1,k3,k5,k2,k7,f1,c0,c1,c2,f2];exact⟨⟨_,_,_,_,_,_,_,_,⟨_,_,_,_,_⟩,⟨_,_⟩⟩,_,_,rfl,by first|assumption|(simp only;omega),by omega,by omega⟩
 ·have k1:((1+4:Int)==1)=false:=rfl
  have k3:((1+4:Int)==3)=false:=rfl;have k5:((1+4:Int)==5)=true:=rfl;have k2:((1+4:Int)==2)=false:=rfl;have k7:((1+4:Int)==7)=false:=rfl;obtain⟨c,a7,s7,e7,-,-,g7,j7⟩:=Eaa code hc a6 s6 (by omega) (by omega);obtain⟨x,a8,s8,e8,x1,g8,j8⟩:=Ca3 code hc n a7 s7 hn (by omega) (by omega) (by omega);obtain⟨y,b1,r1,f1,y1,y2,y3,y4⟩:=bA code hc 40 a8 s8 (by omega) (by omega);cases c0:y==0
  rotate_left
  ·simp (disch:=first|assumption|omega) only[S0,rA,rQ,rB,rT,rE,e1,e2,e3,e4,jH,e5,em,e0,e6,er,k1,k3,k5,k2,k7,e7,e8,f1,c0]
   exact⟨⟨_,_,_,_,_,_,_,_,⟨_,_,_,_,_⟩,⟨_,_⟩⟩,_,_,rfl,by first|assumption|(simp only;omega),by omega,by omega⟩
  cases c1:y==1
  rotate_left
  ·obtain⟨z,b2,r2,f2,z1,z2,z3,z4⟩:=bA code hc 5 b1 r1 (by omega) (by omega)
   simp (disch:=first|assumption|omega) only[S0,rA,rQ,rB,rT,rE,e1,e2,e3,e4,jH,e5,em,e0,e6,er,k1,k3,k5,k2,k7,e7,e8,f1,c0,c1,f2];exact⟨⟨_,_,_,_,_,_,_,_,⟨_,_,_,_,_⟩,⟨_,_⟩⟩,_,_,rfl,by first|assumption|(simp only;omega),by omega,by omega⟩
  cases c2:y==2
  ·simp (disch:=first|assumption|omega) only[S0,rA,rQ,rB,rT,rE,e1,e2,e3,e4,jH,e5,em,e0,e6,er,k1,k3,k5,k2,k7,e7,e8,f1,c0,c1,c2]
   exact⟨⟨_,_,_,_,_,_,_,_,⟨_,_,_,_,_⟩,⟨_,_⟩⟩,_,_,rfl,by first|assumption|(simp only;omega),by omega,by omega⟩
  ·obtain⟨z,b2,r2,f2,z3,z4⟩:=kF code hc b1 r1 (by omega) (by omega)
   simp (disch:=first|assumption|omega) only[S0,rA,rQ,rB,rT,rE,e1,e2,e3,e4,jH,e5,em,e0,e6,er,k1,k3,k5,k2,k7,e7,e8,f1,c0,c1,c2,f2];exact⟨⟨_,_,_,_,_,_,_,_,⟨_,_,_,_,_⟩,⟨_,_⟩⟩,_,_,rfl,by first|assumption|(simp only;omega),by omega,by omega⟩
 ·have k1:((1+5:Int)==1)=false:=rfl
  have k3:((1+5:Int)==3)=false:=rfl;have k5:((1+5:Int)==5)=false:=rfl;have k2:((1+5:Int)==2)=false:=rfl;have k7:((1+5:Int)==7)=false:=rfl;obtain⟨y,b1,r1,f1,y1,y2,y3,y4⟩:=bA code hc 40 a6 s6 (by omega) (by omega);cases c0:y==0
  rotate_left
  ·simp (disch:=first|assumption|omega) only[S0,rA,rQ,rB,rT,rE,e1,e2,e3,e4,jH,e5,em,e0,e6,er,k1,k3,k5,k2,k7,f1,c0]
   exact⟨⟨_,_,_,_,_,_,_,_,⟨_,_,_,_,_⟩,⟨_,_⟩⟩,_,_,rfl,by first|assumption|(simp only;omega),by omega,by omega⟩
  cases c1:y==1
  rotate_left
  ·obtain⟨z,b2,r2,f2,z1,z2,z3,z4⟩:=bA code hc 5 b1 r1 (by omega) (by omega)
   simp (disch:=first|assumption|omega) only[S0,rA,rQ,rB,rT,rE,e1,e2,e3,e4,jH,e5,em,e0,e6,er,k1,k3,k5,k2,k7,f1,c0,c1,f2];exact⟨⟨_,_,_,_,_,_,_,_,⟨_,_,_,_,_⟩,⟨_,_⟩⟩,_,_,rfl,by first|assumption|(simp only;omega),by omega,by omega⟩
  cases c2:y==2
  ·simp (disch:=first|assumption|omega) only[S0,rA,rQ,rB,rT,rE,e1,e2,e3,e4,jH,e5,em,e0,e6,er,k1,k3,k5,k2,k7,f1,c0,c1,c2]
   exact⟨⟨_,_,_,_,_,_,_,_,⟨_,_,_,_,_⟩,⟨_,_⟩⟩,_,_,rfl,by first|assumption|(simp only;omega),by omega,by omega⟩
  ·obtain⟨z,b2,r2,f2,z3,z4⟩:=kF code hc b1 r1 (by omega) (by omega)
   simp (disch:=first|assumption|omega) only[S0,rA,rQ,rB,rT,rE,e1,e2,e3,e4,jH,e5,em,e0,e6,er,k1,k3,k5,k2,k7,f1,c0,c1,c2,f2];exact⟨⟨_,_,_,_,_,_,_,_,⟨_,_,_,_,_⟩,⟨_,_⟩⟩,_,_,rfl,by first|assumption|(simp only;omega),by omega,by omega⟩
 ·have k1:((1+6:Int)==1)=false:=rfl
  have k3:((1+6:Int)==3)=false:=rfl;have k5:((1+6:Int)==5)=false:=rfl;have k2:((1+6:Int)==2)=false:=rfl;have k7:((1+6:Int)==7)=true:=rfl;obtain⟨x,a8,s8,e8,x1,g8,j8⟩:=Za2 code hc n a6 s6 hn (by omega) (by omega) (by omega);have x2:x.attr.deps.length<=20:=by omega
  cases st:x.state==3
  ·obtain⟨y,b1,r1,f1,y1,y2,y3,y4⟩:=bA code hc 40 a8 s8 (by omega) (by omega)
   cases c0:y==0
   rotate_left
   ·simp (disch:=first|assumption|omega) only[S0,rA,rQ,rB,rT,rE,e1,e2,e3,e4,jH,e5,em,e0,e6,er,k1,k3,k5,k2,k7,e8,st,f1,c0]
    exact⟨⟨_,_,_,_,_,_,_,_,⟨_,_,_,_,_⟩,⟨_,_⟩⟩,_,_,rfl,by first|assumption|(simp only;omega),by omega,by omega⟩
   cases c1:y==1
   rotate_left
   ·obtain⟨z,b2,r2,f2,z1,z2,z3,z4⟩:=bA code hc 5 b1 r1 (by omega) (by omega)
    simp (disch:=first|assumption|omega) only[S0,rA,rQ,rB,rT,rE,e1,e2,e3,e4,jH,e5,em,e0,e6,er,k1,k3,k5,k2,k7,e8,st,f1,c0,c1,f2];exact⟨⟨_,_,_,_,_,_,_,_,⟨_,_,_,_,_⟩,⟨_,_⟩⟩,_,_,rfl,by first|assumption|(simp only;omega),by omega,by omega⟩
   cases c2:y==2
   ·simp (disch:=first|assumption|omega) only[S0,rA,rQ,rB,rT,rE,e1,e2,e3,e4,jH,e5,em,e0,e6,er,k1,k3,k5,k2,k7,e8,st,f1,c0,c1,c2]
    exact⟨⟨_,_,_,_,_,_,_,_,⟨_,_,_,_,_⟩,⟨_,_⟩⟩,_,_,rfl,by first|assumption|(simp only;omega),by omega,by omega⟩
   ·obtain⟨z,b2,r2,f2,z3,z4⟩:=kF code hc b1 r1 (by omega) (by omega)
    simp (disch:=first|assumption|omega) only[S0,rA,rQ,rB,rT,rE,e1,e2,e3,e4,jH,e5,em,e0,e6,er,k1,k3,k5,k2,k7,e8,st,f1,c0,c1,c2,f2];exact⟨⟨_,_,_,_,_,_,_,_,⟨_,_,_,_,_⟩,⟨_,_⟩⟩,_,_,rfl,by first|assumption|(simp only;omega),by omega,by omega⟩
  ·obtain⟨y,b1,r1,f1,y1,y2,y3,y4⟩:=bA code hc 40 a8 s8 (by omega) (by omega)
   cases c0:y==0
   rotate_left
   ·simp (disch:=first|assumption|omega) only[S0,rA,rQ,rB,rT,rE,e1,e2,e3,e4,jH,e5,em,e0,e6,er,k1,k3,k5,k2,k7,e8,st,f1,c0]
    exact⟨⟨_,_,_,_,_,_,_,_,⟨_,_,_,_,_⟩,⟨_,_⟩⟩,_,_,rfl,by first|assumption|(simp only;omega),by omega,by omega⟩
   cases c1:y==1
   rotate_left
   ·obtain⟨z,b2,r2,f2,z1,z2,z3,z4⟩:=bA code hc 5 b1 r1 (by omega) (by omega)
    simp (disch:=first|assumption|omega) only[S0,rA,rQ,rB,rT,rE,e1,e2,e3,e4,jH,e5,em,e0,e6,er,k1,k3,k5,k2,k7,e8,st,f1,c0,c1,f2];exact⟨⟨_,_,_,_,_,_,_,_,⟨_,_,_,_,_⟩,⟨_,_⟩⟩,_,_,rfl,by first|assumption|(simp only;omega),by omega,by omega⟩
   cases c2:y==2
   ·simp (disch:=first|assumption|omega) only[S0,rA,rQ,rB,rT,rE,e1,e2,e3,e4,jH,e5,em,e0,e6,er,k1,k3,k5,k2,k7,e8,st,f1,c0,c1,c2]
    exact⟨⟨_,_,_,_,_,_,_,_,⟨_,_,_,_,_⟩,⟨_,_⟩⟩,_,_,rfl,by first|assumption|(simp only;omega),by omega,by omega⟩
   ·obtain⟨z,b2,r2,f2,z3,z4⟩:=kF code hc b1 r1 (by omega) (by omega)
    simp (disch:=first|assumption|omega) only[S0,rA,rQ,rB,rT,rE,e1,e2,e3,e4,jH,e5,em,e0,e6,er,k1,k3,k5,k2,k7,e8,st,f1,c0,c1,c2,f2];exact⟨⟨_,_,_,_,_,_,_,_,⟨_,_,_,_,_⟩,⟨_,_⟩⟩,_,_,rfl,by first|assumption|(simp only;omega),by omega,by omega⟩
theorem kZ (n:Int)(rows:List (List bF))(bf cm bo bn bm:Int)(rep no:Int)(sa:0<=n)(om:n<=1000)(hl:(rows.length:Int)<=n)(hs:gF rows)(hc:iZ ⟨bf,cm,bo,bn,bm⟩=true)(hr:∀ l∈rows,∀ r∈l,iZ r.cmd=true/\r.attr.seq<=1000000):Fun T 35 [i64 n,rL rows,i64 bf,i64 cm,i64 bo,i64 bn,i64 bm,i64 rep,i64 no]=some [i64 (zC ⟨n,rows⟩ ⟨bf,cm,bo,bn,bm⟩ rep no).seq,rL (zC ⟨n,rows⟩ ⟨bf,cm,bo,bn,bm⟩ rep no).deps]:=by
 rw[aO (t:=Nbv) rfl];unfold Nbv;unfold zC
 have hq:∀ l∈rows,∀ r∈l,r.attr.seq<=1000000:=fun l h r h2=>(hr l h r h2).2
 have hK:=fun k hk=>Iav (t:=⟨n,rows⟩) (c:=⟨bf,cm,bo,bn,bm⟩) (rep:=rep) (no:=no) (M:=1000000) (by omega) k hk hq
 have fN:=hK rows.length (Vb6 _);simp only at fN hK;generalize hC:(⟨bf,cm,bo,bn,bm⟩:kM)=C at hc hK fN ⊢;have e0:=lZ n sa om;simp (disch:=first|assumption|omega) only[S0,rA,rQ,rB,rT,rE,e0];rw[rX rows.length (fun k=>[i64 k,i64 (zF ⟨n,rows⟩ C rep no k).seq,rL (zF ⟨n,rows⟩ C rep no k).deps]) (.yield 1,[i64 (zF ⟨n,rows⟩ C rep no rows.length).seq,rL (zF ⟨n,rows⟩ C rep no rows.length).deps]) rfl (by simp)]
 ·simp (disch:=first|assumption|omega) only[S0,rA,rQ,rB,rT,rE]
 ·intro k hk bj
  have wA:InB rows (k:Int):=aX.2 hk;have oo:=(hs.2 _ (at_mem hk)).1;have pw:=hr _ (at_mem hk);obtain⟨a1,a2,a3⟩:=hK k (by omega);have eS:zF ⟨n,rows⟩ C rep no (k+1)=uZ C rep no k (atI rows (k:Int)) (zF ⟨n,rows⟩ C rep no k) (atI rows (k:Int)).length:=rfl;rw[eS];generalize hL:atI rows (k:Int)=L at oo pw ⊢;generalize zF ⟨n,rows⟩ C rep no k=A at a1 a2 a3 ⊢;have hI:=fun i hi=>Iaw (c:=C) (rep:=rep) (no:=no) (k:=k) (l:=L) (M:=1000000) a2 a3 i hi (fun r h=>(pw r h).2)
  simp (disch:=first|assumption|omega) only[S0,rA,rQ,rB,rT,rE,aS,bj,hL];rw[rX L.length (fun i=>[i64 i,i64 (uZ C rep no k L A i).seq,rL (uZ C rep no k L A i).deps]) (.yield 3,[i64 (uZ C rep no k L A L.length).seq,rL (uZ C rep no k L A L.length).deps]) rfl (by simp)]
  ·simp (disch:=first|assumption|omega) only[S0,rA,rQ,rB,rT,rE]
  ·intro i hi jg
   have hbi:InB L (i:Int):=aX.2 hi;have ri:=(pw _ (at_mem hi)).1;obtain⟨b1,b2,b3⟩:=hI i (by omega)
   have eI:uZ C rep no k L A (i+1)=if Rah C rep no k i (atI L (i:Int)) then uZ C rep no k L A i
    else ⟨max (uZ C rep no k L A i).seq (atI L (i:Int)).attr.seq,jF (uZ C rep no k L A i).deps (k:Int) ((i:Int)+1)⟩:=rfl
   rw[eI];generalize hR:atI L (i:Int)=r at ri ⊢;generalize uZ C rep no k L A i=B at b1 b2 b3 ⊢;have hbb:InB B.deps (k:Int):=by unfold InB;omega
   subst hC;have y9:=Fap bf cm bo bn bm r.cmd.kind r.cmd.id r.cmd.src r.cmd.dst r.cmd.amt hc ri;have eR:(⟨r.cmd.kind,r.cmd.id,r.cmd.src,r.cmd.dst,r.cmd.amt⟩:kM)=r.cmd:=rfl;rw[eR]at y9;unfold Rah;cases c1:(r.state==0)
   rotate_left
   ·simp (disch:=first|assumption|omega) only[S0,rA,rQ,rB,rT,rE,aS,jg,hR,c1,Xbp]
   cases c2:wZ ⟨bf,cm,bo,bn,bm⟩ r.cmd
   ·rw[c2]at y9
    simp (disch:=first|assumption|omega) only[S0,rA,rQ,rB,rT,rE,aS,jg,hR,c1,y9,Vb0,Xbw,Xbp]
   rw[c2]at y9;cases c3:((k:Int)==rep)
   ·simp (disch:=first|assumption|omega) only[S0,rA,rQ,rB,rT,rE,aS,jg,hR,c1,y9,c3,Vbt,Wbi,Ybz,Vbm,Faw,pV]
   cases c4:((i:Int)+1==no)
   ·simp (disch:=first|assumption|omega) only[S0,rA,rQ,rB,rT,rE,aS,jg,hR,c1,y9,c3,c4,Vbt,Wbn,Ybz,Vbm,Faw,pV]
   ·simp (disch:=first|assumption|omega) only[S0,rA,rQ,rB,rT,rE,aS,jg,hR,c1,y9,c3,c4,Vbt,Xbv,Xbw,Vbm]
  ·intro jg
   simp (disch:=first|assumption|omega) only[S0,rA,rQ,rB,rT,rE,jg]
 ·intro bj
  simp (disch:=first|assumption|omega) only[S0,rA,rQ,rB,rT,rE,bj]
theorem xC (ax bb bc az bh au ay aw aj av ar an aq ah:Int)(af:(List Int))(h:af.length<=10000000000):Fun T 135 [i64 ax,i64 bb,i64 bc,i64 az,i64 bh,i64 au,i64 ay,i64 aw,i64 aj,i64 av,i64 ar,i64 an,i64 aq,i64 ah,rL af]=some [i64 ax,i64 bb,i64 bc,i64 az,i64 bh,i64 au,i64 ay,i64 aw,i64 aj,i64 av,i64 ar,i64 an,i64 aq,i64 ah,rL af]:=by
 rw[aO (t:=Bbz) rfl];unfold Bbz
 simp (disch:=first|assumption|omega) only[S0,rA,rQ,rB,rT,rE,oG]
theorem Hat (me n:Int)(rows:List (List bF))(leads:List aN)(out:List fC):Fun T 136 [i64 me,i64 n,rL rows,rL leads,rL out,.bool false]=some [i64 me,i64 n,rL rows,rL leads,rL out,.bool true,i64 me,i64 n,.hole,.hole,.hole,.bool false]:=by
 rw[aO (t:=Bby) rfl];unfold Bby
 simp (disch:=first|assumption|omega) only[S0,rA,rQ,rB,rT,rE]
theorem nU (me n:Int)(rows:List (List bF))(leads:List aN)(hs:gF rows)(h2:iB leads):Fun T 108 [i64 me,i64 n,rL rows,rL leads]=some [i64 me,i64 n,rL rows,rL leads,.rows 15 [],.bool false]:=by
 rw[aO (t:=Cbl) rfl];unfold Cbl
 simp (disch:=first|assumption|omega) only[S0,rA,rQ,rB,rT,rE,Aaq]
theorem jB (cw cL b9 cx bp ca br bt bq bg:Int)(ba:(List Int))(bk:Int)(bd:(List Int))(cF:Bool)(cH:(List Int))(bw:(List bF))(h1:ba.length<=10000000000)(h2:bd.length<=10000000000)(h3:cH.length<=10000000000)(h4:mF bw):Fun T 34 [i64 cw,i64 cL,i64 b9,i64 cx,i64 bp,i64 ca,i64 br,i64 bt,i64 bq,i64 bg,rL ba,i64 bk,rL bd,.bool cF,rL cH,rL bw]=some [i64 cw,i64 cL,i64 b9,i64 cx,i64 bp,i64 ca,i64 br,i64 bt,i64 bq,i64 bg,rL ba,i64 bk,rL bd,.bool cF,rL cH,rL bw]:=by
 rw[aO (t:=Nbw) rfl];unfold Nbw
 obtain⟨ql,oE⟩:=h4;have h0:(.rows 10 []:D)=rL ([]:List bF):=rfl;simp (disch:=first|assumption|omega) only[S0,rA,rQ,rB,rT,rE,fT,Ja9];rw[rX bw.length (fun i=>[rL (bw.take i),i64 i]) (.yield 1,[rL bw]) rfl (by simp)]
 ·simp (disch:=first|assumption|omega) only[S0,rA,rQ,rB,rT,rE]
 ·intro i hi bj
  have hb:InB bw (i:Int):=aX.2 hi;have hd:=oE _ (at_mem hi);have oT:=take_at hi;have ji:(bw.take i).length+([atI bw (i:Int)]:List bF).length<=100000000000:=by rw[Wbh];simp only[Wbb,Wbp];omega
  simp (disch:=first|assumption|omega) only[S0,rA,rQ,rB,rT,rE,aS,jH,kU,oO,bj,oT]
 ·intro bj
  rw[Xbt];simp (disch:=first|assumption|omega) only[S0,rA,rQ,rB,rT,rE,bj]
theorem Ya9 (ax bb bc az bh au ay aw aj av ar an aq ah:Int)(af:(List Int))(dst me n:Int)(rows leads:D)(out:List fC)(bad:Bool)(h0:0<af.length)(h:af.length<=10000000000)(hl:out.length<=10000000000) :
  Fun T 134 [i64 ax,i64 bb,i64 bc,i64 az,i64 bh,i64 au,i64 ay,i64 aw,i64 aj,i64 av,i64 ar,i64 an,i64 aq,i64 ah,rL af,i64 dst,i64 me,i64 n,rows,leads,rL out,.bool bad]=some [i64 me,i64 n,rows,leads,rL (out++[Vah n me ⟨ax,bb,bc,az,bh,au,ay,aw,⟨aj,av,ar,an,aq⟩,⟨ah,af⟩⟩ dst]),.bool bad]:=by
 rw[aO (t:=Uav) rfl];unfold Uav
 have hz:((af.length:Int)==0)=false:=beq_eq_false_iff_ne.2 (by omega)
 have cU:aT.ne.run [rL af]=some []:=by
  cases af with
  |nil=>simp at h0
  |cons x xs=>rfl
 have hem:aT.emp.run [rL af]=some [.bool false]:=by
  cases af with
  |nil=>simp at h0
  |cons x xs=>rfl
 have ji:out.length+([Vah n me ⟨ax,bb,bc,az,bh,au,ay,aw,⟨aj,av,ar,an,aq⟩,⟨ah,af⟩⟩ dst]:List fC).length<=100000000000:=by simp only[Wbb,Wbp];omega
 unfold Vah at ji ⊢;simp only[hz]at ji ⊢;simp (disch:=first|assumption|omega) only[S0,rA,rQ,rB,rT,rE,cU,hem,xC,jH,kU]
theorem iX (ax bb bc az bh au ay aw aj av ar an aq ah:Int)(af:(List Int))(dst me n:Int)(rows leads:D)(out:List fC)(cI:Bool)(h:af.length<=10000000000)(hl:out.length<=10000000000)(hg:bR n=true) :
  Fun T 46 [i64 dst,i64 ax,i64 bb,i64 bc,i64 az,i64 bh,i64 au,i64 ay,i64 aw,i64 aj,i64 av,i64 ar,i64 an,i64 aq,i64 ah,rL af,i64 me,i64 n,rows,leads,rL out,.bool cI]=some [i64 me,i64 n,rows,leads,rL (out++[Vah n me ⟨ax,bb,bc,az,bh,au,ay,aw,⟨aj,av,ar,an,aq⟩,⟨ah,af⟩⟩ dst]),.bool cI]:=by
 rw[aO (t:=Nbk) rfl];unfold Nbk
 have ji:out.length+([Vah n me ⟨ax,bb,bc,az,bh,au,ay,aw,⟨aj,av,ar,an,aq⟩,⟨ah,af⟩⟩ dst]:List fC).length<=100000000000:=by simp only[Wbb,Wbp];omega
 unfold Vah at ji ⊢
 have hr:(none0 n).deps.length<=10000000000:=by
  have:=aL hg;unfold none0;rw[Wb1];omega
 cases hz:((af.length:Int)==0)
 ·simp only[hz]at ji ⊢
  simp (disch:=first|assumption|omega) only[S0,rA,rQ,rB,rT,rE,hz,fT,jH,kU]
 ·simp only[hz,if_true]at ji ⊢
  simp (disch:=first|assumption|omega) only[S0,rA,rQ,rB,rT,rE,hz,iO,fT,jH,kU]
theorem Ea4 (ax bb bc az bh au ay aw aj av ar an aq ah:Int)(af:(List Int))(me n:Int)(rows leads:D)(out:List fC)(bad:Bool)(h0:0<af.length)(h:af.length<=10000000000)(hl:out.length<=1000000000)(hn:0<=n/\n<=5) :
  Fun T 133 [i64 ax,i64 bb,i64 bc,i64 az,i64 bh,i64 au,i64 ay,i64 aw,i64 aj,i64 av,i64 ar,i64 an,i64 aq,i64 ah,rL af,i64 me,i64 n,rows,leads,rL out,.bool bad]=some [i64 me,i64 n,rows,leads,rL (out++vU n me ⟨ax,bb,bc,az,bh,au,ay,aw,⟨aj,av,ar,an,aq⟩,⟨ah,af⟩⟩ n.toNat),.bool bad]:=by
 rw[aO (t:=Uaw) rfl];unfold Uaw
 simp (disch:=first|assumption|omega) only[S0,rA,rQ,rB,rT,rE];rw[rX n.toNat (fun i=>[i64 i,i64 me,i64 n,rows,leads,rL (out++vU n me ⟨ax,bb,bc,az,bh,au,ay,aw,⟨aj,av,ar,an,aq⟩,⟨ah,af⟩⟩ i),.bool bad]) (.yield 1,[i64 me,i64 n,rows,leads,rL (out++vU n me ⟨ax,bb,bc,az,bh,au,ay,aw,⟨aj,av,ar,an,aq⟩,⟨ah,af⟩⟩ n.toNat),.bool bad]) (by rw[show ∀ m,vU n me m 0=[] from fun _=>rfl,Wbo];rfl) (by simp)]
 ·simp (disch:=first|assumption|omega) only[S0,rA,rQ,rB,rT,rE]
 ·intro i hi bj
  have lg:decide ((i:Int)<n)=true:=by simp;omega
  have hal:=vB n me ⟨ax,bb,bc,az,bh,au,ay,aw,⟨aj,av,ar,an,aq⟩,⟨ah,af⟩⟩ i;have mB:(out++vU n me ⟨ax,bb,bc,az,bh,au,ay,aw,⟨aj,av,ar,an,aq⟩,⟨ah,af⟩⟩ i).length<=10000000000:=by rw[Vbw];omega
  rw[xU];cases k1:((i:Int)==me)
  ·simp (disch:=first|assumption|omega) only[S0,rA,rQ,rB,rT,rE,lg,k1,Ya9,Vb0,Vbx]
  ·simp (disch:=first|assumption|omega) only[S0,rA,rQ,rB,rT,rE,lg,k1,Vbt,Wbo]
 ·intro bj
  have lg:decide (((n.toNat:Nat):Int)<n)=false:=by simp;omega
  simp (disch:=first|assumption|omega) only[S0,rA,rQ,rB,rT,rE,lg]
theorem Fa1 (ax bb bc az bh au ay aw aj av ar an aq ah:Int)(af:(List Int))(me n:Int)(rows leads:D)(out:List fC)(cI:Bool)(h:af.length<=10000000000)(hl:out.length<=1000000000)(hg:bR n=true) :
  Fun T 45 [i64 ax,i64 bb,i64 bc,i64 az,i64 bh,i64 au,i64 ay,i64 aw,i64 aj,i64 av,i64 ar,i64 an,i64 aq,i64 ah,rL af,i64 me,i64 n,rows,leads,rL out,.bool cI]=some [i64 me,i64 n,rows,leads,rL (out++vU n me ⟨ax,bb,bc,az,bh,au,ay,aw,⟨aj,av,ar,an,aq⟩,⟨ah,af⟩⟩ n.toNat),.bool cI]:=by
 rw[aO (t:=Nbl) rfl];unfold Nbl
 simp (disch:=first|assumption|omega) only[S0,rA,rQ,rB,rT,rE];have hn:=aL hg;rw[rX n.toNat (fun i=>[i64 i,i64 me,i64 n,rows,leads,rL (out++vU n me ⟨ax,bb,bc,az,bh,au,ay,aw,⟨aj,av,ar,an,aq⟩,⟨ah,af⟩⟩ i),.bool cI]) (.yield 1,[i64 me,i64 n,rows,leads,rL (out++vU n me ⟨ax,bb,bc,az,bh,au,ay,aw,⟨aj,av,ar,an,aq⟩,⟨ah,af⟩⟩ n.toNat),.bool cI]) (by rw[show ∀ m,vU n me m 0=[] from fun _=>rfl,Wbo];rfl) (by simp)]
 ·simp (disch:=first|assumption|omega) only[S0,rA,rQ,rB,rT,rE]
 ·intro i hi bj
  have lg:decide ((i:Int)<n)=true:=by simp;omega
  have hal:=vB n me ⟨ax,bb,bc,az,bh,au,ay,aw,⟨aj,av,ar,an,aq⟩,⟨ah,af⟩⟩ i;have mB:(out++vU n me ⟨ax,bb,bc,az,bh,au,ay,aw,⟨aj,av,ar,an,aq⟩,⟨ah,af⟩⟩ i).length<=10000000000:=by rw[Vbw];omega
  rw[xU];cases k1:((i:Int)==me)
  ·simp (disch:=first|assumption|omega) only[S0,rA,rQ,rB,rT,rE,lg,k1,iX,Vb0,Vbx]
  ·simp (disch:=first|assumption|omega) only[S0,rA,rQ,rB,rT,rE,lg,k1,Vbt,Wbo]
 ·intro bj
  have lg:decide (((n.toNat:Nat):Int)<n)=false:=by simp;omega
  simp (disch:=first|assumption|omega) only[S0,rA,rQ,rB,rT,rE,lg]
theorem Aap (cw cL b9 cx bp ca br bt bq bg:Int)(ba:(List Int))(bk:Int)(bd:(List Int))(cF:Bool)(cH:(List Int))(bw:(List bF))(a b:Int):Fun T 130 [i64 cw,i64 cL,i64 b9,i64 cx,i64 bp,i64 ca,i64 br,i64 bt,i64 bq,i64 bg,rL ba,i64 bk,rL bd,.bool cF,rL cH,rL bw,rL [a,b]]=some [i64 (Ebl [cw,cL] [a,b])]:=by
 rw[aO (t:=Bb0) rfl];unfold Bb0
 have z:(aT.mk 1 2).run [i64 cw,i64 cL]=some [rL ([cw,cL]:List Int)]:=rfl;have h1:([cw,cL]:List Int).length<=1099511627776:=by simp
 have h2:([a,b]:List Int).length<=1099511627776:=by simp
 simp (disch:=first|assumption|omega) only[S0,rA,rQ,rB,rT,rE,z,qX]
theorem Fat (ls:List aN)(a b:Int)(hl:ls.length<=10000000000)(hs:qQ ls) :
  Fun T 129 [rL ls,rL [a,b]]=some [i64 (lS (a,b) ls:Nat),.bool (Haw (a,b) ls)]:=by
 rw[aO (t:=Bb1) rfl];unfold Bb1
 have hc:=Da9 (a,b) ls
 have gm:∀ {j:Nat} (hj:j<ls.length),ltQ (kJ (atI ls (j:Int))) (a,b)=decide (j<lS (a,b) ls):=by
  intro j hj;rw[bH hj];by_cases h:j<lS (a,b) ls
  ·rw[Aax h,decide_eq_true h]
  ·rw[Iaf hs hj (by omega),decide_eq_false h]
 simp (disch:=first|assumption|omega) only[S0,rA,rQ,rB,rT,rE];rw[Eal (T:=T) (γ:=Nat×Nat) (.yield 1,[i64 (lS (a,b) ls:Nat)]) (fun c=>c.2-c.1) (fun c=>c.1<=lS (a,b) ls/\lS (a,b) ls<=c.2/\c.2<=ls.length) (fun c=>[i64 (c.1:Nat),i64 (c.2:Nat)]) (0,ls.length) rfl ⟨by omega,hc,Vb6 _⟩ (by simp)]
 ·have hh:=Aat (x:=(a,b)) hs
  by_cases hk:lS (a,b) ls<ls.length
  ·have bj:decide (((lS (a,b) ls:Nat):Int)<(ls.length:Int))=true:=by simpa using hk
   have hb:InB ls ((lS (a,b) ls:Nat):Int):=aX.2 hk;have he:=Hbu (atI ls ((lS (a,b) ls:Nat):Int)) a b
   have hr:Haw (a,b) ls=(kJ (atI ls ((lS (a,b) ls:Nat):Int))==(a,b)):=by
    rw[Bool.eq_iff_iff,hh,bH hk,beq_iff_eq];exact⟨fun ⟨_,h⟩=>h,fun h=>⟨hk,h⟩⟩
   rw[<- hr]at he;simp (disch:=first|assumption|omega) only[S0,rA,rQ,rB,rT,rE,bj,aS,Aap,he]
  ·have bj:decide (((lS (a,b) ls:Nat):Int)<(ls.length:Int))=false:=by simpa using hk
   have hr:Haw (a,b) ls=false:=by
    cases h:Haw (a,b) ls with
    |false=>rfl
    |true=>exact absurd (hh.1 h).1 hk
   simp (disch:=first|assumption|omega) only[S0,rA,rQ,rB,rT,rE,bj,hr]
 ·rintro⟨i,j⟩ ⟨h1,h2,h3⟩
  simp only at h1 h2 h3;by_cases se:i<j
  ·have hd:decide ((i:Int)<(j:Int))=true:=by simpa using se
   obtain⟨u1,u2,u3⟩:=Ib1 (a:=(i:Int)+j) (by omega) (by omega);have hm:((i:Int)+j) / 2=(((i+j) / 2:Nat):Int):=by omega
   have x3:(i+j) / 2<ls.length:=by omega
   have hb:InB ls (((i+j) / 2:Nat):Int):=aX.2 x3;have bj:=Hbt (atI ls (((i+j) / 2:Nat):Int)) a b;rw[gm x3]at bj;rw[hm]at u2 u3;refine .inl ?_;by_cases h4:(i+j) / 2<lS (a,b) ls
   ·rw[decide_eq_true h4]at bj
    refine⟨((i+j) / 2+1,j),?_,⟨by simp only;omega,by simp only;omega,by simp only;omega⟩,by simp only;omega⟩;simp (disch:=first|assumption|omega) only[S0,rA,rQ,rB,rT,rE,hd,u1,u2,u3,aS,Aap,bj]
   ·rw[decide_eq_false h4]at bj
    refine⟨(i,(i+j) / 2),?_,⟨by simp only;omega,by simp only;omega,by simp only;omega⟩,by simp only;omega⟩;simp (disch:=first|assumption|omega) only[S0,rA,rQ,rB,rT,rE,hd,u1,u2,u3,aS,Aap,bj]
  ·have hd:decide ((i:Int)<(j:Int))=false:=by simpa using se
   obtain rfl:i=lS (a,b) ls:=by omega
   refine .inr ?_;simp (disch:=first|assumption|omega) only[S0,rA,rQ,rB,rT,rE,hd]
theorem Ebi (ls:List aN)(k:Nat)(h:k<ls.length)(hl:ls.length<=10000000000):Fun T 131 [rL ls,i64 (k:Int),i64 ((k:Int)+1)]=some [rL (ls.take k++ls.drop (k+1))]:=by
 rw[Saw (e:=Fbp 16) rfl];exact Za1 h hl
theorem Dbw (ls:List aN)(k:Nat)(l:aN)(h:k<=ls.length)(hl:ls.length<=10000000000):Fun T 132 [rL ls,i64 (k:Int),rL [l]]=some [rL (ls.take k++l::ls.drop k)]:=by
 rw[Saw (e:=Fbh 16) rfl];exact Ya8 l h hl
theorem nV (a b:Int)(me n rows out:D)(ls:List aN)(bad:D)(hl:ls.length<=10000000000)(hs:qQ ls):Fun T 128 [i64 a,i64 b,me,n,rows,rL ls,out,bad]=some [i64 (lS (a,b) ls:Nat),.bool (Haw (a,b) ls)]:=by
 rw[aO (t:=Bb2) rfl];unfold Bb2
 have z:(aT.mk 1 2).run [i64 a,i64 b]=some [rL ([a,b]:List Int)]:=rfl;simp (disch:=first|assumption|omega) only[S0,rA,rQ,rB,rT,rE,z,Fat]
theorem Pac (a b:Int)(me n rows out:D)(ls:List aN)(bad:D)(hl:ls.length<=10000000000)(hs:qQ ls):Fun T 127 [i64 a,i64 b,me,n,rows,rL ls,out,bad]=some [me,n,rows,rL (lC (a,b) ls),out,bad]:=by
 rw[aO (t:=Bb3) rfl];unfold Bb3
 cases h:Haw (a,b) ls
 ·rw[Ebe h]
  simp (disch:=first|assumption|omega) only[S0,rA,rQ,rB,rT,rE,nV,h,Vbm]
 ·obtain⟨hk,-⟩:=(Aat hs).1 h
  rw[Ebf hs h];simp (disch:=first|assumption|omega) only[S0,rA,rQ,rB,rT,rE,nV,h,Ebi]
theorem Maq (cw cL b9 cx bp ca br bt bq bg:Int)(ba:(List Int))(bk:Int)(bd:(List Int))(cF:Bool)(cH:(List Int))(bw:(List bF))(me n rows out:D)(ls:List aN)(bad:D)(hl:ls.length<=1000000000)(hs:qQ ls)(h1:ba.length<=10000000000)(h2:bd.length<=10000000000)(h3:cH.length<=10000000000)(h4:mF bw) :
  Fun T 126 [i64 cw,i64 cL,i64 b9,i64 cx,i64 bp,i64 ca,i64 br,i64 bt,i64 bq,i64 bg,rL ba,i64 bk,rL bd,.bool cF,rL cH,rL bw,me,n,rows,rL ls,out,bad]=some [me,n,rows,rL (Aam ⟨cw,cL,b9,cx,⟨bp,ca,br,bt,bq⟩,⟨bg,ba⟩,⟨bk,bd⟩,cF,cH,bw⟩ ls),out,bad]:=by
 rw[aO (t:=Bb4) rfl];unfold Bb4
 have hd:=tJ (cw,cL) ls;have pr:=yY (x:=(cw,cL)) hs;have fW:=Da9 (cw,cL) (lC (cw,cL) ls);unfold Aam kJ;simp (disch:=first|assumption|omega) only[S0,rA,rQ,rB,rT,rE,Pac,nV,oF,jH,Dbw]
theorem Baj (a b:Int)(me n rows out:D)(ls:List aN)(cI:D)(hl:ls.length<=10000000000):Fun T 44 [i64 a,i64 b,me,n,rows,rL ls,out,cI]=some [me,n,rows,rL (lC (a,b) ls),out,cI]:=by
 rw[aO (t:=Nbm) rfl];unfold Nbm
 simp (disch:=first|assumption|omega) only[S0,rA,rQ,rB,rT,rE];rw[rX ls.length (fun i=>[rL (lC (a,b) (ls.take i)),i64 i]) (.yield 1,[rL (lC (a,b) ls)]) rfl (by simp)]
 ·simp (disch:=first|assumption|omega) only[S0,rA,rQ,rB,rT,rE]
 ·intro i hi bj
  have hb:InB ls (i:Int):=aX.2 hi;have oe:=tJ (a,b) (ls.take i);rw[Wbh]at oe;have ji:(lC (a,b) (ls.take i)).length+([atI ls (i:Int)]:List aN).length<=100000000000:=by simp only[Wbb,Wbp];omega
  have hft:lC (a,b) (ls.take (i+1))=lC (a,b) (ls.take i)++if !(kJ (atI ls (i:Int))==(a,b)) then [atI ls (i:Int)] else []:=Db1 hi
  rw[hft];have hk:(kJ (atI ls (i:Int))==(a,b))=((atI ls (i:Int)).rep==a&&(atI ls (i:Int)).no==b):=rfl;rw[hk];cases k1:(atI ls (i:Int)).rep==a
  ·simp (disch:=first|assumption|omega) only[S0,rA,rQ,rB,rT,rE,aS,jH,kU,bj,k1,Wbi,Vb0]
  ·cases k2:(atI ls (i:Int)).no==b
   ·simp (disch:=first|assumption|omega) only[S0,rA,rQ,rB,rT,rE,aS,jH,kU,bj,k1,k2,Wbn,Vb0,Vbt]
   ·simp (disch:=first|assumption|omega) only[S0,rA,rQ,rB,rT,rE,aS,jH,kU,bj,k1,k2,Xbz,Vbt,Vbm,Wbo]
 ·intro bj
  rw[Xbt];simp (disch:=first|assumption|omega) only[S0,rA,rQ,rB,rT,rE,bj]
theorem nI (rep no:Int)(cD cV cG bz cz cq cr cn cj:Int)(bl:(List Int))(me n:Int)(rows:List (List bF))(leads out:D)(cI:Bool)(hg:bR n=true)(hl:(rows.length:Int)=n)(hs:gF rows)(hb:InB rows rep)(h1:1<=no)(h2:no<=1000)(hx:bl.length<=10000000000) :
  Fun T 41 [i64 rep,i64 no,i64 cD,i64 cV,i64 cG,i64 bz,i64 cz,i64 cq,i64 cr,i64 cn,i64 cj,rL bl,i64 me,i64 n,rL rows,leads,out,.bool cI]=some [i64 me,i64 (nY ⟨n,rows⟩ rep no ⟨cD,cV,cG,⟨bz,cz,cq,cr,cn⟩,⟨cj,bl⟩⟩).n,rL (nY ⟨n,rows⟩ rep no ⟨cD,cV,cG,⟨bz,cz,cq,cr,cn⟩,⟨cj,bl⟩⟩).rows,leads,out,.bool (cI&&rowOk n ⟨cD,cV,cG,⟨bz,cz,cq,cr,cn⟩,⟨cj,bl⟩⟩)]:=by
 rw[aO (t:=Nbp) rfl];unfold Nbp
 have rK:bl.length<=1099511627776:=by omega
 cases cI
 ·simp (disch:=first|assumption|omega) only[S0,rA,rQ,rB,rT,rE,Ja5,Wbi]
 ·simp (disch:=first|assumption|omega) only[S0,rA,rQ,rB,rT,rE,sJ,Ja5,Wbf]
theorem dG (cw cL b9 cx bp ca br bt bq bg:Int)(ba:(List Int))(bk:Int)(bd:(List Int))(cF:Bool)(cH:(List Int))(bw:(List bF))(me n rows out:D)(ls:List aN)(cI:D)(hl:ls.length<=1000000000)(hs:qQ ls)(h1:ba.length<=10000000000)(h2:bd.length<=10000000000)(h3:cH.length<=10000000000)(h4:mF bw) :
  Fun T 43 [i64 cw,i64 cL,i64 b9,i64 cx,i64 bp,i64 ca,i64 br,i64 bt,i64 bq,i64 bg,rL ba,i64 bk,rL bd,.bool cF,rL cH,rL bw,me,n,rows,rL ls,out,cI]=some [me,n,rows,rL (Aam ⟨cw,cL,b9,cx,⟨bp,ca,br,bt,bq⟩,⟨bg,ba⟩,⟨bk,bd⟩,cF,cH,bw⟩ ls),out,cI]:=by
 rw[aO (t:=Nbn) rfl];unfold Nbn
 have hd:=tJ (cw,cL) ls;have pr:=yY (x:=(cw,cL)) hs;have fW:=Da9 (cw,cL) (lC (cw,cL) ls);unfold Aam kJ;simp (disch:=first|assumption|omega) only[S0,rA,rQ,rB,rT,rE,Baj];generalize lC (cw,cL) ls=ds at *;generalize hC:lS (cw,cL) ds=C at *;rw[Eal (T:=T) (γ:=Nat) (.yield 1,[i64 (C:Nat)]) (fun k=>ds.length-k) (fun k=>k<=C) (fun k=>[i64 (k:Nat)]) 0 rfl (by omega) (by simp)]
 ·have z0:(aT.mk 16 0).run []=some [rL ([]:List aN)]:=rfl
  have kg:(ds.take C).length+([⟨cw,cL,b9,cx,⟨bp,ca,br,bt,bq⟩,⟨bg,ba⟩,⟨bk,bd⟩,cF,cH,bw⟩]:List aN).length<=100000000000:=by rw[Wbh];simp only[Wbb,Wbp];omega
  have kb:(ds.take C++([⟨cw,cL,b9,cx,⟨bp,ca,br,bt,bq⟩,⟨bg,ba⟩,⟨bk,bd⟩,cF,cH,bw⟩]:List aN)).length+(ds.drop C).length<=100000000000:=by rw[Vbw,Wbh,Wb4];simp only[Wbb,Wbp];omega
  have s1:(aT.sub 16 false).run [rL ds,i64 (C:Int),i64 (ds.length:Int)]=some [rL (ds.drop C)]:=by
   simp (disch:=omega) only[Abx];simp
  have s2:(aT.sub 16 false).run [rL ds,i64 0,i64 (C:Int)]=some [rL (ds.take C)]:=by
   simp (disch:=omega) only[Abx];simp
  have hl3:([]:List aN).length+(ds.drop C).length<=100000000000:=by rw[Wb4];simp only[Wbp];omega
  have hl4:([]:List aN).length+(ds.take C).length<=100000000000:=by rw[Wbh];simp only[Wbp];omega
  simp (disch:=first|assumption|omega) only[S0,rA,rQ,rB,rT,rE,z0,s1,s2,kU,jH,jB,Wby,Vbx,List.singleton_append]
 ·intro k hk
  by_cases qm:k<ds.length
  ·have bj:decide ((k:Int)<(ds.length:Int))=true:=by simpa using qm
   have hb:InB ds (k:Int):=aX.2 qm;have hq:ltQ (kJ (atI ds (k:Int))) (cw,cL)=(decide ((atI ds (k:Int)).rep<cw)||((atI ds (k:Int)).rep==cw&&decide ((atI ds (k:Int)).no<cL))):=rfl;by_cases hkC:k<C
   ·have:=Aax (x:=(cw,cL)) (ls:=ds) (k:=k) (by omega)
    rw[<- bH qm,hq]at this;refine .inl ⟨k+1,?_,by omega,by omega⟩;cases c1:decide ((atI ds (k:Int)).rep<cw)
    ·rw[c1,Xba,Vbk]at this
     obtain⟨c2,c3⟩:=this;simp (disch:=first|assumption|omega) only[S0,rA,rQ,rB,rT,rE,bj,aS,c1,c2,c3]
    ·simp (disch:=first|assumption|omega) only[S0,rA,rQ,rB,rT,rE,bj,aS,c1]
   ·have:=Iaf (x:=(cw,cL)) pr qm (by omega)
    rw[<- bH qm,hq,Ybe]at this;obtain⟨c1,c2⟩:=this;obtain rfl:k=C:=by omega
    refine .inr ?_;cases c3:(atI ds (k:Int)).rep==cw
    ·simp (disch:=first|assumption|omega) only[S0,rA,rQ,rB,rT,rE,bj,aS,c1,c3]
    ·rw[c3,Wbf]at c2
     simp (disch:=first|assumption|omega) only[S0,rA,rQ,rB,rT,rE,bj,aS,c1,c3,c2]
  ·have bj:decide ((k:Int)<(ds.length:Int))=false:=by simpa using qm
   obtain rfl:k=C:=by omega
   refine .inr ?_;simp (disch:=first|assumption|omega) only[S0,rA,rQ,rB,rT,rE,bj]
theorem Ra4 (cw cL b9 cx bp ca br bt bq bg:Int)(ba:(List Int))(bk:Int)(bd:(List Int))(cF:Bool)(cH:(List Int))(bw:(List bF))(me n:Int)(rows:List (List bF))(ls:List aN)(out:List fC)(bad:Bool)(hg:bR n=true)(jl:(rows.length:Int)=n)(jd:gF rows)(hb:InB rows cw)(g1:1<=cL)(g2:cL<=1000)(hl:ls.length<=1000000000)(ho:out.length<=1000000000)(hs:qQ ls)(h2:bd.length<=10000000000)(h0:0<bd.length) :
  Fun T 156 [i64 cw,i64 cL,i64 b9,i64 cx,i64 bp,i64 ca,i64 br,i64 bt,i64 bq,i64 bg,rL ba,i64 bk,rL bd,.bool cF,rL cH,rL bw,i64 me,i64 n,rL rows,rL ls,rL out,.bool bad]=some [i64 me,i64 n,rL (Saq ⟨n,rows⟩ ⟨cw,cL,b9,cx,⟨bp,ca,br,bt,bq⟩,⟨bg,ba⟩,⟨bk,bd⟩,cF,cH,bw⟩).rows,rL (Sas me ⟨n,rows⟩ ls ⟨cw,cL,b9,cx,⟨bp,ca,br,bt,bq⟩,⟨bg,ba⟩,⟨bk,bd⟩,cF,cH,bw⟩),rL (Ab9 me ⟨n,rows⟩ out ⟨cw,cL,b9,cx,⟨bp,ca,br,bt,bq⟩,⟨bg,ba⟩,⟨bk,bd⟩,cF,cH,bw⟩),.bool bad]:=by
 rw[aO (t:=Bbe) rfl];unfold Bbe
 unfold Saq Sas Ab9 Bag Ia3 Sar Qah kJ;have hn:=aL hg;have rz:0<=n/\n<=5:=by omega
 have z1:(aT.mk 1 1).run [i64 me]=some [rL ([me]:List Int)]:=rfl;have z2:(.rows 10 []:D)=rL ([]:List bF):=rfl;have z3:mF []:=⟨by simp,by simp⟩;have z4:([me]:List Int).length<=10000000000:=by simp
 have tN:∀ r,(nY ⟨n,rows⟩ cw cL r).n=n:=fun _=>rfl
 have cU:aT.ne.run [rL bd]=some []:=Fbd h0;cases c:decide (b9<(eF ⟨n,rows⟩ cw cL).ballot)
 ·simp (disch:=first|assumption|omega) only[S0,rA,rQ,rB,rT,rE,jD,c,rY,tN,z1,z2,Maq,cU,Ea4,Vbm]
 ·simp (disch:=first|assumption|omega) only[S0,rA,rQ,rB,rT,rE,jD,c,Pac]
theorem iP (cw cL b9 cx bp ca br bt bq bg:Int)(ba:(List Int))(bk:Int)(bd:(List Int))(cF:Bool)(cH:(List Int))(bw:(List bF))(me n:Int)(rows:List (List bF))(ls:List aN)(out:List fC)(cI:Bool)(hg:bR n=true)(jl:(rows.length:Int)=n)(jd:gF rows)(hb:InB rows cw)(g1:1<=cL)(g2:cL<=1000)(hl:ls.length<=1000000000)(ho:out.length<=1000000000)(hs:qQ ls)(h2:bd.length<=10000000000) :
  Fun T 69 [i64 cw,i64 cL,i64 b9,i64 cx,i64 bp,i64 ca,i64 br,i64 bt,i64 bq,i64 bg,rL ba,i64 bk,rL bd,.bool cF,rL cH,rL bw,i64 me,i64 n,rL rows,rL ls,rL out,.bool cI]=some [i64 me,i64 n,rL (Saq ⟨n,rows⟩ ⟨cw,cL,b9,cx,⟨bp,ca,br,bt,bq⟩,⟨bg,ba⟩,⟨bk,bd⟩,cF,cH,bw⟩).rows,rL (Sas me ⟨n,rows⟩ ls ⟨cw,cL,b9,cx,⟨bp,ca,br,bt,bq⟩,⟨bg,ba⟩,⟨bk,bd⟩,cF,cH,bw⟩),rL (Ab9 me ⟨n,rows⟩ out ⟨cw,cL,b9,cx,⟨bp,ca,br,bt,bq⟩,⟨bg,ba⟩,⟨bk,bd⟩,cF,cH,bw⟩),.bool (cI&&(Bag ⟨n,rows⟩ ⟨cw,cL,b9,cx,⟨bp,ca,br,bt,bq⟩,⟨bg,ba⟩,⟨bk,bd⟩,cF,cH,bw⟩||rowOk n (Ia3 ⟨cw,cL,b9,cx,⟨bp,ca,br,bt,bq⟩,⟨bg,ba⟩,⟨bk,bd⟩,cF,cH,bw⟩)))]:=by
 rw[aO (t:=Mby) rfl];unfold Mby
 unfold Saq Sas Ab9 Bag Ia3 Sar Qah kJ;have z1:(aT.mk 1 1).run [i64 me]=some [rL ([me]:List Int)]:=rfl;have z2:(.rows 10 []:D)=rL ([]:List bF):=rfl;have z3:mF []:=⟨by simp,by simp⟩;have z4:([me]:List Int).length<=10000000000:=by simp
 have tN:∀ r,(nY ⟨n,rows⟩ cw cL r).n=n:=fun _=>rfl
 cases c:decide (b9<(eF ⟨n,rows⟩ cw cL).ballot)
 ·simp (disch:=first|assumption|omega) only[S0,rA,rQ,rB,rT,rE,dH,c,nI,tN,z1,z2,dG,Fa1,Vbm,Xba]
 ·simp (disch:=first|assumption|omega) only[S0,rA,rQ,rB,rT,rE,dH,c,Baj,Xbp,Xbv]
theorem dP (aE ae:Int)(aa:(List (List bF)))(ak:(List aN))(rep no:Int)(hs:gF aa)(h2:iB ak):Fun T 151 [i64 aE,i64 ae,rL aa,rL ak,i64 rep,i64 no]=some [.bool (bV ⟨aE,⟨ae,aa⟩,ak⟩&&inst ae rep no&&!((eF ⟨ae,aa⟩ rep no).state==3))]:=by
 rw[aO (t:=Bbj) rfl];unfold Bbj
 cases c1:bV ⟨aE,⟨ae,aa⟩,ak⟩
 ·simp (disch:=first|assumption|omega) only[S0,rA,rQ,rB,rT,rE,dK,c1,Wbi]
 have ht:=bJ c1;have hg:=aU ht;simp only at ht hg;cases c2:inst ae rep no
 ·simp (disch:=first|assumption|omega) only[S0,rA,rQ,rB,rT,rE,dK,c1,bY,hg,c2,Wbf,Wbi]
 have hb:=dQ ht c2;have ou:=(bL c2).1;have qn:=(bL c2).2;simp only at hb;simp (disch:=first|assumption|omega) only[S0,rA,rQ,rB,rT,rE,dK,c1,bY,hg,c2,jD,Wbf,bne]
theorem Pad (aE ae:Int)(aa:(List (List bF)))(ak:(List aN))(rep no:Int)(hs:gF aa)(h2:iB ak)(hl:ak.length<=2000000):Fun T 154 [i64 aE,i64 ae,rL aa,rL ak,i64 rep,i64 no]=some [i64 (jS ⟨aE,⟨ae,aa⟩,ak⟩ rep no).1.me,i64 (jS ⟨aE,⟨ae,aa⟩,ak⟩ rep no).1.table.n,rL (jS ⟨aE,⟨ae,aa⟩,ak⟩ rep no).1.table.rows,rL (jS ⟨aE,⟨ae,aa⟩,ak⟩ rep no).1.leads,rL (jS ⟨aE,⟨ae,aa⟩,ak⟩ rep no).2.1,.bool (jS ⟨aE,⟨ae,aa⟩,ak⟩ rep no).2.2]:=by
 rw[aO (t:=Bbg) rfl];unfold Bbg
 have zD:(.rows 15 []:D)=rL ([]:List fC):=rfl;cases c0:Fbj ⟨aE,⟨ae,aa⟩,ak⟩ rep no
 ·have hR:jS ⟨aE,⟨ae,aa⟩,ak⟩ rep no=Aa3:=by unfold jS;rw[c0];rfl
  rw[hR];unfold Aa3 Fbb;simp only;unfold Fbj at c0;cases c1:bV ⟨aE,⟨ae,aa⟩,ak⟩
  ·simp (disch:=first|assumption|omega) only[S0,rA,rQ,rB,rT,rE,dP,c1,Wbi,Vb0,zD]
   rfl
  have ht:=bJ c1;have hg:=aU ht;have jd:=fB c1;simp only at ht hg jd;cases c8:inst ae rep no
  ·simp (disch:=first|assumption|omega) only[S0,rA,rQ,rB,rT,rE,dP,c1,c8,Wbf,Wbi,Vb0,zD]
   rfl
  cases c3:(eF ⟨ae,aa⟩ rep no).state==3
  rotate_left
  ·simp (disch:=first|assumption|omega) only[S0,rA,rQ,rB,rT,rE,dP,c1,c8,c3,Wbf,Wbi,Vbt,Vb0,zD]
   rfl
  cases c2:Haw (rep,no) ak
  ·simp (disch:=first|assumption|omega) only[S0,rA,rQ,rB,rT,rE,dP,c1,c8,c3,Wbf,Vbt,Vb0,nU,zD,nV,c2]
   rfl
  obtain⟨q1,q2,q3⟩:=Hau c1 c2;simp only at q1;unfold yS at c0;simp only[c1,c2,c3,Wbf,Vb0]at c0;cases c4:(atI ak ((lS (rep,no) ak:Nat):Int)).phase==1
  ·simp (disch:=first|assumption|omega) only[S0,rA,rQ,rB,rT,rE,dP,c1,c8,c3,Wbf,Vbt,Vb0,nU,zD,nV,c2,aS,c4,bne]
   rfl
  rw[c4,Wbf]at c0;cases c5:(atI ak ((lS (rep,no) ak:Nat):Int)).ballot==0
  ·simp (disch:=first|assumption|omega) only[S0,rA,rQ,rB,rT,rE,dP,c1,c8,c3,Wbf,Vbt,Vb0,nU,zD,nV,c2,aS,c4,c5,bne]
   rfl
  rw[c5,Wbf]at c0;simp (disch:=first|assumption|omega) only[S0,rA,rQ,rB,rT,rE,dP,c1,c8,c3,Wbf,Vbt,Vb0,nU,zD,nV,c2,aS,c4,c5,bne,xA,c0];rfl
 ·have hR:jS ⟨aE,⟨ae,aa⟩,ak⟩ rep no=(⟨aE,Saq ⟨ae,aa⟩ (yS ⟨aE,⟨ae,aa⟩,ak⟩ rep no),Sas aE ⟨ae,aa⟩ ak (yS ⟨aE,⟨ae,aa⟩,ak⟩ rep no)⟩,Ab9 aE ⟨ae,aa⟩ [] (yS ⟨aE,⟨ae,aa⟩,ak⟩ rep no),true):=by unfold jS;rw[c0];rfl
  rw[hR];simp only;unfold Fbj at c0;simp only[Vbk]at c0;obtain⟨⟨⟨⟨⟨c1,c2⟩,c3⟩,c4⟩,c5⟩,c6⟩:=c0;have ht:=bJ c1;have hg:=aU ht;have hn:=aL hg;have jl:=bX ht;have jd:=fB c1;simp only at ht hg hn jl jd;obtain⟨q1,q2,q3⟩:=Hau c1 c2;obtain⟨p1,p2,p3,p4,p5,p6⟩:=iF q3;have hi:=p1;rw[show (yS ⟨aE,⟨ae,aa⟩,ak⟩ rep no).rep=rep from congrArg Prod.fst q2,show (yS ⟨aE,⟨ae,aa⟩,ak⟩ rep no).no=no from congrArg Prod.snd q2]at hi;have vt:=(dY hg p6).2;have hap0:=(dY hg p6).1;have a19:=h2.2 _ (iW q1);have vw:=dQ ht p1;have uj:=(bL p1).1;have kn:=(bL p1).2;have hTn:=Abv ⟨ae,aa⟩ (yS ⟨aE,⟨ae,aa⟩,ak⟩ rep no);simp only at q1 vw hTn;rw[Vb9]at c3;have eA:atI ak ((lS (rep,no) ak:Nat):Int)=yS ⟨aE,⟨ae,aa⟩,ak⟩ rep no:=rfl;rw[eA]at a19;generalize yS ⟨aE,⟨ae,aa⟩,ak⟩ rep no=L at *;obtain⟨u1,u2,u3,u4⟩:=a19;have z9:([]:List fC).length<=1000000000:=by simp
  simp (disch:=first|assumption|omega) only[S0,rA,rQ,rB,rT,rE,dP,c1,hi,c3,Wbf,Vbt,Vb0,nU,zD,nV,c2,aS,eA,c4,c5,bne,xA,c6,oF,Ra4,Hat,hTn]
theorem Va3 (ax bb bc az bh au ay aw aj av ar an aq ah:Int)(af:(List Int))(dst me n:Int)(rows leads:D)(out:List fC)(bad:Bool)(hz:af=[])(hl:out.length<=10000000000)(hg:bR n=true) :
  Fun T 134 [i64 ax,i64 bb,i64 bc,i64 az,i64 bh,i64 au,i64 ay,i64 aw,i64 aj,i64 av,i64 ar,i64 an,i64 aq,i64 ah,rL af,i64 dst,i64 me,i64 n,rows,leads,rL out,.bool bad]=some [i64 me,i64 n,rows,leads,rL (out++[Vah n me ⟨ax,bb,bc,az,bh,au,ay,aw,⟨aj,av,ar,an,aq⟩,⟨ah,af⟩⟩ dst]),.bool bad]:=by
 rw[aO (t:=Uav) rfl];unfold Uav
 subst hz;have hem:aT.emp.run [rL ([]:List Int)]=some [.bool true]:=rfl;have ji:out.length+([Vah n me ⟨ax,bb,bc,az,bh,au,ay,aw,⟨aj,av,ar,an,aq⟩,⟨ah,[]⟩⟩ dst]:List fC).length<=100000000000:=by simp only[Wbb,Wbp];omega
 have hr:(none0 n).deps.length<=10000000000:=by
  have:=aL hg;unfold none0;rw[Wb1];omega
 unfold Vah at ji ⊢;have hz:((([]:List Int).length:Int)==0)=true:=rfl;simp only[hz,if_true]at ji ⊢;simp (disch:=first|assumption|omega) only[S0,rA,rQ,rB,rT,rE,hem,dJ,xC,jH,kU]
theorem Mao (ax bb bc az bh au ay aw aj av ar an aq ah:Int)(af:(List Int))(me n:Int)(rows leads:D)(out:List fC)(bad:Bool)(hz:af=[])(hl:out.length<=1000000000)(hg:bR n=true) :
  Fun T 133 [i64 ax,i64 bb,i64 bc,i64 az,i64 bh,i64 au,i64 ay,i64 aw,i64 aj,i64 av,i64 ar,i64 an,i64 aq,i64 ah,rL af,i64 me,i64 n,rows,leads,rL out,.bool bad]=some [i64 me,i64 n,rows,leads,rL (out++vU n me ⟨ax,bb,bc,az,bh,au,ay,aw,⟨aj,av,ar,an,aq⟩,⟨ah,af⟩⟩ n.toNat),.bool bad]:=by
 rw[aO (t:=Uaw) rfl];unfold Uaw
 have hn:=aL hg;simp (disch:=first|assumption|omega) only[S0,rA,rQ,rB,rT,rE];rw[rX n.toNat (fun i=>[i64 i,i64 me,i64 n,rows,leads,rL (out++vU n me ⟨ax,bb,bc,az,bh,au,ay,aw,⟨aj,av,ar,an,aq⟩,⟨ah,af⟩⟩ i),.bool bad]) (.yield 1,[i64 me,i64 n,rows,leads,rL (out++vU n me ⟨ax,bb,bc,az,bh,au,ay,aw,⟨aj,av,ar,an,aq⟩,⟨ah,af⟩⟩ n.toNat),.bool bad]) (by rw[show ∀ m,vU n me m 0=[] from fun _=>rfl,Wbo];rfl) (by simp)]
 ·simp (disch:=first|assumption|omega) only[S0,rA,rQ,rB,rT,rE]
 ·intro i hi bj
  have lg:decide ((i:Int)<n)=true:=by simp;omega
  have hal:=vB n me ⟨ax,bb,bc,az,bh,au,ay,aw,⟨aj,av,ar,an,aq⟩,⟨ah,af⟩⟩ i;have mB:(out++vU n me ⟨ax,bb,bc,az,bh,au,ay,aw,⟨aj,av,ar,an,aq⟩,⟨ah,af⟩⟩ i).length<=10000000000:=by rw[Vbw];omega
  rw[xU];cases k1:((i:Int)==me)
  ·simp (disch:=first|assumption|omega) only[S0,rA,rQ,rB,rT,rE,lg,k1,Va3,Vb0,Vbx]
  ·simp (disch:=first|assumption|omega) only[S0,rA,rQ,rB,rT,rE,lg,k1,Vbt,Wbo]
 ·intro bj
  have lg:decide (((n.toNat:Nat):Int)<n)=false:=by simp;omega
  simp (disch:=first|assumption|omega) only[S0,rA,rQ,rB,rT,rE,lg]
theorem Jam (aE ae:Int)(aa:(List (List bF)))(ak:(List aN))(rep no:Int)(hs:gF aa)(h2:iB ak)(hl:ak.length<=2000000):Fun T 150 [i64 aE,i64 ae,rL aa,rL ak,i64 rep,i64 no]=some [i64 (aZ ⟨aE,⟨ae,aa⟩,ak⟩ rep no).1.me,i64 (aZ ⟨aE,⟨ae,aa⟩,ak⟩ rep no).1.table.n,rL (aZ ⟨aE,⟨ae,aa⟩,ak⟩ rep no).1.table.rows,rL (aZ ⟨aE,⟨ae,aa⟩,ak⟩ rep no).1.leads,rL (aZ ⟨aE,⟨ae,aa⟩,ak⟩ rep no).2.1,.bool (aZ ⟨aE,⟨ae,aa⟩,ak⟩ rep no).2.2]:=by
 rw[aO (t:=Bbk) rfl];unfold Bbk
 have zD:(.rows 15 []:D)=rL ([]:List fC):=rfl;cases c1:bV ⟨aE,⟨ae,aa⟩,ak⟩
 ·have hR:aZ ⟨aE,⟨ae,aa⟩,ak⟩ rep no=Aa3:=by unfold aZ Qal;rw[c1];rfl
  rw[hR];simp (disch:=first|assumption|omega) only[S0,rA,rQ,rB,rT,rE,dP,c1,Wbi,Vb0,zD];rfl
 have ht:=bJ c1;have hg:=aU ht;have hn:=aL hg;have jl:=bX ht;have jd:=fB c1;have nw:=gD c1;simp only at ht hg hn jl jd nw;cases c2:inst ae rep no
 ·have hR:aZ ⟨aE,⟨ae,aa⟩,ak⟩ rep no=Aa3:=by unfold aZ Qal;simp only;rw[c2,Wbn];rfl
  rw[hR];simp (disch:=first|assumption|omega) only[S0,rA,rQ,rB,rT,rE,dP,c1,c2,Wbn,Wbi,Vb0,zD];rfl
 have hb:=dQ ht c2;have ou:=(bL c2).1;have qn:=(bL c2).2;simp only at hb;have gm:inR aE 0 (ae-1)=true:=by simp[inR,nw.1,nw.2]
 cases c3:(eF ⟨ae,aa⟩ rep no).state==3
 rotate_left
 ·have hR:aZ ⟨aE,⟨ae,aa⟩,ak⟩ rep no=Aa3:=by unfold aZ Qal;simp only;rw[c3,Vbt,Wbn,Wbi];rfl
  rw[hR];simp (disch:=first|assumption|omega) only[S0,rA,rQ,rB,rT,rE,dP,c1,c2,c3,Wbn,Vbt,Vb0,zD];rfl
 have eN:nb (eF ⟨ae,aa⟩ rep no).ballot aE=vS ⟨aE,⟨ae,aa⟩,ak⟩ rep no:=rfl;cases c4:decide (vS ⟨aE,⟨ae,aa⟩,ak⟩ rep no<=9999)
 ·have hR:aZ ⟨aE,⟨ae,aa⟩,ak⟩ rep no=Aa3:=by unfold aZ Qal;rw[c4,Wbn];rfl
  rw[hR];simp (disch:=first|assumption|omega) only[S0,rA,rQ,rB,rT,rE,dP,c1,c2,c3,nW,eN,c4,Xbv,Vbt,Vb0,zD];rfl
 have hB:Qal ⟨aE,⟨ae,aa⟩,ak⟩ rep no=true:=by unfold Qal;simp only;rw[c1,c2,c3,c4];rfl
 have hR:aZ ⟨aE,⟨ae,aa⟩,ak⟩ rep no=(⟨aE,nY ⟨ae,aa⟩ rep no (sQ (vS ⟨aE,⟨ae,aa⟩,ak⟩ rep no) (eF ⟨ae,aa⟩ rep no)),Aam (rU ae aE rep no (vS ⟨aE,⟨ae,aa⟩,ak⟩ rep no) (eF ⟨ae,aa⟩ rep no)) ak⟩,vU ae aE (Haa rep no (vS ⟨aE,⟨ae,aa⟩,ak⟩ rep no)) ae.toNat,true):=by unfold aZ;rw[hB];rfl
 have o3:=tT ht c2;have oe:=nA o3 hg;rw[hR];simp only at o3 oe ⊢;generalize vS ⟨aE,⟨ae,aa⟩,ak⟩ rep no=N at *;generalize hW:eF ⟨ae,aa⟩ rep no=W at *;obtain⟨wb,wv,ws,⟨wk,wi,wf,wt,wa⟩,⟨wq,wd⟩⟩:=W;simp only at c3 oe eN;unfold sQ rU Haa Wa0;simp only;have z1:(aT.mk 1 1).run [i64 aE]=some [rL ([aE]:List Int)]:=rfl;have z4:([aE]:List Int).length<=10000000000:=by simp
 have z5:mF [⟨wb,wv,ws,⟨wk,wi,wf,wt,wa⟩,⟨wq,wd⟩⟩]:=⟨by simp,fun x hx=>by rw[Vbp]at hx;subst hx;simp only;omega⟩;have z6:(none0 ae).deps.length<=10000000000:=by unfold none0;rw[Wb1];omega
 have z7:wd.length<=10000000000:=by omega
 have z8:(.rows 1 []:D)=rL ([]:List Int):=rfl;have z11:([]:List Int)=[]:=rfl;have z9:([]:List fC).length<=1000000000:=by simp
 have tN:∀ r,(nY ⟨ae,aa⟩ rep no r).n=ae:=fun _=>rfl
 simp (disch:=first|assumption|omega) only[S0,rA,rQ,rB,rT,rE,dP,c1,c2,c3,nW,hW,eN,c4,Xbv,Vbt,Vb0,zD,nU,jD,dJ,z1,z8,jH,Maq,rY,Mao,Hat,tN,Wby]
theorem Dar (rep no b:Int)(bf cm bo bn bm:Int)(fp:Int)(cW:(List Int))(me n:Int)(rows:List (List bF))(ls:List aN)(out:List fC)(cI:Bool)(hg:bR n=true)(jl:(rows.length:Int)=n)(jd:gF rows)(hb:InB rows rep)(g1:1<=no)(g2:no<=1000)(hl:ls.length<=1000000000)(ho:out.length<=1000000000)(hs:qQ ls)(h2:cW.length<=10000000000) :
  Fun T 40 [i64 rep,i64 no,i64 b,i64 bf,i64 cm,i64 bo,i64 bn,i64 bm,i64 fp,rL cW,i64 me,i64 n,rL rows,rL ls,rL out,.bool cI]=some [i64 me,i64 n,rL (nY ⟨n,rows⟩ rep no (kG b ⟨bf,cm,bo,bn,bm⟩ ⟨fp,cW⟩)).rows,rL (Aam (nG me rep no b ⟨bf,cm,bo,bn,bm⟩ ⟨fp,cW⟩) ls),rL (out++vU n me (Dac rep no b ⟨bf,cm,bo,bn,bm⟩ ⟨fp,cW⟩) n.toNat),.bool (cI&&rowOk n (kG b ⟨bf,cm,bo,bn,bm⟩ ⟨fp,cW⟩))]:=by
 rw[aO (t:=Nbq) rfl];unfold Nbq
 unfold kG nG Dac;have z1:(aT.mk 1 1).run [i64 me]=some [rL ([me]:List Int)]:=rfl;have z2:(.rows 10 []:D)=rL ([]:List bF):=rfl;have z3:mF []:=⟨by simp,by simp⟩;have z4:([me]:List Int).length<=10000000000:=by simp
 have tN:∀ r,(nY ⟨n,rows⟩ rep no r).n=n:=fun _=>rfl
 simp (disch:=first|assumption|omega) only[S0,rA,rQ,rB,rT,rE,nI,tN,z1,z2,dG,Fa1]
theorem Pab (rep no b:Int)(bf cm bo bn bm:Int)(fp:Int)(cW:(List Int))(me n:Int)(rows:List (List bF))(ls:List aN)(out:List fC)(bad:Bool)(hg:bR n=true)(jd:gF rows)(hb:InB rows rep)(g1:1<=no)(g2:no<=1000)(hl:ls.length<=1000000000)(ho:out.length<=1000000000)(hs:qQ ls)(h0:0<cW.length)(h2:cW.length<=10000000000) :
  Fun T 124 [i64 rep,i64 no,i64 b,i64 bf,i64 cm,i64 bo,i64 bn,i64 bm,i64 fp,rL cW,i64 me,i64 n,rL rows,rL ls,rL out,.bool bad]=some [i64 me,i64 n,rL (nY ⟨n,rows⟩ rep no (kG b ⟨bf,cm,bo,bn,bm⟩ ⟨fp,cW⟩)).rows,rL (Aam (nG me rep no b ⟨bf,cm,bo,bn,bm⟩ ⟨fp,cW⟩) ls),rL (out++vU n me (Dac rep no b ⟨bf,cm,bo,bn,bm⟩ ⟨fp,cW⟩) n.toNat),.bool bad]:=by
 rw[aO (t:=Bb6) rfl];unfold Bb6
 unfold kG nG Dac;have hn:=aL hg;have rz:0<=n/\n<=5:=by omega
 have z1:(aT.mk 1 1).run [i64 me]=some [rL ([me]:List Int)]:=rfl;have z2:(.rows 10 []:D)=rL ([]:List bF):=rfl;have z3:mF []:=⟨by simp,by simp⟩;have z4:([me]:List Int).length<=10000000000:=by simp
 have tN:∀ r,(nY ⟨n,rows⟩ rep no r).n=n:=fun _=>rfl
 have cU:aT.ne.run [rL cW]=some []:=Fbd h0;simp (disch:=first|assumption|omega) only[S0,rA,rQ,rB,rT,rE,rY,tN,z1,z2,Maq,cU,Ea4]
theorem Aaa (k i:Nat)(cD cV cG bz cz cq cr cn cj:Int)(bl:(List Int))(rep no:Int)(bf cm bo bn bm:Int)(seq:Int)(deps:List Int)(hb:InB deps (k:Int))(hd:atI deps (k:Int)<=i) :
  Fun T 118 [i64 k,i64 ((i:Int)+1),i64 cD,i64 cV,i64 cG,i64 bz,i64 cz,i64 cq,i64 cr,i64 cn,i64 cj,rL bl,i64 rep,i64 no,i64 bf,i64 cm,i64 bo,i64 bn,i64 bm,i64 seq,rL deps]=some (if Rah ⟨bf,cm,bo,bn,bm⟩ rep no k i ⟨cD,cV,cG,⟨bz,cz,cq,cr,cn⟩,⟨cj,bl⟩⟩ then [i64 seq,rL deps] else [i64 (max seq cj),rL (jF deps (k:Int) ((i:Int)+1))]):=by
 rw[aO (t:=Cbc) rfl];unfold Cbc
 unfold Rah;simp only;have hm:max (atI deps (k:Int)) ((i:Int)+1)=(i:Int)+1:=by omega
 rw[Ra2];cases c1:(k:Int)==rep
 ·cases c3:cG==0
  ·cases c4:wZ ⟨bz,cz,cq,cr,cn⟩ ⟨bf,cm,bo,bn,bm⟩
   ·simp (disch:=first|assumption|omega) only[S0,rA,rQ,rB,rT,rE,c1,c3,c4,nL,bne,Vb0,Vbt,Xbp,Xba,Wbi,Ybz]
   ·simp (disch:=first|assumption|omega) only[S0,rA,rQ,rB,rT,rE,c1,c3,c4,nL,bne,Vb0,Vbt,Xbp,Xba,Wbi,Ybz,Vbm,aS,Faw,hm]
  ·simp (disch:=first|assumption|omega) only[S0,rA,rQ,rB,rT,rE,c1,c3,bne,Vb0,Vbt,Xbp]
 ·cases c2:(i:Int)+1==no
  ·cases c3:cG==0
   ·cases c4:wZ ⟨bz,cz,cq,cr,cn⟩ ⟨bf,cm,bo,bn,bm⟩
    ·simp (disch:=first|assumption|omega) only[S0,rA,rQ,rB,rT,rE,c1,c2,c3,c4,nL,bne,Vb0,Vbt,Xbp,Xba,Wbi,Wbn,Ybz]
    ·simp (disch:=first|assumption|omega) only[S0,rA,rQ,rB,rT,rE,c1,c2,c3,c4,nL,bne,Vb0,Vbt,Xbp,Xba,Wbi,Wbn,Ybz,Vbm,aS,Faw,hm]
   ·simp (disch:=first|assumption|omega) only[S0,rA,rQ,rB,rT,rE,c1,c2,c3,bne,Vb0,Vbt,Xbp]
  ·simp (disch:=first|assumption|omega) only[S0,rA,rQ,rB,rT,rE,c1,c2,bne,Vb0,Vbt,Xbp,Xbw,Xbz]
theorem Da1 (n:Int)(rows:List (List bF))(rep no:Int)(bf cm bo bn bm:Int)(jl:rows.length<=n.toNat)(hs:gF rows) :
  Fun T 117 [i64 n,rL rows,i64 rep,i64 no,i64 bf,i64 cm,i64 bo,i64 bn,i64 bm,i64 0,rL (Wba n.toNat (0:Int))]=some [i64 (zF ⟨n,rows⟩ ⟨bf,cm,bo,bn,bm⟩ rep no rows.length).seq,rL (zF ⟨n,rows⟩ ⟨bf,cm,bo,bn,bm⟩ rep no rows.length).deps]:=by
 rw[aO (t:=Cbd) rfl];unfold Cbd
 have hlen:∀ k,(zF ⟨n,rows⟩ ⟨bf,cm,bo,bn,bm⟩ rep no k).deps.length=n.toNat:=by
  intro k
  induction k with
  |zero=>simp[zF]
  |succ k ih=>unfold zF;rw[Daf];exact ih
 generalize hC:(⟨bf,cm,bo,bn,bm⟩:kM)=C at hlen ⊢;have ke:=hs.1;simp (disch:=first|assumption|omega) only[S0,rA,rQ,rB,rT,rE];rw[rX rows.length (fun k=>[i64 k,i64 (zF ⟨n,rows⟩ C rep no k).seq,rL (zF ⟨n,rows⟩ C rep no k).deps]) (.yield 1,[i64 (zF ⟨n,rows⟩ C rep no rows.length).seq,rL (zF ⟨n,rows⟩ C rep no rows.length).deps]) rfl (by simp)]
 ·simp (disch:=first|assumption|omega) only[S0,rA,rQ,rB,rT,rE]
 ·intro k hk bj
  have wA:InB rows (k:Int):=aX.2 hk;have oo:=(hs.2 _ (at_mem hk)).1;have hz:=Qac (t:=⟨n,rows⟩) (c:=C) (rep:=rep) (no:=no) k k (Vb6 _) (by simp only;omega);have hbA:InB (zF ⟨n,rows⟩ C rep no k).deps (k:Int):=by unfold InB;rw[hlen];omega
  have eS:zF ⟨n,rows⟩ C rep no (k+1)=uZ C rep no k (atI rows (k:Int)) (zF ⟨n,rows⟩ C rep no k) (atI rows (k:Int)).length:=rfl;rw[eS];generalize hL:atI rows (k:Int)=L at oo ⊢;generalize zF ⟨n,rows⟩ C rep no k=A at hz hbA ⊢;have hI:=fun i=>Abr (c:=C) (rep:=rep) (no:=no) (l:=L) hbA (by omega) i
  have hJ:∀ i,InB (uZ C rep no k L A i).deps (k:Int):=fun i=>by unfold InB at hbA ⊢;rw[Daf];exact hbA
  simp (disch:=first|assumption|omega) only[S0,rA,rQ,rB,rT,rE,aS,bj,hL];rw[rX L.length (fun i=>[i64 i,i64 (uZ C rep no k L A i).seq,rL (uZ C rep no k L A i).deps]) (.yield 3,[i64 (uZ C rep no k L A L.length).seq,rL (uZ C rep no k L A L.length).deps]) rfl (by simp)]
  ·simp (disch:=first|assumption|omega) only[S0,rA,rQ,rB,rT,rE]
  ·intro i hi jg
   have hbi:InB L (i:Int):=aX.2 hi;have h1:=hI i;have h2:=hJ i
   have eI:uZ C rep no k L A (i+1)=if Rah C rep no k i (atI L (i:Int)) then uZ C rep no k L A i
     else ⟨max (uZ C rep no k L A i).seq (atI L (i:Int)).attr.seq,jF (uZ C rep no k L A i).deps (k:Int) ((i:Int)+1)⟩:=rfl
   rw[eI];subst hC;generalize uZ ⟨bf,cm,bo,bn,bm⟩ rep no k L A i=B at h1 h2 ⊢;cases c0:Rah ⟨bf,cm,bo,bn,bm⟩ rep no k i (atI L (i:Int))
   ·simp (disch:=first|assumption|omega) only[S0,rA,rQ,rB,rT,rE,aS,jg,Aaa,c0,Vbm]
   ·simp (disch:=first|assumption|omega) only[S0,rA,rQ,rB,rT,rE,aS,jg,Aaa,c0]
  ·intro jg
   simp (disch:=first|assumption|omega) only[S0,rA,rQ,rB,rT,rE,jg]
 ·intro bj
  simp (disch:=first|assumption|omega) only[S0,rA,rQ,rB,rT,rE,bj]
theorem Ea6 (n:Int)(rows:List (List bF))(bf cm bo bn bm:Int)(rep no:Int)(ht:dZ ⟨n,rows⟩=true)(hs:gF rows) :
  Fun T 116 [i64 n,rL rows,i64 bf,i64 cm,i64 bo,i64 bn,i64 bm,i64 rep,i64 no]=some [i64 (zC ⟨n,rows⟩ ⟨bf,cm,bo,bn,bm⟩ rep no).seq,rL (zC ⟨n,rows⟩ ⟨bf,cm,bo,bn,bm⟩ rep no).deps,.bool (decide ((zC ⟨n,rows⟩ ⟨bf,cm,bo,bn,bm⟩ rep no).seq<=999))]:=by
 rw[aO (t:=Cbe) rfl];unfold Cbe
 have hg:bR n=true:=aU ht;have hl:(rows.length:Int)=n:=bX ht;have hle:rows.length<=n.toNat:=by omega
 obtain⟨a1,a2,a3,a4⟩:=xR (c:=⟨bf,cm,bo,bn,bm⟩) (rep:=rep) (no:=no) ht;have hz:(none0 n).seq=0/\(none0 n).deps=Wba n.toNat 0:=⟨rfl,rfl⟩;unfold zC at a2 a3 ⊢;simp only at a2 a3;simp (disch:=first|assumption|omega) only[S0,rA,rQ,rB,rT,rE,dJ,hz.1,hz.2,Da1]
theorem Mar (aE ae:Int)(aa:(List (List bF)))(ak:(List aN))(bf cm bo bn bm:Int)(hs:gF aa)(h2:iB ak)(hl:ak.length<=2000000):Fun T 72 [i64 aE,i64 ae,rL aa,rL ak,i64 bf,i64 cm,i64 bo,i64 bn,i64 bm]=some [i64 (bE ⟨aE,⟨ae,aa⟩,ak⟩ ⟨bf,cm,bo,bn,bm⟩).1.me,i64 (bE ⟨aE,⟨ae,aa⟩,ak⟩ ⟨bf,cm,bo,bn,bm⟩).1.table.n,rL (bE ⟨aE,⟨ae,aa⟩,ak⟩ ⟨bf,cm,bo,bn,bm⟩).1.table.rows,rL (bE ⟨aE,⟨ae,aa⟩,ak⟩ ⟨bf,cm,bo,bn,bm⟩).1.leads,rL (bE ⟨aE,⟨ae,aa⟩,ak⟩ ⟨bf,cm,bo,bn,bm⟩).2.1,.bool (bE ⟨aE,⟨ae,aa⟩,ak⟩ ⟨bf,cm,bo,bn,bm⟩).2.2]:=by
 rw[aO (t:=Mbv) rfl];unfold Mbv
 have zD:(.rows 15 []:D)=rL ([]:List fC):=rfl;cases c1:bV ⟨aE,⟨ae,aa⟩,ak⟩
 ·have hR:bE ⟨aE,⟨ae,aa⟩,ak⟩ ⟨bf,cm,bo,bn,bm⟩=Aa3:=by unfold bE sbB;rw[c1];rfl
  rw[hR];simp (disch:=first|assumption|omega) only[S0,rA,rQ,rB,rT,rE,dK,c1,Vb0,zD];rfl
 have ht:=bJ c1;have hg:=aU ht;have hn:=aL hg;have jl:=bX ht;have jd:=fB c1;have nw:=gD c1;simp only at ht hg hn jl jd nw;cases c2:iZ ⟨bf,cm,bo,bn,bm⟩
 ·have hR:bE ⟨aE,⟨ae,aa⟩,ak⟩ ⟨bf,cm,bo,bn,bm⟩=Aa3:=by unfold bE sbB;rw[c2,Wbn];rfl
  rw[hR];simp (disch:=first|assumption|omega) only[S0,rA,rQ,rB,rT,rE,dK,c1,eY,c2,Vbt,Vb0,zD];rfl
 cases c3:bf==0
 rotate_left
 ·have hR:bE ⟨aE,⟨ae,aa⟩,ak⟩ ⟨bf,cm,bo,bn,bm⟩=Aa3:=by unfold bE sbB;simp only;rw[c3,Vbt,Wbn];rfl
  rw[hR];simp (disch:=first|assumption|omega) only[S0,rA,rQ,rB,rT,rE,dK,c1,eY,c2,c3,Vbt,zD];rfl
 have hbm:InB aa aE:=by unfold InB;omega
 cases c4:decide (((atI aa aE).length:Int)<6)
 ·have hR:bE ⟨aE,⟨ae,aa⟩,ak⟩ ⟨bf,cm,bo,bn,bm⟩=Aa3:=by unfold bE sbB;simp only;rw[c4,Wbn];rfl
  rw[hR]
  have c5:decide ((6:Int)<=((atI aa aE).length:Int))=true:=by
   rw[decide_eq_false_iff_not]at c4;rw[decide_eq_true_iff];omega
  simp (disch:=first|assumption|omega) only[S0,rA,rQ,rB,rT,rE,dK,c1,eY,c2,c3,aS,c5,Vbt,Vb0,zD];rfl
 have c5:decide ((6:Int)<=((atI aa aE).length:Int))=false:=by
  rw[decide_eq_true_iff]at c4;rw[decide_eq_false_iff_not];omega
 obtain⟨hi,-⟩:=wF c1 (of_decide_eq_true c4);have ou:=(bL hi).1;have qn:=(bL hi).2;obtain⟨a1,a2,a3,a4⟩:=xR (c:=⟨bf,cm,bo,bn,bm⟩) (rep:=aE) (no:=zH ⟨aE,⟨ae,aa⟩,ak⟩) ht;have a6x:(zC ⟨ae,aa⟩ ⟨bf,cm,bo,bn,bm⟩ aE (zH ⟨aE,⟨ae,aa⟩,ak⟩)).deps.length<=10000000000:=by rw[a1];simp only;omega
 have ha11:0<(zC ⟨ae,aa⟩ ⟨bf,cm,bo,bn,bm⟩ aE (zH ⟨aE,⟨ae,aa⟩,ak⟩)).deps.length:=by rw[a1];simp only;omega
 have eN:((atI aa aE).length:Int)+1=zH ⟨aE,⟨ae,aa⟩,ak⟩:=rfl;have z9:([]:List fC).length<=1000000000:=by simp
 cases c6:decide ((sbA ⟨aE,⟨ae,aa⟩,ak⟩ ⟨bf,cm,bo,bn,bm⟩).seq<=999)
 ·have hR:bE ⟨aE,⟨ae,aa⟩,ak⟩ ⟨bf,cm,bo,bn,bm⟩=Aa3:=by unfold bE sbB;rw[c6,Wbn];rfl
  rw[hR];unfold sbA at c6;simp only at c6;simp (disch:=first|assumption|omega) only[S0,rA,rQ,rB,rT,rE,dK,c1,eY,c2,c3,aS,c5,Vbt,Vb0,zD,nU,eN,Ea6,c6];rfl
 ·have hB:sbB ⟨aE,⟨ae,aa⟩,ak⟩ ⟨bf,cm,bo,bn,bm⟩=true:=by unfold sbB;simp only;rw[c1,c2,c3,c4,c6];rfl
  have hR:bE ⟨aE,⟨ae,aa⟩,ak⟩ ⟨bf,cm,bo,bn,bm⟩=(⟨aE,nY ⟨ae,aa⟩ aE (zH ⟨aE,⟨ae,aa⟩,ak⟩) (kG 0 ⟨bf,cm,bo,bn,bm⟩ (sbA ⟨aE,⟨ae,aa⟩,ak⟩ ⟨bf,cm,bo,bn,bm⟩)),Aam (nG aE aE (zH ⟨aE,⟨ae,aa⟩,ak⟩) 0 ⟨bf,cm,bo,bn,bm⟩ (sbA ⟨aE,⟨ae,aa⟩,ak⟩ ⟨bf,cm,bo,bn,bm⟩)) ak⟩,vU ae aE (Dac aE (zH ⟨aE,⟨ae,aa⟩,ak⟩) 0 ⟨bf,cm,bo,bn,bm⟩ (sbA ⟨aE,⟨ae,aa⟩,ak⟩ ⟨bf,cm,bo,bn,bm⟩)) ae.toNat,true):=by unfold bE;rw[hB];rfl
  rw[hR];unfold sbA at *;simp only at c6 ⊢;simp (disch:=first|assumption|omega) only[S0,rA,rQ,rB,rT,rE,dK,c1,eY,c2,c3,aS,c5,Vbt,zD,nU,eN,Ea6,c6,Pab,Hat,Wby];rfl
theorem nN (me n:Int)(rows:List (List bF))(leads:List aN)(out:List fC)(cI:Bool)(hs:gF rows)(h2:iB leads) :
  Fun T 47 [i64 me,i64 n,rL rows,rL leads,rL out,.bool cI]=some (if cI&&bV ⟨me,⟨n,rows⟩,leads⟩ then [i64 me,i64 n,rL rows,rL leads,rL out,.bool true,i64 me,i64 n,rL rows,.hole,.hole,.bool cI] else [i64 0,i64 0,.rows 1 [],.rows 16 [],.rows 15 [],.bool false,i64 me,i64 n,rL rows,.hole,.hole,.bool cI]):=by
 rw[aO (t:=Ibp) rfl];unfold Ibp
 cases cI
 ·simp (disch:=first|assumption|omega) only[S0,rA,rQ,rB,rT,rE,Wbi,Vbm]
 ·cases hr:bV ⟨me,⟨n,rows⟩,leads⟩<;>simp (disch:=first|assumption|omega) only[S0,rA,rQ,rB,rT,rE,hr,aK,Wbf,Vbm]
theorem Kaa (me n rows leads out:D):Fun T 47 [me,n,rows,leads,out,.bool false]=some [i64 0,i64 0,.rows 1 [],.rows 16 [],.rows 15 [],.bool false,me,n,rows,.hole,.hole,.bool false]:=by
 rw[aO (t:=Ibp) rfl];unfold Ibp
 simp (disch:=first|assumption|omega) only[S0,rA,rQ,rB,rT,rE,Vb0]
theorem dL (aE ae:Int)(aa:(List (List bF)))(ak:(List aN))(hg:bR ae=true)(hl:(aa.length:Int)=ae)(h1:gF aa)(h2:iB ak):Fun T 29 [i64 aE,i64 ae,rL aa,rL ak]=some [i64 aE,i64 ae,rL aa,rL ak,rL ak]:=by
 rw[aO (t:=Nb1) rfl];unfold Nb1
 obtain⟨ke,gR⟩:=h2;simp (disch:=first|assumption|omega) only[S0,rA,rQ,rB,rT,rE,Ja6];rw[rX ak.length (fun i=>[i64 i,rL (ak.take i)]) (.yield 1,[rL ak]) rfl (by simp)]
 ·simp (disch:=first|assumption|omega) only[S0,rA,rQ,rB,rT,rE]
 ·intro i hi bj
  have hb:InB ak (i:Int):=aX.2 hi;obtain⟨q1,q2,q3,q4⟩:=gR _ (at_mem hi);have oT:=take_at hi;have ji:(ak.take i).length+([atI ak (i:Int)]:List aN).length<=100000000000:=by rw[Wbh];simp only[Wbb,Wbp];omega
  simp (disch:=first|assumption|omega) only[S0,rA,rQ,rB,rT,rE,aS,jH,kU,jB,bj,oT]
 ·intro bj
  rw[Xbt];simp (disch:=first|assumption|omega) only[S0,rA,rQ,rB,rT,rE,bj]
theorem iA (a b:Int)(me n rows:D)(ls:List aN)(cI:D)(hl:ls.length<=10000000000):Fun T 66 [i64 a,i64 b,me,n,rows,rL ls,cI]=some [i64 (ixF (fun l=>kJ l==(a,b)) ls)]:=by
 rw[aO (t:=Mb1) rfl];unfold Mb1
 simp (disch:=first|assumption|omega) only[S0,rA,rQ,rB,rT,rE];rw[Jao 1 ls (fun l=>kJ l==(a,b)) (fun i=>[i64 i])]
 ·cases h:ls.any (fun l=>kJ l==(a,b))
  ·have e:ixF (fun l=>kJ l==(a,b)) ls=-1:=by
    have h2:=jG (fun l=>kJ l==(a,b)) ls;rw[h]at h2;unfold ixF at h2 ⊢;split at h2<;>simp_all
   rw[e];simp (disch:=first|assumption|omega) only[S0,rA,rQ,rB,rT,rE]
  ·simp (disch:=first|assumption|omega) only[S0,rA,rQ,rB,rT,rE]
 ·intro i hi hb bj hp
  have hk:(kJ (atI ls (i:Int))==(a,b))=((atI ls (i:Int)).rep==a&&(atI ls (i:Int)).no==b):=rfl;rw[hk,Vbk]at hp;obtain⟨p1,p2⟩:=hp;simp (disch:=first|assumption|omega) only[S0,rA,rQ,rB,rT,rE,aS,bj,p1,p2]
 ·intro i hi hb bj hp
  have hk:(kJ (atI ls (i:Int))==(a,b))=((atI ls (i:Int)).rep==a&&(atI ls (i:Int)).no==b):=rfl;rw[hk]at hp;cases k1:(atI ls (i:Int)).rep==a
  ·simp (disch:=first|assumption|omega) only[S0,rA,rQ,rB,rT,rE,aS,bj,k1]
  ·rw[k1,Wbf]at hp
   simp (disch:=first|assumption|omega) only[S0,rA,rQ,rB,rT,rE,aS,bj,k1,hp]
 ·intro bj
  simp (disch:=first|assumption|omega) only[S0,rA,rQ,rB,rT,rE,bj]
theorem Lar (aE ae:Int)(aa:(List (List bF)))(ak:(List aN))(rep no:Int)(hs:gF aa)(h2:iB ak)(hl:ak.length<=2000000):Fun T 157 [i64 aE,i64 ae,rL aa,rL ak,i64 rep,i64 no]=some [i64 (jS ⟨aE,⟨ae,aa⟩,ak⟩ rep no).1.me,i64 (jS ⟨aE,⟨ae,aa⟩,ak⟩ rep no).1.table.n,rL (jS ⟨aE,⟨ae,aa⟩,ak⟩ rep no).1.table.rows,rL (jS ⟨aE,⟨ae,aa⟩,ak⟩ rep no).1.leads,rL (jS ⟨aE,⟨ae,aa⟩,ak⟩ rep no).2.1,.bool (jS ⟨aE,⟨ae,aa⟩,ak⟩ rep no).2.2,rL ak]:=by
 rw[aO (t:=Bbd) rfl];unfold Bbd
 have zD:(.rows 15 []:D)=rL ([]:List fC):=rfl;cases c0:Fbj ⟨aE,⟨ae,aa⟩,ak⟩ rep no
 ·have hR:jS ⟨aE,⟨ae,aa⟩,ak⟩ rep no=Aa3:=by unfold jS;rw[c0];rfl
  rw[hR];unfold Aa3 Fbb;simp only;unfold Fbj at c0;cases c1:bV ⟨aE,⟨ae,aa⟩,ak⟩
  ·simp (disch:=first|assumption|omega) only[S0,rA,rQ,rB,rT,rE,aK,c1,Vb0,zD]
   rfl
  have ht:=bJ c1;have hg:=aU ht;have hn:=aL hg;have jl:=bX ht;have jd:=fB c1;simp only at ht hg hn jl jd;have oa:=ixL jd (rep,no);cases c2:Haw (rep,no) ak
  ·rw[c2,if_neg Yby]at oa
   simp (disch:=first|assumption|omega) only[S0,rA,rQ,rB,rT,rE,aK,c1,dL,zD,iA,oa,Vbt];rfl
  rw[c2,if_pos rfl]at oa;obtain⟨q1,q2,q3⟩:=Hau c1 c2;have hi:=(iF q3).1;rw[show (yS ⟨aE,⟨ae,aa⟩,ak⟩ rep no).rep=rep from congrArg Prod.fst q2,show (yS ⟨aE,⟨ae,aa⟩,ak⟩ rep no).no=no from congrArg Prod.snd q2]at hi;have hb:=dQ ht hi;have ou:=(bL hi).1;have qn:=(bL hi).2;simp only at hb q1;unfold yS at c0;simp only[c1,c2,Wbf,Xbv]at c0;have e0:decide (((lS (rep,no) ak:Nat):Int)<0)=false:=by simp
  cases c3:(eF ⟨ae,aa⟩ rep no).state==3
  rotate_left
  ·simp (disch:=first|assumption|omega) only[S0,rA,rQ,rB,rT,rE,aK,c1,dL,zD,iA,oa,e0,dH,c3,Vbt]
   rfl
  rw[c3,Vb0,Wbf]at c0;cases c4:(atI ak ((lS (rep,no) ak:Nat):Int)).phase==1
  ·simp (disch:=first|assumption|omega) only[S0,rA,rQ,rB,rT,rE,aK,c1,dL,zD,iA,oa,e0,dH,c3,aS,c4,bne,Vbt,Vb0]
   rfl
  rw[c4,Wbf]at c0;cases c5:(atI ak ((lS (rep,no) ak:Nat):Int)).ballot==0
  ·simp (disch:=first|assumption|omega) only[S0,rA,rQ,rB,rT,rE,aK,c1,dL,zD,iA,oa,e0,dH,c3,aS,c4,c5,bne,Vbt,Vb0]
   rfl
  rw[c5,Wbf]at c0
  have c6:decide (((atI ak ((lS (rep,no) ak:Nat):Int)).who.length:Int)<=ae / 2)=true:=by
   rw[decide_eq_false_iff_not]at c0;rw[decide_eq_true_iff];omega
  simp (disch:=first|assumption|omega) only[S0,rA,rQ,rB,rT,rE,aK,c1,dL,zD,iA,oa,e0,dH,c3,aS,c4,c5,c6,bne,Vbt,Vb0];rfl
 ·have hR:jS ⟨aE,⟨ae,aa⟩,ak⟩ rep no=(⟨aE,Saq ⟨ae,aa⟩ (yS ⟨aE,⟨ae,aa⟩,ak⟩ rep no),Sas aE ⟨ae,aa⟩ ak (yS ⟨aE,⟨ae,aa⟩,ak⟩ rep no)⟩,Ab9 aE ⟨ae,aa⟩ [] (yS ⟨aE,⟨ae,aa⟩,ak⟩ rep no),true):=by unfold jS;rw[c0];rfl
  rw[hR];simp only;unfold Fbj at c0;simp only[Vbk]at c0;obtain⟨⟨⟨⟨⟨c1,c2⟩,c3⟩,c4⟩,c5⟩,c6⟩:=c0;have ht:=bJ c1;have hg:=aU ht;have hn:=aL hg;have jl:=bX ht;have jd:=fB c1;simp only at ht hg hn jl jd;have oa:=ixL jd (rep,no);rw[c2,if_pos rfl]at oa;obtain⟨q1,q2,q3⟩:=Hau c1 c2;obtain⟨p1,p2,p3,p4,p5,p6⟩:=iF q3;have hi:=p1;rw[show (yS ⟨aE,⟨ae,aa⟩,ak⟩ rep no).rep=rep from congrArg Prod.fst q2,show (yS ⟨aE,⟨ae,aa⟩,ak⟩ rep no).no=no from congrArg Prod.snd q2]at hi;have hb:=dQ ht hi;have ou:=(bL hi).1;have qn:=(bL hi).2;have hk:=Kau q3 (.inl (by simpa using c4));have hao:=Fbw (me:=aE) (t:=⟨ae,aa⟩) (ls:=ak) c1 p1 p2 p6 hk;have vt:=(dY hg p6).2;have hac:=Nad aE ⟨ae,aa⟩ ak (yS ⟨aE,⟨ae,aa⟩,ak⟩ rep no);have oo:=kW hao.1 (by simp only;omega);have vw:=dQ ht p1;have uj:=(bL p1).1;have kn:=(bL p1).2;have hTn:=Abv ⟨ae,aa⟩ (yS ⟨aE,⟨ae,aa⟩,ak⟩ rep no);simp only at hb q1 oo vw hTn;obtain⟨pC,qa⟩:=oo;rw[Vb9]at c3;have e0:decide (((lS (rep,no) ak:Nat):Int)<0)=false:=by simp
  have eA:atI ak ((lS (rep,no) ak:Nat):Int)=yS ⟨aE,⟨ae,aa⟩,ak⟩ rep no:=rfl;generalize yS ⟨aE,⟨ae,aa⟩,ak⟩ rep no=L at *
  have c7:decide ((L.who.length:Int)<=ae / 2)=false:=by
   rw[decide_eq_true_iff]at c6;rw[decide_eq_false_iff_not];omega
  have z9:([]:List fC).length<=1000000000:=by simp
  obtain⟨a4r,a5f⟩:=hao;have a5u:bV ⟨aE,⟨ae,(Saq ⟨ae,aa⟩ L).rows⟩,Sas aE ⟨ae,aa⟩ ak L⟩=true:=by rw[Xae hTn];exact a4r
  simp (disch:=first|assumption|omega) only[S0,rA,rQ,rB,rT,rE,aK,c1,dL,zD,iA,oa,e0,dH,c3,aS,eA,c4,c5,c7,bne,Vbt,Vb0,iP,nN,a5f,a5u,Xbw,Wbf,hTn]
theorem wB (aE ae:Int)(aa:(List (List bF)))(ak:(List aN))(rep no:Int)(hs:gF aa)(h2:iB ak)(hl:ak.length<=2000000):Fun T 49 [i64 aE,i64 ae,rL aa,rL ak,i64 rep,i64 no]=some [i64 (aZ ⟨aE,⟨ae,aa⟩,ak⟩ rep no).1.me,i64 (aZ ⟨aE,⟨ae,aa⟩,ak⟩ rep no).1.table.n,rL (aZ ⟨aE,⟨ae,aa⟩,ak⟩ rep no).1.table.rows,rL (aZ ⟨aE,⟨ae,aa⟩,ak⟩ rep no).1.leads,rL (aZ ⟨aE,⟨ae,aa⟩,ak⟩ rep no).2.1,.bool (aZ ⟨aE,⟨ae,aa⟩,ak⟩ rep no).2.2,rL ak]:=by
 rw[aO (t:=Nbi) rfl];unfold Nbi
 have zD:(.rows 15 []:D)=rL ([]:List fC):=rfl;cases c1:bV ⟨aE,⟨ae,aa⟩,ak⟩
 ·have hR:aZ ⟨aE,⟨ae,aa⟩,ak⟩ rep no=Aa3:=by unfold aZ Qal;rw[c1];rfl
  rw[hR];simp (disch:=first|assumption|omega) only[S0,rA,rQ,rB,rT,rE,aK,c1,Vb0,zD];rfl
 have ht:=bJ c1;have hg:=aU ht;have hn:=aL hg;have jl:=bX ht;have jd:=fB c1;have nw:=gD c1;simp only at ht hg hn jl jd nw;cases c2:inst ae rep no
 ·have hR:aZ ⟨aE,⟨ae,aa⟩,ak⟩ rep no=Aa3:=by unfold aZ Qal;simp only;rw[c2,Wbn];rfl
  rw[hR];simp (disch:=first|assumption|omega) only[S0,rA,rQ,rB,rT,rE,aK,c1,dR,c2,Vbt,Vb0,zD];rfl
 have hb:=dQ ht c2;have ou:=(bL c2).1;have qn:=(bL c2).2;simp only at hb;have gm:inR aE 0 (ae-1)=true:=by simp[inR,nw.1,nw.2]
 have ny:nbR ⟨ae,aa⟩ rep no aE=if decide (vS ⟨aE,⟨ae,aa⟩,ak⟩ rep no<=9999) then (vS ⟨aE,⟨ae,aa⟩,ak⟩ rep no,true) else (0,false):=by
  unfold nbR vS;simp only[ht,c2,gm,Wbf]
 cases c3:(eF ⟨ae,aa⟩ rep no).state==3
 rotate_left
 ·have hR:aZ ⟨aE,⟨ae,aa⟩,ak⟩ rep no=Aa3:=by unfold aZ Qal;simp only;rw[c3,Vbt,Wbn,Wbi];rfl
  rw[hR];cases c4:decide (vS ⟨aE,⟨ae,aa⟩,ak⟩ rep no<=9999)
  ·rw[c4,if_neg Yby]at ny
   simp (disch:=first|assumption|omega) only[S0,rA,rQ,rB,rT,rE,aK,c1,dR,c2,dH,mE,ny,c3,Vbt,Vb0,zD];rfl
  ·rw[c4,if_pos rfl]at ny
   simp (disch:=first|assumption|omega) only[S0,rA,rQ,rB,rT,rE,aK,c1,dR,c2,dH,mE,ny,c3,Vbt,Vb0,zD];rfl
 cases c4:decide (vS ⟨aE,⟨ae,aa⟩,ak⟩ rep no<=9999)
 ·have hR:aZ ⟨aE,⟨ae,aa⟩,ak⟩ rep no=Aa3:=by unfold aZ Qal;rw[c4,Wbn];rfl
  rw[hR];rw[c4,if_neg Yby]at ny;simp (disch:=first|assumption|omega) only[S0,rA,rQ,rB,rT,rE,aK,c1,dR,c2,dH,mE,ny,c3,Vbt,Vb0,zD];rfl
 rw[c4,if_pos rfl]at ny;have hB:Qal ⟨aE,⟨ae,aa⟩,ak⟩ rep no=true:=by unfold Qal;simp only;rw[c1,c2,c3,c4];rfl
 have hR:aZ ⟨aE,⟨ae,aa⟩,ak⟩ rep no=(⟨aE,nY ⟨ae,aa⟩ rep no (sQ (vS ⟨aE,⟨ae,aa⟩,ak⟩ rep no) (eF ⟨ae,aa⟩ rep no)),Aam (rU ae aE rep no (vS ⟨aE,⟨ae,aa⟩,ak⟩ rep no) (eF ⟨ae,aa⟩ rep no)) ak⟩,vU ae aE (Haa rep no (vS ⟨aE,⟨ae,aa⟩,ak⟩ rep no)) ae.toNat,true):=by unfold aZ;rw[hB];rfl
 obtain⟨o1,o2,o3,o4⟩:=Xa1 c1 c2 c3 (of_decide_eq_true c4);have kd:=mH (rU ae aE rep no (vS ⟨aE,⟨ae,aa⟩,ak⟩ rep no) (eF ⟨ae,aa⟩ rep no)) ak;have oo:=kW o1 (by simp only;omega);have oe:=nA o3 hg;rw[hR];simp only at o1 o2 o3 oo oe ⊢;generalize vS ⟨aE,⟨ae,aa⟩,ak⟩ rep no=N at *;generalize hW:eF ⟨ae,aa⟩ rep no=W at *;obtain⟨wb,wv,ws,⟨wk,wi,wf,wt,wa⟩,⟨wq,wd⟩⟩:=W;simp only at c3 oe;unfold sQ at *;unfold rU Wa0 at *;unfold Haa Wa0;simp only at o1 o2 oo kd ⊢;obtain⟨pC,qa⟩:=oo;have z1:(aT.mk 1 1).run [i64 aE]=some [rL ([aE]:List Int)]:=rfl;have z4:([aE]:List Int).length<=10000000000:=by simp
 have z5:mF [⟨wb,wv,ws,⟨wk,wi,wf,wt,wa⟩,⟨wq,wd⟩⟩]:=⟨by simp,fun x hx=>by rw[Vbp]at hx;subst hx;simp only;omega⟩;have z6:(none0 ae).deps.length<=10000000000:=by unfold none0;rw[Wb1];omega
 have z7:wd.length<=10000000000:=by omega
 have z8:(.rows 1 []:D)=rL ([]:List Int):=rfl;have z11:([]:List Int)=[]:=rfl;have z9:([]:List fC).length<=1000000000:=by simp
 have z10:([]:List Int).length<=10000000000:=by simp
 have tN:∀ r,(nY ⟨ae,aa⟩ rep no r).n=ae:=fun _=>rfl
 have e0:∀ r,(⟨ae,(nY ⟨ae,aa⟩ rep no r).rows⟩:aM)=nY ⟨ae,aa⟩ rep no r:=fun _=>rfl
 simp (disch:=first|assumption|omega) only[S0,rA,rQ,rB,rT,rE,aK,c1,dR,c2,dH,hW,mE,ny,c3,Vbt,Vb0,zD,dL,iO,z1,z8,jH,dG,nI,Fa1,nN,tN,e0,o1,o2,Wbf,Wby]
theorem zT (aE ae:Int)(aa:(List (List bF)))(ak:(List aN))(bf cm bo bn bm:Int)(hs:gF aa)(h2:iB ak)(hl:ak.length<=2000000):Fun T 13 [i64 aE,i64 ae,rL aa,rL ak,i64 bf,i64 cm,i64 bo,i64 bn,i64 bm]=some [i64 (bE ⟨aE,⟨ae,aa⟩,ak⟩ ⟨bf,cm,bo,bn,bm⟩).1.me,i64 (bE ⟨aE,⟨ae,aa⟩,ak⟩ ⟨bf,cm,bo,bn,bm⟩).1.table.n,rL (bE ⟨aE,⟨ae,aa⟩,ak⟩ ⟨bf,cm,bo,bn,bm⟩).1.table.rows,rL (bE ⟨aE,⟨ae,aa⟩,ak⟩ ⟨bf,cm,bo,bn,bm⟩).1.leads,rL (bE ⟨aE,⟨ae,aa⟩,ak⟩ ⟨bf,cm,bo,bn,bm⟩).2.1,.bool (bE ⟨aE,⟨ae,aa⟩,ak⟩ ⟨bf,cm,bo,bn,bm⟩).2.2,rL ak]:=by
 rw[aO (t:=Obg) rfl];unfold Obg
 have zD:(.rows 15 []:D)=rL ([]:List fC):=rfl;cases c1:bV ⟨aE,⟨ae,aa⟩,ak⟩
 ·have hR:bE ⟨aE,⟨ae,aa⟩,ak⟩ ⟨bf,cm,bo,bn,bm⟩=Aa3:=by unfold bE sbB;rw[c1];rfl
  rw[hR];simp (disch:=first|assumption|omega) only[S0,rA,rQ,rB,rT,rE,aK,c1,Vb0,zD];rfl
 have ht:=bJ c1;have hg:=aU ht;have hn:=aL hg;have jl:=bX ht;have jd:=fB c1;have nw:=gD c1;simp only at ht hg hn jl jd nw;cases c2:iZ ⟨bf,cm,bo,bn,bm⟩
 ·have hR:bE ⟨aE,⟨ae,aa⟩,ak⟩ ⟨bf,cm,bo,bn,bm⟩=Aa3:=by unfold bE sbB;rw[c2,Wbn];rfl
  rw[hR];simp (disch:=first|assumption|omega) only[S0,rA,rQ,rB,rT,rE,aK,c1,eT,c2,Vbt,Vb0,zD];rfl
 cases c3:bf==0
 rotate_left
 ·have hR:bE ⟨aE,⟨ae,aa⟩,ak⟩ ⟨bf,cm,bo,bn,bm⟩=Aa3:=by unfold bE sbB;simp only;rw[c3,Vbt,Wbn];rfl
  rw[hR];simp (disch:=first|assumption|omega) only[S0,rA,rQ,rB,rT,rE,aK,c1,eT,c2,c3,Vbt,zD];rfl
 have hbm:InB aa aE:=by unfold InB;omega
 cases c4:decide (((atI aa aE).length:Int)<6)
 ·have hR:bE ⟨aE,⟨ae,aa⟩,ak⟩ ⟨bf,cm,bo,bn,bm⟩=Aa3:=by unfold bE sbB;simp only;rw[c4,Wbn];rfl
  rw[hR]
  have c5:decide ((6:Int)<=((atI aa aE).length:Int))=true:=by
   rw[decide_eq_false_iff_not]at c4;rw[decide_eq_true_iff];omega
  simp (disch:=first|assumption|omega) only[S0,rA,rQ,rB,rT,rE,aK,c1,eT,c2,c3,aS,c5,Vbt,Vb0,zD];rfl
 have c5:decide ((6:Int)<=((atI aa aE).length:Int))=false:=by
  rw[decide_eq_true_iff]at c4;rw[decide_eq_false_iff_not];omega
 obtain⟨hi,-⟩:=wF c1 (of_decide_eq_true c4);have ou:=(bL hi).1;have qn:=(bL hi).2;obtain⟨a1,a2,a3,a4⟩:=xR (c:=⟨bf,cm,bo,bn,bm⟩) (rep:=aE) (no:=zH ⟨aE,⟨ae,aa⟩,ak⟩) ht;have a6x:(zC ⟨ae,aa⟩ ⟨bf,cm,bo,bn,bm⟩ aE (zH ⟨aE,⟨ae,aa⟩,ak⟩)).deps.length<=10000000000:=by rw[a1];simp only;omega
 have oB:=Abo (c:=⟨bf,cm,bo,bn,bm⟩) (c':=⟨bf,cm,bo,bn,bm⟩) (rep:=aE) (no:=zH ⟨aE,⟨ae,aa⟩,ak⟩) (b:=0) ht (by decide) c2;have hrw:∀ l∈aa,∀ r∈l,iZ r.cmd=true/\r.attr.seq<=1000000:=fun l hl r hr=>⟨kP ((cB ht hl).2 r hr),by have:=pW ((cB ht hl).2 r hr);omega⟩
 have eN:((atI aa aE).length:Int)+1=zH ⟨aE,⟨ae,aa⟩,ak⟩:=rfl;have sa:0<=ae:=by omega
 have om:ae<=1000:=by omega
 have wh:(aa.length:Int)<=ae:=by omega
 have z9:([]:List fC).length<=1000000000:=by simp
 simp only at ou qn oB;have kd:=mH (nG aE aE (zH ⟨aE,⟨ae,aa⟩,ak⟩) 0 ⟨bf,cm,bo,bn,bm⟩ (sbA ⟨aE,⟨ae,aa⟩,ak⟩ ⟨bf,cm,bo,bn,bm⟩)) ak;cases c6:decide ((sbA ⟨aE,⟨ae,aa⟩,ak⟩ ⟨bf,cm,bo,bn,bm⟩).seq<=999)
 ·have hR:bE ⟨aE,⟨ae,aa⟩,ak⟩ ⟨bf,cm,bo,bn,bm⟩=Aa3:=by unfold bE sbB;rw[c6,Wbn];rfl
  rw[hR];unfold sbA at c6;simp only at c6;rw[c6]at oB;simp (disch:=first|assumption|omega) only[S0,rA,rQ,rB,rT,rE,aK,c1,eT,c2,c3,aS,c5,Vbt,zD,dL,eN,kZ,Dar,oB,Wbf,Kaa];rfl
 ·have hB:sbB ⟨aE,⟨ae,aa⟩,ak⟩ ⟨bf,cm,bo,bn,bm⟩=true:=by unfold sbB;simp only;rw[c1,c2,c3,c4,c6];rfl
  have hR:bE ⟨aE,⟨ae,aa⟩,ak⟩ ⟨bf,cm,bo,bn,bm⟩=(⟨aE,nY ⟨ae,aa⟩ aE (zH ⟨aE,⟨ae,aa⟩,ak⟩) (kG 0 ⟨bf,cm,bo,bn,bm⟩ (sbA ⟨aE,⟨ae,aa⟩,ak⟩ ⟨bf,cm,bo,bn,bm⟩)),Aam (nG aE aE (zH ⟨aE,⟨ae,aa⟩,ak⟩) 0 ⟨bf,cm,bo,bn,bm⟩ (sbA ⟨aE,⟨ae,aa⟩,ak⟩ ⟨bf,cm,bo,bn,bm⟩)) ak⟩,vU ae aE (Dac aE (zH ⟨aE,⟨ae,aa⟩,ak⟩) 0 ⟨bf,cm,bo,bn,bm⟩ (sbA ⟨aE,⟨ae,aa⟩,ak⟩ ⟨bf,cm,bo,bn,bm⟩)) ae.toNat,true):=by unfold bE;rw[hB];rfl
  rw[hR];have lR:=Abn (me:=aE) (ls:=ak) (ballot:=0) (t:=⟨ae,aa⟩) (rep:=aE) (no:=zH ⟨aE,⟨ae,aa⟩,ak⟩) (c:=⟨bf,cm,bo,bn,bm⟩) (a:=sbA ⟨aE,⟨ae,aa⟩,ak⟩ ⟨bf,cm,bo,bn,bm⟩) c1 hi (by decide) (by unfold sbA at c6 ⊢;rw[a4];exact c6) c2;have oo:=kW lR.1 (by simp only;omega);unfold sbA at *;simp only at c6 lR oo ⊢;rw[c6]at oB;obtain⟨gp,-⟩:=lR;obtain⟨pC,qa⟩:=oo;have e0:∀ r,(⟨ae,(nY ⟨ae,aa⟩ aE (zH ⟨aE,⟨ae,aa⟩,ak⟩) r).rows⟩:aM)=nY ⟨ae,aa⟩ aE (zH ⟨aE,⟨ae,aa⟩,ak⟩) r:=fun _=>rfl
  simp (disch:=first|assumption|omega) only[S0,rA,rQ,rB,rT,rE,aK,c1,eT,c2,c3,aS,c5,Vbt,zD,dL,eN,kZ,Dar,oB,Wbf,nN,e0,gp,Wby];rfl
theorem bP (ax bb bc az bh au ay aw aj av ar an aq ah:Int)(af:(List Int))(ph:Int)(me n rows:D)(ls:List aN)(cI:D)(hl:ls.length<=10000000000)(hs:qQ ls)(h2:iB ls) :
  Fun T 65 [i64 ax,i64 bb,i64 bc,i64 az,i64 bh,i64 au,i64 ay,i64 aw,i64 aj,i64 av,i64 ar,i64 an,i64 aq,i64 ah,rL af,i64 ph,me,n,rows,rL ls,cI]=some (if Qam ls ⟨ax,bb,bc,az,bh,au,ay,aw,⟨aj,av,ar,an,aq⟩,⟨ah,af⟩⟩ ph then [i64 (fU ls ⟨ax,bb,bc,az,bh,au,ay,aw,⟨aj,av,ar,an,aq⟩,⟨ah,af⟩⟩).rep,i64 (fU ls ⟨ax,bb,bc,az,bh,au,ay,aw,⟨aj,av,ar,an,aq⟩,⟨ah,af⟩⟩).no,i64 (fU ls ⟨ax,bb,bc,az,bh,au,ay,aw,⟨aj,av,ar,an,aq⟩,⟨ah,af⟩⟩).ballot,i64 (fU ls ⟨ax,bb,bc,az,bh,au,ay,aw,⟨aj,av,ar,an,aq⟩,⟨ah,af⟩⟩).phase,i64 (fU ls ⟨ax,bb,bc,az,bh,au,ay,aw,⟨aj,av,ar,an,aq⟩,⟨ah,af⟩⟩).cmd.kind,i64 (fU ls ⟨ax,bb,bc,az,bh,au,ay,aw,⟨aj,av,ar,an,aq⟩,⟨ah,af⟩⟩).cmd.id,i64 (fU ls ⟨ax,bb,bc,az,bh,au,ay,aw,⟨aj,av,ar,an,aq⟩,⟨ah,af⟩⟩).cmd.src,i64 (fU ls ⟨ax,bb,bc,az,bh,au,ay,aw,⟨aj,av,ar,an,aq⟩,⟨ah,af⟩⟩).cmd.dst,i64 (fU ls ⟨ax,bb,bc,az,bh,au,ay,aw,⟨aj,av,ar,an,aq⟩,⟨ah,af⟩⟩).cmd.amt,i64 (fU ls ⟨ax,bb,bc,az,bh,au,ay,aw,⟨aj,av,ar,an,aq⟩,⟨ah,af⟩⟩).first.seq,rL (fU ls ⟨ax,bb,bc,az,bh,au,ay,aw,⟨aj,av,ar,an,aq⟩,⟨ah,af⟩⟩).first.deps,i64 (fU ls ⟨ax,bb,bc,az,bh,au,ay,aw,⟨aj,av,ar,an,aq⟩,⟨ah,af⟩⟩).attr.seq,rL (fU ls ⟨ax,bb,bc,az,bh,au,ay,aw,⟨aj,av,ar,an,aq⟩,⟨ah,af⟩⟩).attr.deps,.bool (fU ls ⟨ax,bb,bc,az,bh,au,ay,aw,⟨aj,av,ar,an,aq⟩,⟨ah,af⟩⟩).same,rL (fU ls ⟨ax,bb,bc,az,bh,au,ay,aw,⟨aj,av,ar,an,aq⟩,⟨ah,af⟩⟩).who,rL (fU ls ⟨ax,bb,bc,az,bh,au,ay,aw,⟨aj,av,ar,an,aq⟩,⟨ah,af⟩⟩).seen,.bool true] else [i64 0,i64 0,i64 0,i64 0,i64 0,i64 0,i64 0,i64 0,i64 0,i64 0,rL ([]:List Int),i64 0,rL ([]:List Int),.bool false,rL ([]:List Int),rL ([]:List bF),.bool false]):=by
 rw[aO (t:=Mb2) rfl];unfold Mb2
 have oa:=ixL hs (az,bh);have z1:(.rows 1 []:D)=rL ([]:List Int):=rfl;have z2:(.rows 10 []:D)=rL ([]:List bF):=rfl;cases b1:Haw (az,bh) ls
 ·rw[b1,if_neg Yby]at oa
  have hB:Qam ls ⟨ax,bb,bc,az,bh,au,ay,aw,⟨aj,av,ar,an,aq⟩,⟨ah,af⟩⟩ ph=false:=by unfold Qam;simp only;rw[b1];rfl
  rw[hB];simp (disch:=first|assumption|omega) only[S0,rA,rQ,rB,rT,rE,iA,oa,z1,z2,Vbm]
 rw[b1,if_pos rfl]at oa;obtain⟨hk,e⟩:=(Aat hs).1 b1;have gm:InB ls ((lS (az,bh) ls:Nat):Int):=aX.2 hk;have e0:decide (((lS (az,bh) ls:Nat):Int)<0)=false:=by simp
 obtain⟨u1,u2,u3,u4⟩:=h2.2 _ (iW gm);have hB:Qam ls ⟨ax,bb,bc,az,bh,au,ay,aw,⟨aj,av,ar,an,aq⟩,⟨ah,af⟩⟩ ph=((atI ls ((lS (az,bh) ls:Nat):Int)).phase==ph&&(atI ls ((lS (az,bh) ls:Nat):Int)).ballot==au&&!uN (atI ls ((lS (az,bh) ls:Nat):Int)).who bb):=by unfold Qam oD;simp only;rw[b1,Wbf]
 unfold fU oD;simp only;rw[hB];generalize hA:atI ls ((lS (az,bh) ls:Nat):Int)=L at *;have u5:L.who.length<=1099511627776:=by omega
 cases c1:L.phase==ph
 ·simp (disch:=first|assumption|omega) only[S0,rA,rQ,rB,rT,rE,iA,oa,e0,aS,hA,jB,c1,bne,Vb0,Wbi,z1,z2,Vbm]
 ·cases c2:L.ballot==au
  ·simp (disch:=first|assumption|omega) only[S0,rA,rQ,rB,rT,rE,iA,oa,e0,aS,hA,jB,c1,c2,bne,Vb0,Vbt,Wbi,Wbn,z1,z2,Vbm]
  ·cases c3:uN L.who bb
   ·simp (disch:=first|assumption|omega) only[S0,rA,rQ,rB,rT,rE,iA,oa,e0,aS,hA,jB,c1,c2,c3,bne,lJ,Ja8,Vb0,Vbt,Xbz]
   ·simp (disch:=first|assumption|omega) only[S0,rA,rQ,rB,rT,rE,iA,oa,e0,aS,hA,jB,c1,c2,c3,bne,lJ,Vb0,Vbt,Wbn,z1,z2,Vbm]
theorem Tah (rep no:Int)(bf cm bo bn bm:Int)(fp:Int)(cW:(List Int))(me n:Int)(rows:List (List bF))(ls:List aN)(out:D)(cI:Bool)(hg:bR n=true)(jl:(rows.length:Int)=n)(jd:gF rows)(hb:InB rows rep)(g1:1<=no)(g2:no<=1000)(hl:ls.length<=10000000000)(h2:cW.length<=10000000000) :
  Fun T 68 [i64 rep,i64 no,i64 bf,i64 cm,i64 bo,i64 bn,i64 bm,i64 fp,rL cW,i64 me,i64 n,rL rows,rL ls,out,.bool cI]=some [i64 me,i64 n,rL (nY ⟨n,rows⟩ rep no (Iaj ⟨n,rows⟩ rep no ⟨bf,cm,bo,bn,bm⟩ ⟨fp,cW⟩)).rows,rL (lC (rep,no) ls),out,.bool (cI&&rowOk n (Iaj ⟨n,rows⟩ rep no ⟨bf,cm,bo,bn,bm⟩ ⟨fp,cW⟩))]:=by
 rw[aO (t:=Mbz) rfl];unfold Mbz
 unfold Iaj;have tN:∀ r,(nY ⟨n,rows⟩ rep no r).n=n:=fun _=>rfl
 simp (disch:=first|assumption|omega) only[S0,rA,rQ,rB,rT,rE,dH,nI,tN,Baj]
theorem Gau (rep no:Int)(bf cm bo bn bm:Int)(fp:Int)(cW:(List Int))(me n:Int)(rows:List (List bF))(ls:List aN)(out:List fC)(cI:Bool)(hg:bR n=true)(jl:(rows.length:Int)=n)(jd:gF rows)(hb:InB rows rep)(g1:1<=no)(g2:no<=1000)(hl:ls.length<=10000000000)(ho:out.length<=1000000000)(h2:cW.length<=10000000000) :
  Fun T 67 [i64 rep,i64 no,i64 bf,i64 cm,i64 bo,i64 bn,i64 bm,i64 fp,rL cW,i64 me,i64 n,rL rows,rL ls,rL out,.bool cI]=some [i64 me,i64 n,rL (Ua8 me (⟨n,rows⟩,ls,out,cI) rep no ⟨bf,cm,bo,bn,bm⟩ ⟨fp,cW⟩).1.rows,rL (Ua8 me (⟨n,rows⟩,ls,out,cI) rep no ⟨bf,cm,bo,bn,bm⟩ ⟨fp,cW⟩).2.1,rL (Ua8 me (⟨n,rows⟩,ls,out,cI) rep no ⟨bf,cm,bo,bn,bm⟩ ⟨fp,cW⟩).2.2.1,.bool (Ua8 me (⟨n,rows⟩,ls,out,cI) rep no ⟨bf,cm,bo,bn,bm⟩ ⟨fp,cW⟩).2.2.2]:=by
 rw[aO (t:=Mb0) rfl];unfold Mb0
 unfold Ua8 Pa5;simp only;simp (disch:=first|assumption|omega) only[S0,rA,rQ,rB,rT,rE,Tah,Fa1]
theorem Cbz (ax bb bc az bh au ay aw aj av ar an aq ah:Int)(af:(List Int))(dm fy ew df eJ ef eh dz db:Int)(cN:(List Int))(me n:Int)(rows:List (List bF))(ls:List aN)(out:List fC)(cI:Bool)(hR:bV ⟨me,⟨n,rows⟩,ls⟩=true)(hl:ls.length<=3000000)(ho:out.length<=1000)(hm:Hah n ⟨ax,bb,bc,az,bh,au,ay,aw,⟨aj,av,ar,an,aq⟩,⟨ah,af⟩⟩=true)(hw:cN.length<=10000000000) :
  Fun T 62 [i64 ax,i64 bb,i64 bc,i64 az,i64 bh,i64 au,i64 ay,i64 aw,i64 aj,i64 av,i64 ar,i64 an,i64 aq,i64 ah,rL af,i64 dm,i64 fy,i64 ew,i64 df,i64 eJ,i64 ef,i64 eh,i64 dz,i64 db,rL cN,i64 me,i64 n,rL rows,rL ls,rL out,.bool cI]=some [i64 me,i64 n,rL (Dbg me (⟨n,rows⟩,ls,out,cI) ⟨ax,bb,bc,az,bh,au,ay,aw,⟨aj,av,ar,an,aq⟩,⟨ah,af⟩⟩ ⟨dm,fy,ew,⟨df,eJ,ef,eh,dz⟩,⟨db,cN⟩⟩).1.rows,rL (Dbg me (⟨n,rows⟩,ls,out,cI) ⟨ax,bb,bc,az,bh,au,ay,aw,⟨aj,av,ar,an,aq⟩,⟨ah,af⟩⟩ ⟨dm,fy,ew,⟨df,eJ,ef,eh,dz⟩,⟨db,cN⟩⟩).2.1,rL (Dbg me (⟨n,rows⟩,ls,out,cI) ⟨ax,bb,bc,az,bh,au,ay,aw,⟨aj,av,ar,an,aq⟩,⟨ah,af⟩⟩ ⟨dm,fy,ew,⟨df,eJ,ef,eh,dz⟩,⟨db,cN⟩⟩).2.2.1,.bool (Dbg me (⟨n,rows⟩,ls,out,cI) ⟨ax,bb,bc,az,bh,au,ay,aw,⟨aj,av,ar,an,aq⟩,⟨ah,af⟩⟩ ⟨dm,fy,ew,⟨df,eJ,ef,eh,dz⟩,⟨db,cN⟩⟩).2.2.2]:=by
 rw[aO (t:=Mb5) rfl];unfold Mb5
 have ht:=bJ hR;have hg:=aU ht;have hn:=aL hg;have jl:=bX ht;have jd:=fB hR;have nw:=gD hR;simp only at ht hg hn jl jd nw;obtain⟨ke,gR⟩:=kW hR (by simp only;omega);simp only at ke gR;have sa:0<=n:=by omega
 have om:n<=1000:=by omega
 have wh:(rows.length:Int)<=n:=by omega
 have hrw:∀ l∈rows,∀ r∈l,iZ r.cmd=true/\r.attr.seq<=1000000:=fun l hl r hr=>⟨kP ((cB ht hl).2 r hr),by have:=pW ((cB ht hl).2 r hr);omega⟩
 obtain⟨m1,m2,m3,m4,m5,m6,m7,m8,m9⟩:=yO hm;simp only at m2 m3 m4 m5 m6 m7 m8 m9;have hb:=dQ ht m3;simp only at hb;have ou:=(bL m3).1;have qn:=(bL m3).2;have vt:=(dY hg m7).2;simp only at vt;obtain⟨a1,a2,a3,a4⟩:=xR (c:=⟨aj,av,ar,an,aq⟩) (rep:=az) (no:=bh) ht;have lq:af.length<=(zC ⟨n,rows⟩ ⟨aj,av,ar,an,aq⟩ az bh).deps.length:=by have:=(lU m7).2.2.1;simp only at this;rw[a1];simp only;omega
 have hjn:=wW ⟨ah,af⟩ (zC ⟨n,rows⟩ ⟨aj,av,ar,an,aq⟩ az bh);simp only at hjn;have tN:∀ r,(nY ⟨n,rows⟩ az bh r).n=n:=fun _=>rfl
 unfold Dbg Taj Vai Pbb Pbc kG Wa0;simp only;generalize hA:zC ⟨n,rows⟩ ⟨aj,av,ar,an,aq⟩ az bh=A at *;cases c1:decide (au<dm)
 ·cases c2:ew==2
  ·cases c4:ew==1
   ·simp (disch:=first|assumption|omega) only[S0,rA,rQ,rB,rT,rE,c1,c2,c4,bne,Vb0,Vbt,Xba,Wbi,Xbp,Vbm,kZ,hA,bC,nI,tN,iX]
   ·cases c5:fy==au
    ·simp (disch:=first|assumption|omega) only[S0,rA,rQ,rB,rT,rE,c1,c2,c4,c5,bne,Vb0,Vbt,Xba,Wbi,Xbw,Vbm,kZ,hA,bC,nI,tN,iX]
    ·simp (disch:=first|assumption|omega) only[S0,rA,rQ,rB,rT,rE,c1,c2,c4,c5,bne,Vb0,Vbt,Xba,Wbi,Bool.or_self,Vbm,iX]
  ·cases c3:decide (au<=fy)
   ·cases c4:ew==1
    ·simp (disch:=first|assumption|omega) only[S0,rA,rQ,rB,rT,rE,c1,c2,c3,c4,bne,Vb0,Vbt,Xba,Wbn,Xbp,Vbm,kZ,hA,bC,nI,tN,iX]
    ·cases c5:fy==au
     ·simp (disch:=first|assumption|omega) only[S0,rA,rQ,rB,rT,rE,c1,c2,c3,c4,c5,bne,Vb0,Vbt,Xba,Wbn,Xbw,Vbm,kZ,hA,bC,nI,tN,iX]
     ·simp (disch:=first|assumption|omega) only[S0,rA,rQ,rB,rT,rE,c1,c2,c3,c4,c5,bne,Vb0,Vbt,Xba,Wbn,Bool.or_self,Vbm,iX]
   ·simp (disch:=first|assumption|omega) only[S0,rA,rQ,rB,rT,rE,c1,c2,c3,Xba,Xbz]
 ·simp (disch:=first|assumption|omega) only[S0,rA,rQ,rB,rT,rE,c1,Xbp]
theorem Vab (ax bb bc az bh au ay aw aj av ar an aq ah:Int)(af:(List Int))(me n:Int)(rows:List (List bF))(ls:List aN)(out:List fC)(cI:Bool)(hR:bV ⟨me,⟨n,rows⟩,ls⟩=true)(hl:ls.length<=3000000)(ho:out.length<=1000)(hm:Hah n ⟨ax,bb,bc,az,bh,au,ay,aw,⟨aj,av,ar,an,aq⟩,⟨ah,af⟩⟩=true) :
  Fun T 64 [i64 ax,i64 bb,i64 bc,i64 az,i64 bh,i64 au,i64 ay,i64 aw,i64 aj,i64 av,i64 ar,i64 an,i64 aq,i64 ah,rL af,i64 me,i64 n,rL rows,rL ls,rL out,.bool cI]=some [i64 me,i64 n,rL (Ab6 me (⟨n,rows⟩,ls,out,cI) ⟨ax,bb,bc,az,bh,au,ay,aw,⟨aj,av,ar,an,aq⟩,⟨ah,af⟩⟩).1.rows,rL (Ab6 me (⟨n,rows⟩,ls,out,cI) ⟨ax,bb,bc,az,bh,au,ay,aw,⟨aj,av,ar,an,aq⟩,⟨ah,af⟩⟩).2.1,rL (Ab6 me (⟨n,rows⟩,ls,out,cI) ⟨ax,bb,bc,az,bh,au,ay,aw,⟨aj,av,ar,an,aq⟩,⟨ah,af⟩⟩).2.2.1,.bool (Ab6 me (⟨n,rows⟩,ls,out,cI) ⟨ax,bb,bc,az,bh,au,ay,aw,⟨aj,av,ar,an,aq⟩,⟨ah,af⟩⟩).2.2.2]:=by
 rw[aO (t:=Mb3) rfl];unfold Mb3
 have ht:=bJ hR;have hg:=aU ht;have hn:=aL hg;have jl:=bX ht;have jd:=fB hR;have nw:=gD hR;simp only at ht hg hn jl jd nw;obtain⟨ke,gR⟩:=kW hR (by simp only;omega);simp only at ke gR;have sa:0<=n:=by omega
 have om:n<=1000:=by omega
 have wh:(rows.length:Int)<=n:=by omega
 have hrw:∀ l∈rows,∀ r∈l,iZ r.cmd=true/\r.attr.seq<=1000000:=fun l hl r hr=>⟨kP ((cB ht hl).2 r hr),by have:=pW ((cB ht hl).2 r hr);omega⟩
 obtain⟨m1,m2,m3,m4,m5,m6,m7,m8,m9⟩:=yO hm;simp only at m2 m3 m4 m5 m6 m7 m8 m9;have hb:=dQ ht m3;simp only at hb;have ou:=(bL m3).1;have qn:=(bL m3).2;have vt:=(dY hg m7).2;simp only at vt;cases c0:Qam ls ⟨ax,bb,bc,az,bh,au,ay,aw,⟨aj,av,ar,an,aq⟩,⟨ah,af⟩⟩ 1
 ·unfold Ab6
  simp only;simp (disch:=first|assumption|omega) only[S0,rA,rQ,rB,rT,rE,bP,c0,Vb0,Vbm]
 obtain⟨o1,o2,o3,o4,o5,o6,o7⟩:=Oav hR c0;have hL:=La5 hR c0 m4 (by decide);have hK:=Yaa hR c0 m4 m7;simp only at o2 hL hK;unfold Ab6 plA;simp only;rw[c0,if_pos rfl];have hpe:Fa6 ls ⟨ax,bb,bc,az,bh,au,ay,aw,⟨aj,av,ar,an,aq⟩,⟨ah,af⟩⟩=⟨(fU ls ⟨ax,bb,bc,az,bh,au,ay,aw,⟨aj,av,ar,an,aq⟩,⟨ah,af⟩⟩).rep,(fU ls ⟨ax,bb,bc,az,bh,au,ay,aw,⟨aj,av,ar,an,aq⟩,⟨ah,af⟩⟩).no,(fU ls ⟨ax,bb,bc,az,bh,au,ay,aw,⟨aj,av,ar,an,aq⟩,⟨ah,af⟩⟩).ballot,(fU ls ⟨ax,bb,bc,az,bh,au,ay,aw,⟨aj,av,ar,an,aq⟩,⟨ah,af⟩⟩).phase,(fU ls ⟨ax,bb,bc,az,bh,au,ay,aw,⟨aj,av,ar,an,aq⟩,⟨ah,af⟩⟩).cmd,(fU ls ⟨ax,bb,bc,az,bh,au,ay,aw,⟨aj,av,ar,an,aq⟩,⟨ah,af⟩⟩).first,wX (fU ls ⟨ax,bb,bc,az,bh,au,ay,aw,⟨aj,av,ar,an,aq⟩,⟨ah,af⟩⟩).attr ⟨ah,af⟩,(fU ls ⟨ax,bb,bc,az,bh,au,ay,aw,⟨aj,av,ar,an,aq⟩,⟨ah,af⟩⟩).same&&decide ((⟨ah,af⟩:bN)=(fU ls ⟨ax,bb,bc,az,bh,au,ay,aw,⟨aj,av,ar,an,aq⟩,⟨ah,af⟩⟩).first),(fU ls ⟨ax,bb,bc,az,bh,au,ay,aw,⟨aj,av,ar,an,aq⟩,⟨ah,af⟩⟩).who,(fU ls ⟨ax,bb,bc,az,bh,au,ay,aw,⟨aj,av,ar,an,aq⟩,⟨ah,af⟩⟩).seen⟩:=rfl;rw[hpe]at hK ⊢;have hRp:=nR hR hK;have xk:=Ba2 (l:=⟨(fU ls ⟨ax,bb,bc,az,bh,au,ay,aw,⟨aj,av,ar,an,aq⟩,⟨ah,af⟩⟩).rep,(fU ls ⟨ax,bb,bc,az,bh,au,ay,aw,⟨aj,av,ar,an,aq⟩,⟨ah,af⟩⟩).no,(fU ls ⟨ax,bb,bc,az,bh,au,ay,aw,⟨aj,av,ar,an,aq⟩,⟨ah,af⟩⟩).ballot,(fU ls ⟨ax,bb,bc,az,bh,au,ay,aw,⟨aj,av,ar,an,aq⟩,⟨ah,af⟩⟩).phase,(fU ls ⟨ax,bb,bc,az,bh,au,ay,aw,⟨aj,av,ar,an,aq⟩,⟨ah,af⟩⟩).cmd,(fU ls ⟨ax,bb,bc,az,bh,au,ay,aw,⟨aj,av,ar,an,aq⟩,⟨ah,af⟩⟩).first,wX (fU ls ⟨ax,bb,bc,az,bh,au,ay,aw,⟨aj,av,ar,an,aq⟩,⟨ah,af⟩⟩).attr ⟨ah,af⟩,(fU ls ⟨ax,bb,bc,az,bh,au,ay,aw,⟨aj,av,ar,an,aq⟩,⟨ah,af⟩⟩).same&&decide ((⟨ah,af⟩:bN)=(fU ls ⟨ax,bb,bc,az,bh,au,ay,aw,⟨aj,av,ar,an,aq⟩,⟨ah,af⟩⟩).first),(fU ls ⟨ax,bb,bc,az,bh,au,ay,aw,⟨aj,av,ar,an,aq⟩,⟨ah,af⟩⟩).who,(fU ls ⟨ax,bb,bc,az,bh,au,ay,aw,⟨aj,av,ar,an,aq⟩,⟨ah,af⟩⟩).seen⟩) jd
 have kd:=mH ⟨(fU ls ⟨ax,bb,bc,az,bh,au,ay,aw,⟨aj,av,ar,an,aq⟩,⟨ah,af⟩⟩).rep,(fU ls ⟨ax,bb,bc,az,bh,au,ay,aw,⟨aj,av,ar,an,aq⟩,⟨ah,af⟩⟩).no,(fU ls ⟨ax,bb,bc,az,bh,au,ay,aw,⟨aj,av,ar,an,aq⟩,⟨ah,af⟩⟩).ballot,(fU ls ⟨ax,bb,bc,az,bh,au,ay,aw,⟨aj,av,ar,an,aq⟩,⟨ah,af⟩⟩).phase,(fU ls ⟨ax,bb,bc,az,bh,au,ay,aw,⟨aj,av,ar,an,aq⟩,⟨ah,af⟩⟩).cmd,(fU ls ⟨ax,bb,bc,az,bh,au,ay,aw,⟨aj,av,ar,an,aq⟩,⟨ah,af⟩⟩).first,wX (fU ls ⟨ax,bb,bc,az,bh,au,ay,aw,⟨aj,av,ar,an,aq⟩,⟨ah,af⟩⟩).attr ⟨ah,af⟩,(fU ls ⟨ax,bb,bc,az,bh,au,ay,aw,⟨aj,av,ar,an,aq⟩,⟨ah,af⟩⟩).same&&decide ((⟨ah,af⟩:bN)=(fU ls ⟨ax,bb,bc,az,bh,au,ay,aw,⟨aj,av,ar,an,aq⟩,⟨ah,af⟩⟩).first),(fU ls ⟨ax,bb,bc,az,bh,au,ay,aw,⟨aj,av,ar,an,aq⟩,⟨ah,af⟩⟩).who,(fU ls ⟨ax,bb,bc,az,bh,au,ay,aw,⟨aj,av,ar,an,aq⟩,⟨ah,af⟩⟩).seen⟩ ls;generalize ma:fU ls ⟨ax,bb,bc,az,bh,au,ay,aw,⟨aj,av,ar,an,aq⟩,⟨ah,af⟩⟩=L at *;obtain⟨k1,k2,k3,k4,k5,k6⟩:=iF hL;obtain⟨q1,q2,q3,q4,q5,q6⟩:=iF hK;simp only at q1 q6;have vw:=dQ ht k1;have uj:=(bL k1).1;have kn:=(bL k1).2;simp only at vw;have hf1:=(dY hg k5).2;have hf2:=(dY hg k6).2;have hf3:=(dY hg q6).2;have hf4:af.length<=1099511627776:=by omega
 have hw:=Cag hg hK;rw[vX]at hw;simp only at hw;have hw1:L.who.length<=10000000000:=by omega
 have hw2:mF L.seen:=wC (by omega)
 have lq:L.attr.deps.length<=af.length:=by
  have e1:=(lU k6).2.2.1;have e2:=(lU m7).2.2.1;simp only at e2;omega
 have hqn:n / 2<=100:=by omega
 generalize hJ:wX L.attr ⟨ah,af⟩=J at *;cases d1:L.same
 ·rw[d1]at xk kd
  simp only[Wbi]at xk kd;cases d2:L.ballot==0
  ·have d3:decide (0<L.ballot)=true:=by have:=Aao.1 k2;simp at d2;simp;omega
   cases d4:decide (n / 2<(L.who.length:Int))
   ·simp (disch:=first|assumption|omega) only[S0,rA,rQ,rB,rT,rE,bP,c0,ma,Vbt,bC,hJ,d1,dG,d2,Wbi,d4,d3,Vbm]
   ·simp (disch:=first|assumption|omega) only[S0,rA,rQ,rB,rT,rE,bP,c0,ma,Vbt,bC,hJ,d1,dG,d2,Wbi,d4,d3,Vbm,Xbp,Xbz,iP,Qap]
  ·have d3:decide (0<L.ballot)=false:=by simp at d2;simp;omega
   cases d5:(L.who.length:Int)==n
   ·cases d4:decide (n / 2<(L.who.length:Int))
    ·simp (disch:=first|assumption|omega) only[S0,rA,rQ,rB,rT,rE,bP,c0,ma,Vbt,bC,hJ,d1,dG,d2,d5,Wbi,Wbn,d4,d3,Vbm]
    ·simp (disch:=first|assumption|omega) only[S0,rA,rQ,rB,rT,rE,bP,c0,ma,Vbt,bC,hJ,d1,dG,d2,d5,Wbi,Wbn,d4,d3,Vbm,Vb0,Xbw,Xbz,iP,Qap]
   ·cases d4:decide (n / 2<(L.who.length:Int))
    ·simp (disch:=first|assumption|omega) only[S0,rA,rQ,rB,rT,rE,bP,c0,ma,Vbt,bC,hJ,d1,dG,d2,d5,Wbi,Wbn,d4,d3,Vbm]
    ·simp (disch:=first|assumption|omega) only[S0,rA,rQ,rB,rT,rE,bP,c0,ma,Vbt,bC,hJ,d1,dG,d2,d5,Wbi,Wbn,d4,d3,Vbm,Vb0,Xbw,Xbz,iP,Qap]
 ·cases d6:decide ((⟨ah,af⟩:bN)=L.first)
  ·rw[d1,d6]at xk kd
   simp only[Wbf]at xk kd;cases d2:L.ballot==0
   ·have d3:decide (0<L.ballot)=true:=by have:=Aao.1 k2;simp at d2;simp;omega
    cases d4:decide (n / 2<(L.who.length:Int))
    ·simp (disch:=first|assumption|omega) only[S0,rA,rQ,rB,rT,rE,bP,c0,ma,Vbt,bC,hJ,d1,bD,d6,dG,d2,Wbi,Wbf,d4,d3,Vbm]
    ·simp (disch:=first|assumption|omega) only[S0,rA,rQ,rB,rT,rE,bP,c0,ma,Vbt,bC,hJ,d1,bD,d6,dG,d2,Wbi,Wbf,d4,d3,Vbm,Xbp,Xbz,iP,Qap]
   ·have d3:decide (0<L.ballot)=false:=by simp at d2;simp;omega
    cases d5:(L.who.length:Int)==n
    ·cases d4:decide (n / 2<(L.who.length:Int))
     ·simp (disch:=first|assumption|omega) only[S0,rA,rQ,rB,rT,rE,bP,c0,ma,Vbt,bC,hJ,d1,bD,d6,dG,d2,d5,Wbi,Wbf,Wbn,d4,d3,Vbm]
     ·simp (disch:=first|assumption|omega) only[S0,rA,rQ,rB,rT,rE,bP,c0,ma,Vbt,bC,hJ,d1,bD,d6,dG,d2,d5,Wbi,Wbf,Wbn,d4,d3,Vbm,Vb0,Xbw,Xbz,iP,Qap]
    ·cases d4:decide (n / 2<(L.who.length:Int))
     ·simp (disch:=first|assumption|omega) only[S0,rA,rQ,rB,rT,rE,bP,c0,ma,Vbt,bC,hJ,d1,bD,d6,dG,d2,d5,Wbi,Wbf,Wbn,d4,d3,Vbm]
     ·simp (disch:=first|assumption|omega) only[S0,rA,rQ,rB,rT,rE,bP,c0,ma,Vbt,bC,hJ,d1,bD,d6,dG,d2,d5,Wbi,Wbf,Wbn,d4,d3,Vbm,Vb0,Xbw,Xbz,iP,Qap]
  ·rw[d1,d6]at xk kd
   simp only[Wbf]at xk kd;cases d2:L.ballot==0
   ·have d3:decide (0<L.ballot)=true:=by have:=Aao.1 k2;simp at d2;simp;omega
    cases d4:decide (n / 2<(L.who.length:Int))
    ·simp (disch:=first|assumption|omega) only[S0,rA,rQ,rB,rT,rE,bP,c0,ma,Vbt,bC,hJ,d1,bD,d6,dG,d2,Wbi,Wbf,d4,d3,Vbm]
    ·simp (disch:=first|assumption|omega) only[S0,rA,rQ,rB,rT,rE,bP,c0,ma,Vbt,bC,hJ,d1,bD,d6,dG,d2,Wbi,Wbf,d4,d3,Vbm,Xbp,Xbz,iP,Qap]
   ·have d3:decide (0<L.ballot)=false:=by simp at d2;simp;omega
    cases d5:(L.who.length:Int)==n
    ·cases d4:decide (n / 2<(L.who.length:Int))
     ·simp (disch:=first|assumption|omega) only[S0,rA,rQ,rB,rT,rE,bP,c0,ma,Vbt,bC,hJ,d1,bD,d6,dG,d2,d5,Wbi,Wbf,Wbn,d4,d3,Vbm]
     ·simp (disch:=first|assumption|omega) only[S0,rA,rQ,rB,rT,rE,bP,c0,ma,Vbt,bC,hJ,d1,bD,d6,dG,d2,d5,Wbi,Wbf,Wbn,d4,d3,Vbm,Vbt,Bool.or_self]
    ·simp (disch:=first|assumption|omega) only[S0,rA,rQ,rB,rT,rE,bP,c0,ma,Vbt,bC,hJ,d1,bD,d6,dG,d2,d5,Xbz,Gau]
theorem Qa7 (ax bb bc az bh au ay aw aj av ar an aq ah:Int)(af:(List Int))(me n:Int)(rows:List (List bF))(ls:List aN)(out:List fC)(cI:Bool)(hR:bV ⟨me,⟨n,rows⟩,ls⟩=true)(hl:ls.length<=3000000)(ho:out.length<=1000)(hm:Hah n ⟨ax,bb,bc,az,bh,au,ay,aw,⟨aj,av,ar,an,aq⟩,⟨ah,af⟩⟩=true)(hk:ax=7) :
  Fun T 70 [i64 ax,i64 bb,i64 bc,i64 az,i64 bh,i64 au,i64 ay,i64 aw,i64 aj,i64 av,i64 ar,i64 an,i64 aq,i64 ah,rL af,i64 me,i64 n,rL rows,rL ls,rL out,.bool cI]=some [i64 me,i64 n,rL (Ab5 me (⟨n,rows⟩,ls,out,cI) ⟨ax,bb,bc,az,bh,au,ay,aw,⟨aj,av,ar,an,aq⟩,⟨ah,af⟩⟩).1.rows,rL (Ab5 me (⟨n,rows⟩,ls,out,cI) ⟨ax,bb,bc,az,bh,au,ay,aw,⟨aj,av,ar,an,aq⟩,⟨ah,af⟩⟩).2.1,rL (Ab5 me (⟨n,rows⟩,ls,out,cI) ⟨ax,bb,bc,az,bh,au,ay,aw,⟨aj,av,ar,an,aq⟩,⟨ah,af⟩⟩).2.2.1,.bool (Ab5 me (⟨n,rows⟩,ls,out,cI) ⟨ax,bb,bc,az,bh,au,ay,aw,⟨aj,av,ar,an,aq⟩,⟨ah,af⟩⟩).2.2.2]:=by
 rw[aO (t:=Mbx) rfl];unfold Mbx
 have ht:=bJ hR;have hg:=aU ht;have hn:=aL hg;have jl:=bX ht;have jd:=fB hR;have nw:=gD hR;simp only at ht hg hn jl jd nw;obtain⟨ke,gR⟩:=kW hR (by simp only;omega);simp only at ke gR;have sa:0<=n:=by omega
 have om:n<=1000:=by omega
 have wh:(rows.length:Int)<=n:=by omega
 have hrw:∀ l∈rows,∀ r∈l,iZ r.cmd=true/\r.attr.seq<=1000000:=fun l hl r hr=>⟨kP ((cB ht hl).2 r hr),by have:=pW ((cB ht hl).2 r hr);omega⟩
 obtain⟨m1,m2,m3,m4,m5,m6,m7,m8,m9⟩:=yO hm;simp only at m2 m3 m4 m5 m6 m7 m8 m9;have hb:=dQ ht m3;simp only at hb;have ou:=(bL m3).1;have qn:=(bL m3).2;have vt:=(dY hg m7).2;simp only at vt;obtain⟨r1,r2⟩:=m9 hk;cases c0:Qam ls ⟨ax,bb,bc,az,bh,au,ay,aw,⟨aj,av,ar,an,aq⟩,⟨ah,af⟩⟩ 3
 ·unfold Ab5
  simp only;simp (disch:=first|assumption|omega) only[S0,rA,rQ,rB,rT,rE,bP,c0,Vb0,Vbm]
 obtain⟨o1,o2,o3,o4,o5,o6,o7⟩:=Oav hR c0;have hK:=Xax hR c0 m4 r1 r2;have hse:=Xaw hK hg o5;have rk:=Waq hg hse.1 hse.2.2;have xz:=nR hR hK;simp only at hK hse rk;unfold Ab5 plA;simp only;rw[c0,if_pos rfl];have hpe:Kag ls ⟨ax,bb,bc,az,bh,au,ay,aw,⟨aj,av,ar,an,aq⟩,⟨ah,af⟩⟩=⟨(fU ls ⟨ax,bb,bc,az,bh,au,ay,aw,⟨aj,av,ar,an,aq⟩,⟨ah,af⟩⟩).rep,(fU ls ⟨ax,bb,bc,az,bh,au,ay,aw,⟨aj,av,ar,an,aq⟩,⟨ah,af⟩⟩).no,(fU ls ⟨ax,bb,bc,az,bh,au,ay,aw,⟨aj,av,ar,an,aq⟩,⟨ah,af⟩⟩).ballot,(fU ls ⟨ax,bb,bc,az,bh,au,ay,aw,⟨aj,av,ar,an,aq⟩,⟨ah,af⟩⟩).phase,(fU ls ⟨ax,bb,bc,az,bh,au,ay,aw,⟨aj,av,ar,an,aq⟩,⟨ah,af⟩⟩).cmd,(fU ls ⟨ax,bb,bc,az,bh,au,ay,aw,⟨aj,av,ar,an,aq⟩,⟨ah,af⟩⟩).first,(fU ls ⟨ax,bb,bc,az,bh,au,ay,aw,⟨aj,av,ar,an,aq⟩,⟨ah,af⟩⟩).attr,(fU ls ⟨ax,bb,bc,az,bh,au,ay,aw,⟨aj,av,ar,an,aq⟩,⟨ah,af⟩⟩).same,(fU ls ⟨ax,bb,bc,az,bh,au,ay,aw,⟨aj,av,ar,an,aq⟩,⟨ah,af⟩⟩).who,(fU ls ⟨ax,bb,bc,az,bh,au,ay,aw,⟨aj,av,ar,an,aq⟩,⟨ah,af⟩⟩).seen++[⟨au,ay,aw,⟨aj,av,ar,an,aq⟩,⟨ah,af⟩⟩]⟩:=rfl;rw[hpe]at hK hse rk ⊢;generalize ma:fU ls ⟨ax,bb,bc,az,bh,au,ay,aw,⟨aj,av,ar,an,aq⟩,⟨ah,af⟩⟩=L at *;simp only at hse rk;obtain⟨s1,s2,s3⟩:=hse;obtain⟨q1,q2,q3,q4,q5,q6⟩:=iF hK;simp only at q1 q2 q3 q5 q6;have xk:=Ba2 (l:=⟨L.rep,L.no,L.ballot,L.phase,L.cmd,L.first,L.attr,L.same,L.who,L.seen++[⟨au,ay,aw,⟨aj,av,ar,an,aq⟩,⟨ah,af⟩⟩]⟩) jd
 have kd:=mH ⟨L.rep,L.no,L.ballot,L.phase,L.cmd,L.first,L.attr,L.same,L.who,L.seen++[⟨au,ay,aw,⟨aj,av,ar,an,aq⟩,⟨ah,af⟩⟩]⟩ ls;have vw:=dQ ht q1;have uj:=(bL q1).1;have kn:=(bL q1).2;simp only at vw;have hf1:=(dY hg q5).2;have hf2:=(dY hg q6).2;have hw:=Cag hg hK;rw[vX]at hw;simp only at hw;have hw1:L.who.length<=10000000000:=by omega
 have hw2:mF (L.seen++[⟨au,ay,aw,⟨aj,av,ar,an,aq⟩,⟨ah,af⟩⟩]):=wC (by omega);have gC:L.seen.length+([⟨au,ay,aw,⟨aj,av,ar,an,aq⟩,⟨ah,af⟩⟩]:List bF).length<=100000000000:=by rw[Vbw]at s2;omega
 cases d1:decide ((L.who.length:Int)<=n / 2)
 rotate_left
 ·simp (disch:=first|assumption|omega) only[S0,rA,rQ,rB,rT,rE,bP,c0,ma,Vbt,jH,kU,dG,d1]
 obtain⟨u6,pj⟩:=rk;have fW:=(dY hg pj).2;unfold Lbh Obs Pbu Bag;simp only;cases d2:(fF n (L.seen++[⟨au,ay,aw,⟨aj,av,ar,an,aq⟩,⟨ah,af⟩⟩])).1==2
 ·simp (disch:=first|assumption|omega) only[S0,rA,rQ,rB,rT,rE,bP,c0,ma,Vbt,Vb0,jH,kU,dG,d1,uD,d2,bne,iP,Qap]
 obtain⟨a1,a2,a3,a4⟩:=xR (c:=(fF n (L.seen++[⟨au,ay,aw,⟨aj,av,ar,an,aq⟩,⟨ah,af⟩⟩])).2.1) (rep:=L.rep) (no:=L.no) ht
 have lq:(fF n (L.seen++[⟨au,ay,aw,⟨aj,av,ar,an,aq⟩,⟨ah,af⟩⟩])).2.2.deps.length<=(zC ⟨n,rows⟩ (fF n (L.seen++[⟨au,ay,aw,⟨aj,av,ar,an,aq⟩,⟨ah,af⟩⟩])).2.1 L.rep L.no).deps.length:=by
  have:=(lU pj).2.2.1;rw[a1];simp only;omega
 have hjn:=wW (fF n (L.seen++[⟨au,ay,aw,⟨aj,av,ar,an,aq⟩,⟨ah,af⟩⟩])).2.2 (zC ⟨n,rows⟩ (fF n (L.seen++[⟨au,ay,aw,⟨aj,av,ar,an,aq⟩,⟨ah,af⟩⟩])).2.1 L.rep L.no);cases d3:decide (L.ballot<(eF ⟨n,rows⟩ L.rep L.no).ballot)
 ·simp (disch:=first|assumption|omega) only[S0,rA,rQ,rB,rT,rE,bP,c0,ma,Vbt,Vb0,Vbm,jH,kU,dG,d1,uD,d2,bne,dH,d3,kZ,bC,Dar,Hbz]
 ·simp (disch:=first|assumption|omega) only[S0,rA,rQ,rB,rT,rE,bP,c0,ma,Vbt,Vb0,Vbm,jH,kU,dG,d1,uD,d2,bne,dH,d3,Baj]
theorem Na3 (ax bb bc az bh au ay aw aj av ar an aq ah:Int)(af:(List Int))(dm fy ew df eJ ef eh dz db:Int)(cN:(List Int))(me n:Int)(rows:List (List bF))(ls:List aN)(out:List fC)(cI:Bool)(hR:bV ⟨me,⟨n,rows⟩,ls⟩=true)(hl:ls.length<=3000000)(ho:out.length<=1000)(hm:Hah n ⟨ax,bb,bc,az,bh,au,ay,aw,⟨aj,av,ar,an,aq⟩,⟨ah,af⟩⟩=true)(hw:cN.length<=10000000000) :
  Fun T 61 [i64 ax,i64 bb,i64 bc,i64 az,i64 bh,i64 au,i64 ay,i64 aw,i64 aj,i64 av,i64 ar,i64 an,i64 aq,i64 ah,rL af,i64 dm,i64 fy,i64 ew,i64 df,i64 eJ,i64 ef,i64 eh,i64 dz,i64 db,rL cN,i64 me,i64 n,rL rows,rL ls,rL out,.bool cI]=some [i64 me,i64 n,rL (Qaz me (⟨n,rows⟩,ls,out,cI) ⟨ax,bb,bc,az,bh,au,ay,aw,⟨aj,av,ar,an,aq⟩,⟨ah,af⟩⟩ ⟨dm,fy,ew,⟨df,eJ,ef,eh,dz⟩,⟨db,cN⟩⟩).1.rows,rL (Qaz me (⟨n,rows⟩,ls,out,cI) ⟨ax,bb,bc,az,bh,au,ay,aw,⟨aj,av,ar,an,aq⟩,⟨ah,af⟩⟩ ⟨dm,fy,ew,⟨df,eJ,ef,eh,dz⟩,⟨db,cN⟩⟩).2.1,rL (Qaz me (⟨n,rows⟩,ls,out,cI) ⟨ax,bb,bc,az,bh,au,ay,aw,⟨aj,av,ar,an,aq⟩,⟨ah,af⟩⟩ ⟨dm,fy,ew,⟨df,eJ,ef,eh,dz⟩,⟨db,cN⟩⟩).2.2.1,.bool (Qaz me (⟨n,rows⟩,ls,out,cI) ⟨ax,bb,bc,az,bh,au,ay,aw,⟨aj,av,ar,an,aq⟩,⟨ah,af⟩⟩ ⟨dm,fy,ew,⟨df,eJ,ef,eh,dz⟩,⟨db,cN⟩⟩).2.2.2]:=by
 rw[aO (t:=Mb6) rfl];unfold Mb6
 have ht:=bJ hR;have hg:=aU ht;have hn:=aL hg;have jl:=bX ht;have jd:=fB hR;have nw:=gD hR;simp only at ht hg hn jl jd nw;obtain⟨ke,gR⟩:=kW hR (by simp only;omega);simp only at ke gR;have sa:0<=n:=by omega
 have om:n<=1000:=by omega
 have wh:(rows.length:Int)<=n:=by omega
 have hrw:∀ l∈rows,∀ r∈l,iZ r.cmd=true/\r.attr.seq<=1000000:=fun l hl r hr=>⟨kP ((cB ht hl).2 r hr),by have:=pW ((cB ht hl).2 r hr);omega⟩
 obtain⟨m1,m2,m3,m4,m5,m6,m7,m8,m9⟩:=yO hm;simp only at m2 m3 m4 m5 m6 m7 m8 m9;have hb:=dQ ht m3;simp only at hb;have ou:=(bL m3).1;have qn:=(bL m3).2;have vt:=(dY hg m7).2;simp only at vt;have tN:∀ r,(nY ⟨n,rows⟩ az bh r).n=n:=fun _=>rfl
 have z8:(.rows 1 []:D)=rL ([]:List Int):=rfl;have z10:([]:List Int).length<=10000000000:=by simp
 have ho2:out.length<=1000000000:=by omega
 have ho3:out.length<=10000000000:=by omega
 unfold Qaz;simp only;cases k1:ax==1
 rotate_left
 ·simp (disch:=first|assumption|omega) only[S0,rA,rQ,rB,rT,rE,k1,Cbz]
 cases k2:ax==2
 rotate_left
 ·simp (disch:=first|assumption|omega) only[S0,rA,rQ,rB,rT,rE,k1,k2,Vbm,Vab]
 cases k3:ax==3
 rotate_left
 ·unfold Lbk Taj Vai Sb2 Wa0
  simp only;cases d1:decide (dm<=au)
  ·simp (disch:=first|assumption|omega) only[S0,rA,rQ,rB,rT,rE,k1,k2,k3,d1,Vbm]
  ·simp (disch:=first|assumption|omega) only[S0,rA,rQ,rB,rT,rE,k1,k2,k3,d1,Vbm,nI,tN,z8,iX]
 cases k4:ax==4
 rotate_left
 ·cases c0:Qam ls ⟨ax,bb,bc,az,bh,au,ay,aw,⟨aj,av,ar,an,aq⟩,⟨ah,af⟩⟩ 2
  ·unfold Ibt
   simp only;simp (disch:=first|assumption|omega) only[S0,rA,rQ,rB,rT,rE,k1,k2,k3,k4,Vbm,bP,c0]
  have hK:=La5 hR c0 m4 (by decide);unfold Ibt plA;simp only;rw[c0,if_pos rfl];generalize ma:fU ls ⟨ax,bb,bc,az,bh,au,ay,aw,⟨aj,av,ar,an,aq⟩,⟨ah,af⟩⟩=L at *;obtain⟨q1,q2,q3,q4,q5,q6⟩:=iF hK;have xk:=Ba2 (l:=L) jd;have kd:=mH L ls;have vw:=dQ ht q1;have uj:=(bL q1).1;have kn:=(bL q1).2;simp only at vw;have hf1:=(dY hg q5).2;have hf2:=(dY hg q6).2;have dh:=Cag hg hK;rw[vX]at dh;have hw1:L.who.length<=10000000000:=by omega
  have hw2:mF L.seen:=wC (by omega);cases d1:decide (n / 2<(L.who.length:Int))
  ·simp (disch:=first|assumption|omega) only[S0,rA,rQ,rB,rT,rE,k1,k2,k3,k4,Vbm,bP,c0,ma,dG,d1]
  ·simp (disch:=first|assumption|omega) only[S0,rA,rQ,rB,rT,rE,k1,k2,k3,k4,Vbm,bP,c0,ma,dG,d1,Gau]
 cases k5:ax==5
 rotate_left
 ·unfold Hbs
  simp only;simp (disch:=first|assumption|omega) only[S0,rA,rQ,rB,rT,rE,k1,k2,k3,k4,k5,Vbm,Tah]
 cases k6:ax==6
 rotate_left
 ·unfold Kb0 Taj Vai Sbw sQ
  simp only;cases d1:decide (dm<=au)
  ·simp (disch:=first|assumption|omega) only[S0,rA,rQ,rB,rT,rE,k1,k2,k3,k4,k5,k6,d1,Vbm]
  ·simp (disch:=first|assumption|omega) only[S0,rA,rQ,rB,rT,rE,k1,k2,k3,k4,k5,k6,d1,Vbm,nI,tN,iX]
 have k7:ax=7:=by
  simp only[beq_eq_false_iff_ne]at k1 k2 k3 k4 k5 k6;omega
 simp (disch:=first|assumption|omega) only[S0,rA,rQ,rB,rT,rE,k1,k2,k3,k4,k5,k6,Vbm,Qa7]
theorem Laq (aE ae:Int)(aa:(List (List bF)))(ak:(List aN))(ax bb bc az bh au ay aw aj av ar an aq ah:Int)(af:(List Int))(hs:gF aa)(h2:iB ak)(hl:ak.length<=2000000)(hx:af.length<=10000000000):Fun T 59 [i64 aE,i64 ae,rL aa,rL ak,i64 ax,i64 bb,i64 bc,i64 az,i64 bh,i64 au,i64 ay,i64 aw,i64 aj,i64 av,i64 ar,i64 an,i64 aq,i64 ah,rL af]=some [i64 (vR ⟨aE,⟨ae,aa⟩,ak⟩ ⟨ax,bb,bc,az,bh,au,ay,aw,⟨aj,av,ar,an,aq⟩,⟨ah,af⟩⟩).1.me,i64 (vR ⟨aE,⟨ae,aa⟩,ak⟩ ⟨ax,bb,bc,az,bh,au,ay,aw,⟨aj,av,ar,an,aq⟩,⟨ah,af⟩⟩).1.table.n,rL (vR ⟨aE,⟨ae,aa⟩,ak⟩ ⟨ax,bb,bc,az,bh,au,ay,aw,⟨aj,av,ar,an,aq⟩,⟨ah,af⟩⟩).1.table.rows,rL (vR ⟨aE,⟨ae,aa⟩,ak⟩ ⟨ax,bb,bc,az,bh,au,ay,aw,⟨aj,av,ar,an,aq⟩,⟨ah,af⟩⟩).1.leads,rL (vR ⟨aE,⟨ae,aa⟩,ak⟩ ⟨ax,bb,bc,az,bh,au,ay,aw,⟨aj,av,ar,an,aq⟩,⟨ah,af⟩⟩).2.1,.bool (vR ⟨aE,⟨ae,aa⟩,ak⟩ ⟨ax,bb,bc,az,bh,au,ay,aw,⟨aj,av,ar,an,aq⟩,⟨ah,af⟩⟩).2.2,rL ak]:=by
 rw[aO (t:=Mb8) rfl];unfold Mb8
 have zD:(.rows 15 []:D)=rL ([]:List fC):=rfl;cases c1:bV ⟨aE,⟨ae,aa⟩,ak⟩
 ·have hR:vR ⟨aE,⟨ae,aa⟩,ak⟩ ⟨ax,bb,bc,az,bh,au,ay,aw,⟨aj,av,ar,an,aq⟩,⟨ah,af⟩⟩=Aa3:=by unfold vR Fb6;rw[c1];rfl
  rw[hR];simp (disch:=first|assumption|omega) only[S0,rA,rQ,rB,rT,rE,aK,c1,Vb0,zD];rfl
 cases c2:Hah ae ⟨ax,bb,bc,az,bh,au,ay,aw,⟨aj,av,ar,an,aq⟩,⟨ah,af⟩⟩
 ·have hR:vR ⟨aE,⟨ae,aa⟩,ak⟩ ⟨ax,bb,bc,az,bh,au,ay,aw,⟨aj,av,ar,an,aq⟩,⟨ah,af⟩⟩=Aa3:=by unfold vR Fb6;simp only;rw[c2,Wbn];rfl
  rw[hR];simp (disch:=first|assumption|omega) only[S0,rA,rQ,rB,rT,rE,aK,c1,iH,c2,Vbt,Vb0,zD];rfl
 cases c3:bc==aE
 ·have hR:vR ⟨aE,⟨ae,aa⟩,ak⟩ ⟨ax,bb,bc,az,bh,au,ay,aw,⟨aj,av,ar,an,aq⟩,⟨ah,af⟩⟩=Aa3:=by unfold vR Fb6;simp only;rw[c3,Wbn];rfl
  rw[hR];simp (disch:=first|assumption|omega) only[S0,rA,rQ,rB,rT,rE,aK,c1,iH,c2,c3,bne,Vbt,Vb0,zD];rfl
 have hB:Fb6 ⟨aE,⟨ae,aa⟩,ak⟩ ⟨ax,bb,bc,az,bh,au,ay,aw,⟨aj,av,ar,an,aq⟩,⟨ah,af⟩⟩=true:=by unfold Fb6;simp only;rw[c1,c2,c3];rfl
 have ht:=bJ c1;have hg:=aU ht;have hn:=aL hg;have jl:=bX ht;simp only at ht hg hn jl;obtain⟨m1,m2,m3,m4,m5,m6,m7,m8,m9⟩:=yO c2;simp only at m3;have hb:=dQ ht m3;simp only at hb;have ou:=(bL m3).1;have qn:=(bL m3).2;have oB:=tT ht m3;have sY:=(dY hg (pJ oB hg)).2;simp only at oB sY;have ji:=Sa4 ⟨aE,⟨ae,aa⟩,ak⟩ ⟨ax,bb,bc,az,bh,au,ay,aw,⟨aj,av,ar,an,aq⟩,⟨ah,af⟩⟩ hg;have z9:([]:List fC).length<=1000:=by simp
 have z12:([]:List fC).length<=10000000000:=by simp
 have hl3:ak.length<=3000000:=by omega
 simp only at ji;unfold vR;rw[hB,if_pos rfl];simp only
 have fN:(Jab ⟨aE,⟨ae,aa⟩,ak⟩ ⟨ax,bb,bc,az,bh,au,ay,aw,⟨aj,av,ar,an,aq⟩,⟨ah,af⟩⟩).2.2.2=true->bV ⟨aE,(Jab ⟨aE,⟨ae,aa⟩,ak⟩ ⟨ax,bb,bc,az,bh,au,ay,aw,⟨aj,av,ar,an,aq⟩,⟨ah,af⟩⟩).1,(Jab ⟨aE,⟨ae,aa⟩,ak⟩ ⟨ax,bb,bc,az,bh,au,ay,aw,⟨aj,av,ar,an,aq⟩,⟨ah,af⟩⟩).2.1⟩=true:=by
  intro he;unfold Jab at he ⊢;simp only at he ⊢;split
  ·rename_i hc
   rw[if_pos hc]at he;exact Fb7 (x:=(⟨ae,aa⟩,ak,[],true)) c1 c2 he
  ·split<;>exact c1
 have cU:(Jab ⟨aE,⟨ae,aa⟩,ak⟩ ⟨ax,bb,bc,az,bh,au,ay,aw,⟨aj,av,ar,an,aq⟩,⟨ah,af⟩⟩).1.n=ae:=by
  unfold Jab;simp only;split
  ·exact Ib3 aE (⟨ae,aa⟩,ak,[],true) ⟨ax,bb,bc,az,bh,au,ay,aw,⟨aj,av,ar,an,aq⟩,⟨ah,af⟩⟩ _
  ·split<;>rfl
 have oo:(Jab ⟨aE,⟨ae,aa⟩,ak⟩ ⟨ax,bb,bc,az,bh,au,ay,aw,⟨aj,av,ar,an,aq⟩,⟨ah,af⟩⟩).2.2.2=true->gF (Jab ⟨aE,⟨ae,aa⟩,ak⟩ ⟨ax,bb,bc,az,bh,au,ay,aw,⟨aj,av,ar,an,aq⟩,⟨ah,af⟩⟩).1.rows/\iB (Jab ⟨aE,⟨ae,aa⟩,ak⟩ ⟨ax,bb,bc,az,bh,au,ay,aw,⟨aj,av,ar,an,aq⟩,⟨ah,af⟩⟩).2.1:=fun he=>kW (fN he) (by simp only;omega)
 cases c4:(eF ⟨ae,aa⟩ az bh).state==3
 ·have hX:Jab ⟨aE,⟨ae,aa⟩,ak⟩ ⟨ax,bb,bc,az,bh,au,ay,aw,⟨aj,av,ar,an,aq⟩,⟨ah,af⟩⟩=Qaz aE (⟨ae,aa⟩,ak,[],true) ⟨ax,bb,bc,az,bh,au,ay,aw,⟨aj,av,ar,an,aq⟩,⟨ah,af⟩⟩ (eF ⟨ae,aa⟩ az bh):=by unfold Jab;simp only;rw[c4];rfl
  rw[hX]at fN oo cU ⊢;generalize hW:eF ⟨ae,aa⟩ az bh=W at *;obtain⟨wb,wv,ws,⟨wk,wi,wf,wt,wa⟩,⟨wq,wd⟩⟩:=W;simp only at c4 sY;generalize hY:Qaz aE (⟨ae,aa⟩,ak,[],true) ⟨ax,bb,bc,az,bh,au,ay,aw,⟨aj,av,ar,an,aq⟩,⟨ah,af⟩⟩ ⟨wb,wv,ws,⟨wk,wi,wf,wt,wa⟩,⟨wq,wd⟩⟩=Y at fN oo cU ⊢;cases c5:Y.2.2.2
  ·simp (disch:=first|assumption|omega) only[S0,rA,rQ,rB,rT,rE,aK,c1,iH,c2,c3,bne,Vbt,Vb0,zD,dL,dH,hW,c4,Na3,hY,c5,Kaa,Wbi,Vbm]
   rfl
  ·have e1:=fN c5
   obtain⟨e2,e3⟩:=oo c5;have e4:bV ⟨aE,⟨ae,Y.1.rows⟩,Y.2.1⟩=true:=by rw[Xae cU];exact e1
   simp (disch:=first|assumption|omega) only[S0,rA,rQ,rB,rT,rE,aK,c1,iH,c2,c3,bne,Vbt,Vb0,zD,dL,dH,hW,c4,Na3,hY,c5,nN,e1,e4,Wbf,cU]
 ·have hX:Jab ⟨aE,⟨ae,aa⟩,ak⟩ ⟨ax,bb,bc,az,bh,au,ay,aw,⟨aj,av,ar,an,aq⟩,⟨ah,af⟩⟩=if ax==1||ax==3||ax==6 then Taj aE (⟨ae,aa⟩,ak,[],true) (Pa5 az bh (eF ⟨ae,aa⟩ az bh).cmd (eF ⟨ae,aa⟩ az bh).attr) bb else (⟨ae,aa⟩,ak,[],true):=by unfold Jab;simp only;rw[c4];rfl
  rw[hX];unfold Taj Pa5;simp only;cases k1:ax==1
  ·cases k3:ax==3
   ·cases k6:ax==6
    ·simp (disch:=first|assumption|omega) only[S0,rA,rQ,rB,rT,rE,aK,c1,iH,c2,c3,bne,Vbt,Vb0,zD,dL,dH,c4,k1,k3,k6,Bool.or_self,Vbm,nN,Wbf]
    ·simp (disch:=first|assumption|omega) only[S0,rA,rQ,rB,rT,rE,aK,c1,iH,c2,c3,bne,Vbt,Vb0,zD,dL,dH,c4,k1,k3,k6,Xbw,Vbm,iX,nN,Wbf]
   ·simp (disch:=first|assumption|omega) only[S0,rA,rQ,rB,rT,rE,aK,c1,iH,c2,c3,bne,Vbt,Vb0,zD,dL,dH,c4,k1,k3,Xbw,Xbp,Vbm,iX,nN,Wbf]
  ·simp (disch:=first|assumption|omega) only[S0,rA,rQ,rB,rT,rE,aK,c1,iH,c2,c3,bne,Vbt,Vb0,zD,dL,dH,c4,k1,Xbp,Vbm,iX,nN,Wbf]
theorem Xat (w8 a1v fX qx eE ga fq fu fk lP:Int)(je:(List Int))(fj:Int)(du:(List Int))(sX:Bool)(tf:(List Int))(pB:(List bF))(h1:je.length<=10000000000)(h2:du.length<=10000000000)(h3:tf.length<=10000000000)(h4:mF pB):Fun T 143 [i64 w8,i64 a1v,i64 fX,i64 qx,i64 eE,i64 ga,i64 fq,i64 fu,i64 fk,i64 lP,rL je,i64 fj,rL du,.bool sX,rL tf,rL pB,i64 w8,i64 a1v,i64 fX,i64 qx,i64 eE,i64 ga,i64 fq,i64 fu,i64 fk,i64 lP,rL je,i64 fj,rL du,.bool sX,rL tf,rL pB]=some [.bool true]:=by
 rw[aO (t:=Bbr) rfl];unfold Bbr
 simp (disch:=first|assumption|omega) only[S0,rA,rQ,rB,rT,rE,beq_self_eq_true,Ga3,Ga2,Oac,decide_true,mR,Xbz]
theorem Lau (me n:Int)(rows:List (List bF))(ls:List aN)(hs:gF rows)(h2:iB ls):Fun T 137 [i64 me,i64 n,rL rows,rL ls,i64 me,i64 n,rL rows,rL ls]=some [.bool true]:=by
 rw[aO (t:=Bbx) rfl];unfold Bbx
 have hl:=h2.1;simp (disch:=first|assumption|omega) only[S0,rA,rQ,rB,rT,rE,bne,beq_self_eq_true,Vbt,Vak,decide_true];rw[rX ls.length (fun i=>[i64 i]) (.yield 1,[]) rfl (by simp)]
 ·simp (disch:=first|assumption|omega) only[S0,rA,rQ,rB,rT,rE]
 ·intro i hi bj
  have hb:InB ls (i:Int):=aX.2 hi;obtain⟨u1,u2,u3,u4⟩:=h2.2 _ (at_mem hi);simp (disch:=first|assumption|omega) only[S0,rA,rQ,rB,rT,rE,aS,bj,Xat,Vbt]
 ·intro bj
  simp (disch:=first|assumption|omega) only[S0,rA,rQ,rB,rT,rE,bj]
theorem Ga1 (ms:List fC)(hl:ms.length<=10000000000)(h2:∀ m∈ms,m.attr.deps.length<=10000000000):Fun T 144 [rL ms,rL ms]=some [.bool true]:=by
 rw[aO (t:=Bbq) rfl];unfold Bbq
 simp (disch:=first|assumption|omega) only[S0,rA,rQ,rB,rT,rE,bne,beq_self_eq_true,Vbt];rw[rX ms.length (fun i=>[i64 i]) (.yield 1,[]) rfl (by simp)]
 ·simp (disch:=first|assumption|omega) only[S0,rA,rQ,rB,rT,rE]
 ·intro i hi bj
  have hb:InB ms (i:Int):=aX.2 hi;have h3:=h2 _ (at_mem hi);have h4:(atI ms (i:Int)).attr.deps.length<=1099511627776:=by omega
  have e:=Oa2 (atI ms (i:Int)) (atI ms (i:Int)) h4 h4;rw[Ral]at e;simp (disch:=first|assumption|omega) only[S0,rA,rQ,rB,rT,rE,aS,bj,e,Vbt]
 ·intro bj
  simp (disch:=first|assumption|omega) only[S0,rA,rQ,rB,rT,rE,bj]
theorem Raz (n m:Int)(xs ys:List (List bF))(hx:gF xs)(hy:gF ys)(hg:Hbc xs ys):Fun T 148 [i64 n,rL xs,i64 m,rL ys]=some [.bool true]:=by
 rw[aO (t:=Bbm) rfl];unfold Bbm
 have hl:=hx.1;have kb:=hy.1;simp (disch:=first|assumption|omega) only[S0,rA,rQ,rB,rT,rE];rw[rX xs.length (fun k=>[i64 k]) (.yield 1,[]) rfl (by simp)]
 ·simp (disch:=first|assumption|omega) only[S0,rA,rQ,rB,rT,rE]
 ·intro k hk bj
  have hb:InB xs (k:Int):=aX.2 hk;have hk2:=(hx.2 _ (at_mem hk)).1;simp (disch:=first|assumption|omega) only[S0,rA,rQ,rB,rT,rE,aS,bj];rw[rX (atI xs (k:Int)).length (fun i=>[i64 i]) (.yield 3,[]) rfl (by simp)]
  ·simp (disch:=first|assumption|omega) only[S0,rA,rQ,rB,rT,rE]
  ·intro i hi jg
   obtain⟨g1,g2,g3,g4,g5,g6⟩:=hg k i hk hi;have hbi:InB (atI xs (k:Int)) (i:Int):=aX.2 hi;have zj:InB ys (k:Int):=aX.2 g1;have hbz:InB (atI ys (k:Int)) (i:Int):=aX.2 g2;have hsy:=(hy.2 _ (at_mem g1));have hd:=hsy.2 _ (at_mem g2);have e1:decide (((ys.length:Nat):Int)<=(k:Int))=false:=by simp;omega
   have e2:decide ((((atI ys (k:Int)).length:Nat):Int)<=(i:Int))=false:=by simp;omega
   have hsx:=(hx.2 _ (at_mem hk)).2 _ (at_mem hi);generalize hS:atI (atI ys (k:Int)) (i:Int)=S at *;generalize hQ:atI (atI xs (k:Int)) (i:Int)=Q at *;have e3:decide (S.ballot<Q.ballot)=false:=by simp;omega
   have e4:decide (S.vote<Q.vote)=false:=by simp;omega
   have qq:S.attr.deps.length<=1099511627776:=by omega
   cases c1:Q.state==3
   ·cases c2:Q.state==0
    ·have e5:(S.state==0)=false:=by
      have:=g5 (by simpa using c2);simpa using this
     simp (disch:=first|assumption|omega) only[S0,rA,rQ,rB,rT,rE,aS,jg,e1,e2,hS,hQ,e3,c1,c2,e5,e4,bne,Vb0,Vbt]
    ·simp (disch:=first|assumption|omega) only[S0,rA,rQ,rB,rT,rE,aS,jg,e1,e2,hS,hQ,e3,c1,c2,e4,bne,Vb0,Vbt]
   ·obtain rfl:S=Q:=g4 (by simpa using c1)
    have c2:(S.state==0)=false:=by
     have:S.state=3:=by simpa using c1
     rw[this];rfl
    simp (disch:=first|assumption|omega) only[S0,rA,rQ,rB,rT,rE,aS,jg,e1,e2,hS,hQ,e3,c1,c2,e4,Tao,decide_true,bne,Vb0,Vbt]
  ·intro jg
   simp (disch:=first|assumption|omega) only[S0,rA,rQ,rB,rT,rE,jg]
 ·intro bj
  simp (disch:=first|assumption|omega) only[S0,rA,rQ,rB,rT,rE,bj]
theorem Gbx (n me:Int)(hg:bR n=true)(hm:inR me 0 (n-1)=true):Fun T 7 [i64 n,i64 me]=some [i64 me,i64 n,rL (Wba n.toNat ([]:List bF)),rL ([]:List aN),.bool true]:=by
 rw[aO (t:=tm7) rfl];unfold tm7
 have hn:=aL hg;have z:(.rows 16 []:D)=rL ([]:List aN):=rfl;simp (disch:=first|assumption|omega) only[S0,rA,rQ,rB,rT,rE,lK,hg,Vbt,bU,hm,Ja7,z]
theorem Wal (code:D)(hc:isBytes code)(aE ae:Int)(aa:(List (List bF)))(ak:(List aN))(hr:Ibr ⟨aE,⟨ae,aa⟩,ak⟩)(a s:Int)(h0:0<=a)(h1:a<=10000000):∃ (m:fC) (a' s':Int),Fun T 54 [i64 aE,i64 ae,rL aa,rL ak,code,i64 a,u64 s]=some [i64 m.kind,i64 m.src,i64 m.dst,i64 m.rep,i64 m.no,i64 m.ballot,i64 m.vote,i64 m.state,i64 m.cmd.kind,i64 m.cmd.id,i64 m.cmd.src,i64 m.cmd.dst,i64 m.cmd.amt,i64 m.attr.seq,rL m.attr.deps,rL ak,code,i64 a',u64 s']/\m.attr.deps.length<=10000000000/\a<=a'/\a'<=a+1000:=by
 rw[aO (t:=Nbd) rfl];unfold Nbd
 obtain⟨hm,hn,hs,pP,hl⟩:=hr;simp only at hm hn hs pP hl;obtain⟨m,a1,s1,e1,k1,g1,j1⟩:=Hbp code hc ae a s hn.1 hn.2 h0 (by omega);obtain⟨v2,a2,s2,e2,p2,q2,g2,j2⟩:=bA code hc 2 a1 s1 (by omega) (by omega);have q2':=q2 (by omega);cases c0:(ak.length:Int)==0
 rotate_left
 ·simp (disch:=first|assumption|omega) only[S0,rA,rQ,rB,rT,rE,e1,e2,c0]
  exact⟨⟨m.kind,(aE+1+v2) % 3,aE,m.rep,m.no,m.ballot,m.vote,m.state,m.cmd,m.attr⟩,_,_,rfl,by simp only;omega,by omega,by omega⟩
 have nu:0<ak.length:=by have:=beq_eq_false_iff_ne.1 c0;omega
 obtain⟨v3,a3,s3,e3,g3,j3⟩:=Iag code hc 3 a2 s2 (by omega) (by omega);cases v3
 rotate_left
 ·simp (disch:=first|assumption|omega) only[S0,rA,rQ,rB,rT,rE,e1,e2,c0,e3]
  exact⟨⟨m.kind,(aE+1+v2) % 3,aE,m.rep,m.no,m.ballot,m.vote,m.state,m.cmd,m.attr⟩,_,_,rfl,by simp only;omega,by omega,by omega⟩
 obtain⟨v4,a4,s4,e4,p4,q4,g4,j4⟩:=bA code hc ak.length a3 s3 (by omega) (by omega);have q4':=q4 (by omega);have hb:InB ak v4:=by unfold InB;omega
 obtain⟨u1,u2,u3,u4⟩:=pP.2 _ (iW hb);have e5:=lZ ae hn.1 (by omega);have pw:(Wba ae.toNat (0:Int)).length<=10000000000:=by rw[Wb1];omega
 generalize hA:atI ak v4=L at *;cases c1:L.phase==1
 ·cases c2:L.phase==2
  ·obtain⟨w,a5,s5,e6,k6,g6,j6⟩:=Za2 code hc ae a4 s4 hn.1 (by omega) (by omega) (by omega)
   cases c3:w.state==3
   ·cases c4:decide (w.vote<=L.ballot)
    ·simp (disch:=first|assumption|omega) only[S0,rA,rQ,rB,rT,rE,e1,e2,c0,e3,e4,aS,hA,e5,c1,c2,e6,c3,c4,bne,Vb0,Vbm]
     exact⟨⟨7,(aE+1+v2) % 3,aE,L.rep,L.no,L.ballot,0,0,⟨0,0,0,0,0⟩,⟨0,Wba ae.toNat 0⟩⟩,_,_,rfl,by simp only;omega,by omega,by omega⟩
    ·simp (disch:=first|assumption|omega) only[S0,rA,rQ,rB,rT,rE,e1,e2,c0,e3,e4,aS,hA,e5,c1,c2,e6,c3,c4,bne,Vb0,Vbm]
     exact⟨⟨7,(aE+1+v2) % 3,aE,L.rep,L.no,L.ballot,w.vote,w.state,w.cmd,w.attr⟩,_,_,rfl,by simp only;omega,by omega,by omega⟩
   ·simp (disch:=first|assumption|omega) only[S0,rA,rQ,rB,rT,rE,e1,e2,c0,e3,e4,aS,hA,e5,c1,c2,e6,c3,bne,Vbt,Vbm]
    exact⟨⟨7,(aE+1+v2) % 3,aE,L.rep,L.no,L.ballot,0,0,⟨0,0,0,0,0⟩,⟨0,Wba ae.toNat 0⟩⟩,_,_,rfl,by simp only;omega,by omega,by omega⟩
  ·simp (disch:=first|assumption|omega) only[S0,rA,rQ,rB,rT,rE,e1,e2,c0,e3,e4,aS,hA,e5,c1,c2,Vbm]
   exact⟨⟨4,(aE+1+v2) % 3,aE,L.rep,L.no,L.ballot,0,0,⟨0,0,0,0,0⟩,⟨0,Wba ae.toNat 0⟩⟩,_,_,rfl,by simp only;omega,by omega,by omega⟩
 ·obtain⟨v6,a5,s5,e6,g6,j6⟩:=Iag code hc 3 a4 s4 (by omega) (by omega)
  cases v6
  ·simp (disch:=first|assumption|omega) only[S0,rA,rQ,rB,rT,rE,e1,e2,c0,e3,e4,aS,hA,e5,c1,fT,e6,Vbm]
   exact⟨⟨2,(aE+1+v2) % 3,aE,L.rep,L.no,L.ballot,0,0,⟨0,0,0,0,0⟩,L.first⟩,_,_,rfl,by simp only;omega,by omega,by omega⟩
  ·obtain⟨x,a6,s6,e7,k7,g7,j7⟩:=Ca3 code hc ae a5 s5 hn.1 (by omega) (by omega) (by omega)
   simp (disch:=first|assumption|omega) only[S0,rA,rQ,rB,rT,rE,e1,e2,c0,e3,e4,aS,hA,e5,c1,fT,e6,e7];exact⟨⟨2,(aE+1+v2) % 3,aE,L.rep,L.no,L.ballot,0,0,⟨0,0,0,0,0⟩,x⟩,_,_,rfl,by simp only;omega,by omega,by omega⟩
theorem Aay (code:D)(hc:isBytes code)(a s:Int)(h0:0<=a)(h1:a<=1000000):∃ (r:pO) (a' s':Int),Fun T 3 [code,i64 a,u64 s]=some [i64 r.me,i64 r.table.n,rL r.table.rows,rL r.leads,code,i64 a',u64 s']/\Ibr r/\a<=a'/\a'<=a+100000:=by
 rw[aO (t:=tm3) rfl];unfold tm3
 obtain⟨n,a1,s1,e1,p1,g1,k1⟩:=mM code hc [3,3,3,5] a s (by simp) (by simp) h0 (by omega);have hn:n=3\/n=5:=by simp at p1;omega
 have hg:bR n=true:=by rcases hn with e|e<;>rw[e]<;>rfl
 obtain⟨me,a2,s2,e2,p2,q2,g2,k2⟩:=bA code hc 3 a1 s1 (by omega) (by omega);have q2':=q2 (by omega);have gm:inR me 0 (n-1)=true:=by simp[inR];omega
 have e3:=Gbx n me hg gm;have vk:=Gby hg gm;obtain⟨c0,a3,s3,e4,p4,q4,g4,k4⟩:=bA code hc 7 a2 s2 (by omega) (by omega);have q4':=q4 (by omega);have hc0:c0=((c0.toNat:Nat):Int):=by omega
 rw[hc0]at e4;simp (disch:=first|assumption|omega) only[S0,rA,rQ,rB,rT,rE,e1,e2,e3,e4,jH];generalize hE:Er T (Tm.loop _ _) _=E
 have key:∃ q,E=some q/\∃ (r:pO) (a' s':Int),q=(.yield 1,[code,i64 a',u64 s',i64 r.me,i64 r.table.n,rL r.table.rows,rL r.leads])/\bV r=true/\r.leads.length<=14/\a<=a'/\a'<=a+50000:=by
  rw[<- hE]
  refine Yap (γ:=Nat×Int×Int×pO) (fun c=>c.1) (fun c=>c.1<=6/\bV c.2.2.2=true/\c.2.2.2.leads.length+2*c.1<=14/\a<=c.2.1/\c.2.1+5000*c.1<=a+40000)
   (fun c=>[i64 c.1,code,i64 c.2.1,u64 c.2.2.1,i64 c.2.2.2.me,i64 c.2.2.2.table.n,rL c.2.2.2.table.rows,rL c.2.2.2.leads]) _ (c0.toNat,a3,s3,⟨me,⟨n,Wba n.toNat []⟩,[]⟩) rfl
   ⟨by simp only;omega,vk,by simp only[Wbp];omega,by simp only;omega,by simp only;omega⟩ ?_
  rintro⟨k,a4,s4,⟨rm,⟨rn,rr⟩,rls⟩⟩ ⟨i1,i2,i3,i4,i5⟩
  simp only at i1 i2 i3 i4 i5;have hdr:=Fbn i2 (by simp only;omega);obtain⟨pC,qa⟩:=kW i2 (by simp only;omega);simp only at pC qa;have kb:rls.length<=2000000:=by omega
  rcases Nat.eq_zero_or_pos k with hk|hk
  ·subst hk
   have d0:decide ((0:Int)<((0:Nat):Int))=false:=rfl;refine .inr ⟨_,by simp (disch:=first|assumption|omega) only[S0,rA,rQ,rB,rT,rE,d0],by simp,⟨rm,⟨rn,rr⟩,rls⟩,a4,s4,rfl,i2,by simp only;omega,i4,by omega⟩
  ·obtain⟨k',rfl⟩:∃ k',k=k'+1:=⟨k-1,by omega⟩
   have d:decide ((0:Int)<(k':Int)+1)=true:=by simp only[decide_eq_true_eq];omega
   have ek:(k':Int)+1-1=(k':Int):=by omega
   obtain⟨v5,a5,s5,e5,p5,q5,g5,k5⟩:=bA code hc 4 a4 s4 (by omega) (by omega);refine .inl ?_;cases c1:v5==0
   ·cases c2:v5==1
    ·obtain⟨m,a6,s6,e6,k6,g6,j6⟩:=Wal code hc rm rn rr rls hdr a5 s5 (by omega) (by omega)
     have e7:=Laq rm rn rr rls m.kind m.src m.dst m.rep m.no m.ballot m.vote m.state m.cmd.kind m.cmd.id m.cmd.src m.cmd.dst m.cmd.amt m.attr.seq m.attr.deps pC qa kb k6;generalize hX:vR ⟨rm,⟨rn,rr⟩,rls⟩ ⟨m.kind,m.src,m.dst,m.rep,m.no,m.ballot,m.vote,m.state,⟨m.cmd.kind,m.cmd.id,m.cmd.src,m.cmd.dst,m.cmd.amt⟩,⟨m.attr.seq,m.attr.deps⟩⟩=X at e7;cases c3:X.2.2
     ·rw[c3]at e7
      exact⟨(k',a6,s6,⟨rm,⟨rn,rr⟩,rls⟩),by simp (disch:=first|assumption|omega) only[S0,rA,rQ,rB,rT,rE,d,e5,c1,c2,e6,e7,ek,Vbm],⟨by simp only;omega,i2,by simp only;omega,by simp only;omega,by simp only;omega⟩,by simp only;omega⟩
     ·rw[c3]at e7
      have ka:=Cbw (r:=⟨rm,⟨rn,rr⟩,rls⟩) (m:=⟨m.kind,m.src,m.dst,m.rep,m.no,m.ballot,m.vote,m.state,⟨m.cmd.kind,m.cmd.id,m.cmd.src,m.cmd.dst,m.cmd.amt⟩,⟨m.attr.seq,m.attr.deps⟩⟩) (by rw[hX];exact c3);rw[hX]at ka;simp only at ka;exact⟨(k',a6,s6,X.1),by simp (disch:=first|assumption|omega) only[S0,rA,rQ,rB,rT,rE,d,e5,c1,c2,e6,e7,ek,Vbm],⟨by simp only;omega,ka.1,by simp only;omega,by simp only;omega,by simp only;omega⟩,by simp only;omega⟩
    ·obtain⟨x1,x2,a6,s6,e6,g6,j6⟩:=Gac code hc a5 s5 (by omega) (by omega)
     have e7:=wB rm rn rr rls x1 x2 pC qa kb;generalize hX:aZ ⟨rm,⟨rn,rr⟩,rls⟩ x1 x2=X at e7;cases c3:X.2.2
     ·rw[c3]at e7
      exact⟨(k',a6,s6,⟨rm,⟨rn,rr⟩,rls⟩),by simp (disch:=first|assumption|omega) only[S0,rA,rQ,rB,rT,rE,d,e5,c1,c2,e6,e7,ek,Vbm],⟨by simp only;omega,i2,by simp only;omega,by simp only;omega,by simp only;omega⟩,by simp only;omega⟩
     ·rw[c3]at e7
      have ka:=Ga9 (r:=⟨rm,⟨rn,rr⟩,rls⟩) (rep:=x1) (no:=x2) (by rw[hX];exact c3);rw[hX]at ka;simp only at ka;exact⟨(k',a6,s6,X.1),by simp (disch:=first|assumption|omega) only[S0,rA,rQ,rB,rT,rE,d,e5,c1,c2,e6,e7,ek,Vbm],⟨by simp only;omega,ka.1,by simp only;omega,by simp only;omega,by simp only;omega⟩,by simp only;omega⟩
   ·obtain⟨c,a6,s6,e6,-,-,g6,j6⟩:=Eaa code hc a5 s5 (by omega) (by omega)
    have e7:=zT rm rn rr rls c.kind c.id c.src c.dst c.amt pC qa kb;generalize hX:bE ⟨rm,⟨rn,rr⟩,rls⟩ ⟨c.kind,c.id,c.src,c.dst,c.amt⟩=X at e7;cases c3:X.2.2
    ·rw[c3]at e7
     exact⟨(k',a6,s6,⟨rm,⟨rn,rr⟩,rls⟩),by simp (disch:=first|assumption|omega) only[S0,rA,rQ,rB,rT,rE,d,e5,c1,e6,e7,ek,Vbm],⟨by simp only;omega,i2,by simp only;omega,by simp only;omega,by simp only;omega⟩,by simp only;omega⟩
    ·rw[c3]at e7
     have ka:=Ja2 (r:=⟨rm,⟨rn,rr⟩,rls⟩) (c:=⟨c.kind,c.id,c.src,c.dst,c.amt⟩) (by rw[hX];exact c3);rw[hX]at ka;simp only at ka;exact⟨(k',a6,s6,X.1),by simp (disch:=first|assumption|omega) only[S0,rA,rQ,rB,rT,rE,d,e5,c1,e6,e7,ek,Vbm],⟨by simp only;omega,ka.1,by simp only;omega,by simp only;omega,by simp only;omega⟩,by simp only;omega⟩
 obtain⟨q,hq,⟨rm,⟨rn,rr⟩,rls⟩,a4,s4,rfl,i2,i3,i4,i5⟩:=key;rw[hq];simp only at i2 i3;have hdr:=Fbn i2 (by simp only;omega);obtain⟨d1,d2,d3,d4,d5⟩:=hdr;simp only at d1 d2 d3 d4 d5;obtain⟨v6,a6,s6,e6,p6,q6,g6,k6⟩:=bA code hc 40 a4 s4 (by omega) (by omega);cases c1:v6==0
 ·cases c2:v6==1
  ·simp (disch:=first|assumption|omega) only[S0,rA,rQ,rB,rT,rE,e6,c1,c2,Vbm]
   exact⟨⟨rm,⟨rn,rr⟩,rls⟩,_,_,rfl,⟨d1,d2,d3,d4,by simp only;omega⟩,by omega,by omega⟩
  ·have ji:rls.length+([⟨0,0,0,0,⟨0,0,0,0,0⟩,⟨0,[]⟩,⟨0,[]⟩,false,[],[]⟩]:List aN).length<=100000000000:=by simp only[Wbb,Wbp];omega
   have z1:(.rows 1 []:D)=rL ([]:List Int):=rfl;have z2:(.rows 10 []:D)=rL ([]:List bF):=rfl;have z3:(aT.mk 16 1).run [i64 0,i64 0,i64 0,i64 0,i64 0,i64 0,i64 0,i64 0,i64 0,i64 0,rL ([]:List Int),i64 0,rL ([]:List Int),.bool false,rL ([]:List Int),rL ([]:List bF)]=some [rL ([⟨0,0,0,0,⟨0,0,0,0,0⟩,⟨0,[]⟩,⟨0,[]⟩,false,[],[]⟩]:List aN)]:=rfl;simp (disch:=first|assumption|omega) only[S0,rA,rQ,rB,rT,rE,e6,c1,c2,z1,z2,z3,kU,Vbm];refine⟨⟨rm,⟨rn,rr⟩,rls++[⟨0,0,0,0,⟨0,0,0,0,0⟩,⟨0,[]⟩,⟨0,[]⟩,false,[],[]⟩]⟩,_,_,rfl,⟨d1,d2,d3,⟨?_,?_⟩,?_⟩,by omega,by omega⟩
   ·simp only[Vbw,Wbb,Wbp];omega
   ·intro x hx
    rcases List.mem_append.1 hx with hx|hx
    ·exact d4.2 x hx
    ·rw[Vbp]at hx
     subst hx;exact⟨by simp,by simp,by simp,by simp,by simp⟩
   ·simp only[Vbw,Wbb,Wbp];omega
 ·obtain⟨v7,a7,s7,e7,p7,q7,g7,k7⟩:=bA code hc 6 a6 s6 (by omega) (by omega)
  have q7':=q7 (by omega);simp (disch:=first|assumption|omega) only[S0,rA,rQ,rB,rT,rE,e6,c1,e7];exact⟨⟨v7,⟨rn,rr⟩,rls⟩,_,_,rfl,⟨⟨p7,by simp only;omega⟩,d2,d3,d4,by simp only;omega⟩,by omega,by omega⟩
theorem Paz (code:D)(hc:isBytes code):∃ (r:pO) (c:kM),Fun T 2 [code]=some [i64 r.me,i64 r.table.n,rL r.table.rows,rL r.leads,i64 c.kind,i64 c.id,i64 c.src,i64 c.dst,i64 c.amt]/\Ibr r:=by
 rw[aO (t:=tm2) rfl];unfold tm2
 obtain⟨r,a1,s1,e1,k1,g1,j1⟩:=Aay code hc 0 0 (by omega) (by omega);obtain⟨c,a2,s2,e2,g2,j2⟩:=kF code hc a1 s1 (by omega) (by omega);simp (disch:=first|assumption|omega) only[S0,rA,rQ,rB,rT,rE,Nan,e1,e2];exact⟨r,c,rfl,k1⟩
theorem Maw (code:D)(hc:isBytes code):∃ (r:pO) (k i:Int),Fun T 149 [code]=some [i64 r.me,i64 r.table.n,rL r.table.rows,rL r.leads,i64 k,i64 i]/\Ibr r:=by
 rw[aO (t:=Bbl) rfl];unfold Bbl
 obtain⟨r,a1,s1,e1,k1,g1,j1⟩:=Aay code hc 0 0 (by omega) (by omega);obtain⟨k,i,a2,s2,e2,g2,j2⟩:=Gac code hc a1 s1 (by omega) (by omega);simp (disch:=first|assumption|omega) only[S0,rA,rQ,rB,rT,rE,Nan,e1,e2];exact⟨r,k,i,rfl,k1⟩
theorem Sad (code:D)(hc:isBytes code):∃ (r:pO) (k i:Int),Fun T 153 [code]=some [i64 r.me,i64 r.table.n,rL r.table.rows,rL r.leads,i64 k,i64 i]/\Ibr r:=by
 rw[aO (t:=Bbh) rfl];unfold Bbh
 obtain⟨r,a1,s1,e1,k1,g1,j1⟩:=Aay code hc 0 0 (by omega) (by omega);have hl:=k1.2.2.2.2;cases c0:decide ((0:Int)<(r.leads.length:Int))
 ·obtain⟨k,i,a2,s2,e2,g2,j2⟩:=Gac code hc a1 s1 (by omega) (by omega)
  simp (disch:=first|assumption|omega) only[S0,rA,rQ,rB,rT,rE,Nan,e1,c0,e2,Vbm];exact⟨r,k,i,rfl,k1⟩
 ·obtain⟨v,a2,s2,e2,g2,j2⟩:=Iag code hc 6 a1 s1 (by omega) (by omega)
  cases v
  ·obtain⟨v3,a3,s3,e3,p3,q3,g3,j3⟩:=bA code hc r.leads.length a2 s2 (by omega) (by omega)
   have nu:(0:Int)<(r.leads.length:Int):=by simpa using c0
   have q3':=q3 (by omega);have hb:InB r.leads v3:=by unfold InB;omega
   simp (disch:=first|assumption|omega) only[S0,rA,rQ,rB,rT,rE,Nan,e1,c0,e2,Vb0,e3,aS];exact⟨r,(atI r.leads v3).rep,(atI r.leads v3).no,rfl,k1⟩
  ·obtain⟨k,i,a3,s3,e3,g3,j3⟩:=Gac code hc a2 s2 (by omega) (by omega)
   simp (disch:=first|assumption|omega) only[S0,rA,rQ,rB,rT,rE,Nan,e1,c0,e2,Vbt,e3,Vbm];exact⟨r,k,i,rfl,k1⟩
theorem law (code more:D)(hc:isBytes code)(hm:isBytes more):Fun T 0 [code,more]=some [.bool true]:=by
 rw[aO (t:=tm0) rfl];unfold tm0
 obtain⟨b,eb⟩:=Dbo code more hc hm;cases b
 rotate_left
 ·simp (disch:=first|assumption|omega) only[S0,rA,rQ,rB,rT,rE,eb]
 obtain⟨⟨rm,⟨rn,rr⟩,rls⟩,⟨ck,cid,qS,rj,q9⟩,e1,-,-,p3,p4,p5⟩:=Paz code hc;obtain⟨⟨um,⟨un,ur⟩,uls⟩,rep,no,e2,-,-,q3,q4,q5⟩:=Maw more hm;obtain⟨⟨vm,⟨vn,vr⟩,vls⟩,k,i,e3,-,-,t3,t4,t5⟩:=Sad more hm;simp only at e1 e2 e3 p3 p4 p5 q3 q4 q5 t3 t4 t5;have a1:=Mar rm rn rr rls ck cid qS rj q9 p3 p4 (by omega);have a2:=zT rm rn rr rls ck cid qS rj q9 p3 p4 (by omega);have a3:=Ia1 (Qa5 ⟨rm,⟨rn,rr⟩,rls⟩ ⟨ck,cid,qS,rj,q9⟩ (by simp only;omega));have a4:=Qa4 (r:=⟨rm,⟨rn,rr⟩,rls⟩) (c:=⟨ck,cid,qS,rj,q9⟩);have b1:=Jam um un ur uls rep no q3 q4 (by omega);have b2:=wB um un ur uls rep no q3 q4 (by omega);have b3:=Ia1 (Oal ⟨um,⟨un,ur⟩,uls⟩ rep no (by simp only;omega));have b4:=Oak (r:=⟨um,⟨un,ur⟩,uls⟩) (rep:=rep) (no:=no);have c1:=Pad vm vn vr vls k i t3 t4 (by omega);have c2:=Lar vm vn vr vls k i t3 t4 (by omega);have c3:=Ia1 (Va4 ⟨vm,⟨vn,vr⟩,vls⟩ k i (by simp only;omega));generalize bE ⟨rm,⟨rn,rr⟩,rls⟩ ⟨ck,cid,qS,rj,q9⟩=X at a1 a2 a3 a4;generalize aZ ⟨um,⟨un,ur⟩,uls⟩ rep no=Y at b1 b2 b3 b4;generalize jS ⟨vm,⟨vn,vr⟩,vls⟩ k i=Z at c1 c2 c3;obtain⟨⟨xm,⟨xn,xr⟩,xls⟩,xo,xb⟩:=X;obtain⟨⟨ym,⟨yn,yr⟩,yls⟩,yo,yb⟩:=Y;obtain⟨⟨zm,⟨zn,zr⟩,zls⟩,zo,zb⟩:=Z;simp only at a1 a2 a3 a4 b1 b2 b3 b4 c1 c2 c3;obtain⟨a5,a6,a7,a8⟩:=a3;obtain⟨b5,b6,b7,b8⟩:=b3;obtain⟨c5,c6,c7,c8⟩:=c3;have sx:=Lau xm xn xr xls a5 a6;have sxo:=Ga1 xo a7 a8;have sy:=Lau ym yn yr yls b5 b6
 have syo:=Ga1 yo b7 b8;have sz:=Lau zm zn zr zls c5 c6;have szo:=Ga1 zo c7 c8
 have rest:yb=true->∃ (x1 x2:bF),Fun T 146 [i64 un,rL ur,i64 rep,i64 no]=some [i64 x1.ballot,i64 x1.vote,i64 x1.state,i64 x1.cmd.kind,i64 x1.cmd.id,i64 x1.cmd.src,i64 x1.cmd.dst,i64 x1.cmd.amt,i64 x1.attr.seq,rL x1.attr.deps,.bool true]/\Fun T 146 [i64 yn,rL yr,i64 rep,i64 no]=some [i64 x2.ballot,i64 x2.vote,i64 x2.state,i64 x2.cmd.kind,i64 x2.cmd.id,i64 x2.cmd.src,i64 x2.cmd.dst,i64 x2.cmd.amt,i64 x2.attr.seq,rL x2.attr.deps,.bool true] /\
   x1.ballot<x2.ballot/\x2.ballot % 8=um/\0<=x2.ballot/\x2.state=x1.state/\x2.vote=x1.vote/\(yo.length:Int)=un-1:=by
  intro hy;obtain⟨d1,d2,d3,d4,d5,d6,d7,d8⟩:=b4 hy;have f1:=Da3 un ur rep no q3;have f2:=Da3 yn yr rep no b5;rw[d3]at f1;rw[d4]at f2;exact⟨_,_,f1,f2,d6,d7,d8,rfl,rfl,d5⟩
 cases xb
 ·cases yb
  ·simp (maxSteps:=4000000) (disch:=first|assumption|omega) only[S0,rA,rQ,rB,rT,rE,eb,e1,a1,a2,sx,sxo,e2,b1,b2,sy,syo,e3,c1,c2,sz,szo]
  ·obtain⟨x1,x2,f1,f2,f3,f4,f5,f6,f7,f8⟩:=rest rfl
   have g1:decide (x2.ballot<=x1.ballot)=false:=by simp;omega
   have g2:=yF (a:=x2.ballot) (b:=8) f5 (by omega);rw[f4]at g2;simp (maxSteps:=4000000) (disch:=first|assumption|omega) only[S0,rA,rQ,rB,rT,rE,eb,e1,a1,a2,sx,sxo,e2,b1,b2,sy,syo,e3,c1,c2,sz,szo,f1,f2,g1,g2,f6,f7,f8,bne]
 ·obtain⟨h1,h2,h3,h4,⟨a,h5⟩,h6,h7⟩:=a4 rfl
  have hmI:InB rr rm:=by
   have:=gD h1;have:=bX (bJ h1);unfold InB;simp only at *;omega
  have g0:=Da3 xn xr rm (((atI rr rm).length:Int)+1) a5;have sd:mV ⟨xn,xr⟩ rm (((atI rr rm).length:Int)+1)=(kG 0 ⟨ck,cid,qS,rj,q9⟩ a,true):=h5;rw[sd]at g0;simp only[kG]at g0;have jl:=(p3.2 _ (iW hmI)).1;have gg:=Raz rn xn rr xr p3 a5 h7;cases yb
  ·simp (maxSteps:=4000000) (disch:=first|assumption|omega) only[S0,rA,rQ,rB,rT,rE,eb,e1,a1,a2,sx,sxo,aS,hmI,g0,gg,h6,mR,e2,b1,b2,sy,syo,e3,c1,c2,sz,szo,bne]
  ·obtain⟨x1,x2,f1,f2,f3,f4,f5,f6,f7,f8⟩:=rest rfl
   have g1:decide (x2.ballot<=x1.ballot)=false:=by simp;omega
   have g2:=yF (a:=x2.ballot) (b:=8) f5 (by omega);rw[f4]at g2;simp (maxSteps:=4000000) (disch:=first|assumption|omega) only[S0,rA,rQ,rB,rT,rE,eb,e1,a1,a2,sx,sxo,aS,hmI,g0,gg,h6,mR,e2,b1,b2,sy,syo,e3,c1,c2,sz,szo,f1,f2,g1,g2,f6,f7,f8,bne]
theorem hpure:∀ ds,WTs [.sl 1 [.int .u8],.sl 1 [.int .u8]] ds->∃ n,kL T n 0 ds=some [.bool true]:=by
 intro ds h;simp only[WTs]at h;obtain⟨d0,r0,rfl,w0,d1,r1,rfl,w1,rfl⟩:=h;exact Gbt (law d0 d1 w0 w1)
end FnLeads
end Go.Proofs.YtgpamlpecmldfaaGreat
