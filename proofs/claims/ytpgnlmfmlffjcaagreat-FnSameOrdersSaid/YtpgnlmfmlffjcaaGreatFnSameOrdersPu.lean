/- What oe terms of FnSameOrders come to. -/
import Derived.Test.YtpgnlmfmlffjcaaGreatFnSameOrdersTab
open Bool renaming and_eq_true → Qb1, false_eq_true → Qb4, not_eq_true' → Rbp, or_eq_true → Sbe, not_true → Sb2, and_true → Sb4, or_false → Tbl, or_true → Tb4, eq_iff_iff → Tb6, true_and → Ubh, not_false → Ubk
open Int renaming toNat_natCast → Rb8, toNat_zero → Tbh
open List renaming length_append → Qb6, append_assoc → Rba, mem_singleton → Rbb, length_cons → Rbe, replicate → Rbf, length_map → Rbh, length_nil → Rbk, length_take → Rbq, append_nil → Rbs, length_replicate → Rbw, take_length → Rb5, nil_append → Sba, length_drop → Sbf, map_append → Sbr, length_filter_le → Sbs, filter_append → Sbt, eq_of_mem_replicate → Sbw, drop_eq_getElem_cons → Sbz, mem_append → Sb5, length_set → Sb6, filter_nil → Sb9, filter_cons_of_neg → Tbb, mem_of_mem_take → Tbc, drop_zero → Tbp, filter_cons_of_pos → Tbq, length_pos_of_mem → Tbt, getElem_take → Tbx, replicate_zero → Ubi
open Nat renaming le_refl → Rbg, lt_or_ge → Rbo, zero_le → Sbq, le_trans → Sb3
namespace Go.Proofs.YtpgnlmfmlffjcaaGreat
namespace FnSameOrders
open Go Go.Proofs.YtpgnlmfmlffjcaaGreat.Rf
open Nat renaming reduceAdd → rA, reduceEqDiff → rQ
open Int renaming reduceBEq → rB, reduceLT → rT, reduceLE → rE
set_option linter.unusedSimpArgs false
set_option linter.unusedVariables false
set_option linter.unnecessarySimpa false
set_option maxHeartbeats 4000000
set_option maxRecDepth 10000
theorem lJ (x lo up:Int):Fun T 35 [i64 x,i64 lo,i64 up]=some [.bool (inR x lo up)]:=by
 rw[aS (t:=Kbu) rfl];unfold Kbu;unfold inR
 (refine aK ?_;repeat' (refine aJ ?_ ?_<;>intro _<;>try simp (disch:=first|assumption|omega) only[S0,rA,rQ,rB,rT,rE, *]))
theorem nC (x lo up:Int):Fun T 107 [i64 x,i64 lo,i64 up]=some [.bool (inR x lo up)]:=by
 rw[aS (t:=Abz) rfl];unfold Abz;unfold inR
 (refine aK ?_;repeat' (refine aJ ?_ ?_<;>intro _<;>try simp (disch:=first|assumption|omega) only[S0,rA,rQ,rB,rT,rE, *]))
theorem kE (n:Int):Fun T 27 [i64 n]=some [.bool (dK n)]:=by
 rw[aS (t:=Kb2) rfl];unfold Kb2;unfold dK
 (refine aK ?_;repeat' (refine aJ ?_ ?_<;>intro _<;>try simp (disch:=first|assumption|omega) only[S0,rA,rQ,rB,rT,rE, *]))
theorem uW (n:Int):Fun T 105 [i64 n]=some [.bool (dK n)]:=by
 rw[aS (t:=Ab1) rfl];unfold Ab1;unfold dK
 (refine aK ?_;repeat' (refine aJ ?_ ?_<;>intro _<;>try simp (disch:=first|assumption|omega) only[S0,rA,rQ,rB,rT,rE, *]))
theorem Iar (n:Int):Fun T 37 [i64 n]=some [.bool (inR n 0 3)]:=by
 rw[aS (t:=Kbs) rfl];unfold Kbs
 (refine aK ?_;repeat' (refine aJ ?_ ?_<;>intro _<;>try simp (disch:=first|assumption|omega) only[S0,rA,rQ,rB,rT,rE,lJ, *]))
theorem Iah (n:Int):Fun T 112 [i64 n]=some [.bool (inR n 0 3)]:=by
 rw[aS (t:=Abu) rfl];unfold Abu
 (refine aK ?_;repeat' (refine aJ ?_ ?_<;>intro _<;>try simp (disch:=first|assumption|omega) only[S0,rA,rQ,rB,rT,rE,nC, *]))
theorem Qan (k i f t a:Int):Fun T 111 [i64 k,i64 i,i64 f,i64 t,i64 a]=some [i64 (Maj ⟨k,i,f,t,a⟩)]:=by
 rw[aS (t:=Abv) rfl];unfold Abv;unfold Maj
 (refine aK ?_;repeat' (refine aJ ?_ ?_<;>intro _<;>try simp (disch:=first|assumption|omega) only[S0,rA,rQ,rB,rT,rE,Iah,nC, *]))
theorem Naq (k i f t a:Int):Fun T 110 [i64 k,i64 i,i64 f,i64 t,i64 a]=some [.bool (pU ⟨k,i,f,t,a⟩)]:=by
 rw[aS (t:=Abw) rfl];unfold Abw;unfold pU
 (refine aK ?_;repeat' (refine aJ ?_ ?_<;>intro _<;>try simp (disch:=first|assumption|omega) only[S0,rA,rQ,rB,rT,rE,Qan,Dba,Cbx, *]))
 all_goals (refine Tay ?_;simp only[Qb1,Sbe,Rbp,Bool.not_eq_false',Bool.and_eq_false_iff,Bool.or_eq_false_iff,Qb4,beq_iff_eq,beq_eq_false_iff_ne,decide_eq_true_eq,decide_eq_false_iff_not,ne_eq]at *;grind)
theorem Oau (k i f t a:Int):Fun T 36 [i64 k,i64 i,i64 f,i64 t,i64 a]=some [.bool (pU ⟨k,i,f,t,a⟩)]:=by
 rw[aS (t:=Kbt) rfl];unfold Kbt;unfold pU
 (refine aK ?_;repeat' (refine aJ ?_ ?_<;>intro _<;>try simp (disch:=first|assumption|omega) only[S0,rA,rQ,rB,rT,rE,lJ,Iar,Dba, *]))
theorem zD (n rep no:Int)(hg:dK n=true):Fun T 131 [i64 n,i64 rep,i64 no]=some [.bool (inst n rep no)]:=by
 rw[aS (t:=Abb) rfl];unfold Abb;unfold inst
 have hn:=bD hg
 (refine aK ?_;repeat' (refine aJ ?_ ?_<;>intro _<;>try simp (disch:=first|assumption|omega) only[S0,rA,rQ,rB,rT,rE,nC, *]))
theorem dS (n rep no:Int):Fun T 65 [i64 n,i64 rep,i64 no]=some [.bool (dK n&&inst n rep no)]:=by
 rw[aS (t:=Jb1) rfl];unfold Jb1;unfold inst
 cases hg:dK n
 ·(refine aK ?_;repeat' (refine aJ ?_ ?_<;>intro _<;>try simp (disch:=first|assumption|omega) only[S0,rA,rQ,rB,rT,rE,kE, *]))
 have hn:=bD hg
 (refine aK ?_;repeat' (refine aJ ?_ ?_<;>intro _<;>try simp (disch:=first|assumption|omega) only[S0,rA,rQ,rB,rT,rE,kE,lJ, *]))
theorem Uao (xs:List Int)(lo up:Int)(hx:xs.length<=1099511627776):Fun T 114 [rL xs,i64 lo,i64 up]=some [.bool (xs.all fun x=>inR x lo up)]:=by
 rw[aS (t:=Abs) rfl];unfold Abs
 simp (disch:=first|assumption|omega) only[S0,rA,rQ,rB,rT,rE,aN, *];rw[Pbf 1 xs (fun x=>inR x lo up) [.bool false]]
 ·(refine aK ?_;repeat' (refine aJ ?_ ?_<;>intro _<;>try simp (disch:=first|assumption|omega) only[S0,rA,rQ,rB,rT,rE, *]))
 ·intro i hi hb hl hp
  (refine aK ?_;repeat' (refine aJ ?_ ?_<;>intro _<;>try simp (disch:=first|assumption|omega) only[S0,rA,rQ,rB,rT,rE,aN,nC, *]))
 ·intro i hi hb hl hp
  (refine aK ?_;repeat' (refine aJ ?_ ?_<;>intro _<;>try simp (disch:=first|assumption|omega) only[S0,rA,rQ,rB,rT,rE,aN,nC, *]))
 ·intro hl
  (refine aK ?_;repeat' (refine aJ ?_ ?_<;>intro _<;>try simp (disch:=first|assumption|omega) only[S0,rA,rQ,rB,rT,rE, *]))
theorem Qam (n s:Int)(xs:List Int)(hx:xs.length<=1099511627776):Fun T 113 [i64 n,i64 s,rL xs]=some [.bool (uH n ⟨s,xs⟩)]:=by
 rw[aS (t:=Abt) rfl];unfold Abt;unfold uH
 (refine aK ?_;repeat' (refine aJ ?_ ?_<;>intro _<;>try simp (disch:=first|assumption|omega) only[S0,rA,rQ,rB,rT,rE,nC,Uao, *]))
theorem vX (x:Int):Fun T 41 [i64 x]=some [.bool (!inR x 0 6)]:=by
 rw[aS (t:=Kbo) rfl];unfold Kbo
 (refine aK ?_;repeat' (refine aJ ?_ ?_<;>intro _<;>try simp (disch:=first|assumption|omega) only[S0,rA,rQ,rB,rT,rE,lJ, *]))
theorem Lar  (xs:List Int)(hx:xs.length<=1099511627776):Fun T 40 [rL xs]=some [i64 (ixF (fun x=>!inR x 0 6) xs)]:=by
 rw[aS (t:=Kbp) rfl];unfold Kbp
 simp (disch:=first|assumption|omega) only[S0,rA,rQ,rB,rT,rE,aN, *];rw[Bas 1 xs (fun x=>!inR x 0 6) (fun i=>[i64 i])]
 ·cases h:xs.any (fun x=>!inR x 0 6)
  ·have e:ixF (fun x=>!inR x 0 6) xs=-1:=by
    have h2:=eP (fun x=>!inR x 0 6) xs;rw[h]at h2;unfold ixF at h2 ⊢;split at h2<;>simp_all
   rw[e];simp (disch:=first|assumption|omega) only[S0,rA,rQ,rB,rT,rE]
  ·simp (disch:=first|assumption|omega) only[S0,rA,rQ,rB,rT,rE]
 ·intro i hi hb hl hp
  (refine aK ?_;repeat' (refine aJ ?_ ?_<;>intro _<;>try simp (disch:=first|assumption|omega) only[S0,rA,rQ,rB,rT,rE,aN,vX, *]))
 ·intro i hi hb hl hp
  (refine aK ?_;repeat' (refine aJ ?_ ?_<;>intro _<;>try simp (disch:=first|assumption|omega) only[S0,rA,rQ,rB,rT,rE,aN,vX, *]))
 ·intro hl
  (refine aK ?_;repeat' (refine aJ ?_ ?_<;>intro _<;>try simp (disch:=first|assumption|omega) only[S0,rA,rQ,rB,rT,rE, *]))
theorem Mae  (xs:List Int)(hx:xs.length<=1099511627776):Fun T 39 [rL xs]=some [.bool (xs.any (fun x=>!inR x 0 6))]:=by
 rw[aS (t:=Kbq) rfl];unfold Kbq
 (refine aK ?_;repeat' (refine aJ ?_ ?_<;>intro _<;>try simp (disch:=first|assumption|omega) only[S0,rA,rQ,rB,rT,rE,Lar,eP, *]))
theorem La2 (n s:Int)(xs:List Int)(hx:xs.length<=1099511627776):Fun T 38 [i64 n,i64 s,rL xs]=some [.bool (dK n&&uH n ⟨s,xs⟩)]:=by
 rw[aS (t:=Kbr) rfl];unfold Kbr;unfold uH
 have e:xs.any (fun x=>!inR x 0 6)=!xs.all fun x=>inR x 0 6:=by rw[List.not_all_eq_any_not]
 (refine aK ?_;repeat' (refine aJ ?_ ?_<;>intro _<;>try simp (disch:=first|assumption|omega) only[S0,rA,rQ,rB,rT,rE,kE,lJ,Mae,e,Bool.not_not, *]))
theorem zF (xs ys:List Int)(hx:xs.length<=1099511627776):Fun T 109 [rL xs,rL ys]=some [.bool (decide (xs=ys))]:=by
 rw[aS (t:=Abx) rfl];unfold Abx
 by_cases hl:ys.length=xs.length
 ·simp (disch:=first|assumption|omega) only[S0,rA,rQ,rB,rT,rE, *]
  rw[Bbc 1 xs.length (fun i=>decide (atI xs i=atI ys i)) [.bool false],Ra7 hl.symm]
  ·(refine aK ?_;repeat' (refine aJ ?_ ?_<;>intro _<;>try simp (disch:=first|assumption|omega) only[S0,rA,rQ,rB,rT,rE, *]))
  ·intro i hi hp
   have hb:InB xs (i:Int):=aM.2 hi;have cr:InB ys (i:Int):=aM.2 (by omega);have h2:decide ((i:Int)<xs.length)=true:=by simp;omega
   have h3:(atI xs i==atI ys i)=true:=by simpa using hp
   (refine aK ?_;repeat' (refine aJ ?_ ?_<;>intro _<;>try simp (disch:=first|assumption|omega) only[S0,rA,rQ,rB,rT,rE,aN, *]))
  ·intro i hi hp
   have hb:InB xs (i:Int):=aM.2 hi;have cr:InB ys (i:Int):=aM.2 (by omega);have h2:decide ((i:Int)<xs.length)=true:=by simp;omega
   have h3:(atI xs i==atI ys i)=false:=by simpa using hp
   (refine aK ?_;repeat' (refine aJ ?_ ?_<;>intro _<;>try simp (disch:=first|assumption|omega) only[S0,rA,rQ,rB,rT,rE,aN, *]))
  ·have h2:decide ((xs.length:Int)<xs.length)=false:=by simp
   (refine aK ?_;repeat' (refine aJ ?_ ?_<;>intro _<;>try simp (disch:=first|assumption|omega) only[S0,rA,rQ,rB,rT,rE, *]))
 ·have fq:((xs.length:Int)==(ys.length:Int))=false:=by simp;omega
  have e:=Yaq (fun h=>hl h.symm)
  (refine aK ?_;repeat' (refine aJ ?_ ?_<;>intro _<;>try simp (disch:=first|assumption|omega) only[S0,rA,rQ,rB,rT,rE, *]))
theorem slices_Equal_int (xs ys:List Int)(hx:xs.length<=1099511627776):Fun T 44 [rL xs,rL ys]=some [.bool (decide (xs=ys))]:=by
 rw[aS (t:=Kbl) rfl];unfold Kbl
 by_cases hl:ys.length=xs.length
 ·simp (disch:=first|assumption|omega) only[S0,rA,rQ,rB,rT,rE, *]
  rw[Bbc 1 xs.length (fun i=>decide (atI xs i=atI ys i)) [.bool false],Ra7 hl.symm]
  ·(refine aK ?_;repeat' (refine aJ ?_ ?_<;>intro _<;>try simp (disch:=first|assumption|omega) only[S0,rA,rQ,rB,rT,rE, *]))
  ·intro i hi hp
   have hb:InB xs (i:Int):=aM.2 hi;have cr:InB ys (i:Int):=aM.2 (by omega);have h2:decide ((i:Int)<xs.length)=true:=by simp;omega
   have h3:(atI xs i==atI ys i)=true:=by simpa using hp
   (refine aK ?_;repeat' (refine aJ ?_ ?_<;>intro _<;>try simp (disch:=first|assumption|omega) only[S0,rA,rQ,rB,rT,rE,aN, *]))
  ·intro i hi hp
   have hb:InB xs (i:Int):=aM.2 hi;have cr:InB ys (i:Int):=aM.2 (by omega);have h2:decide ((i:Int)<xs.length)=true:=by simp;omega
   have h3:(atI xs i==atI ys i)=false:=by simpa using hp
   (refine aK ?_;repeat' (refine aJ ?_ ?_<;>intro _<;>try simp (disch:=first|assumption|omega) only[S0,rA,rQ,rB,rT,rE,aN, *]))
  ·have h2:decide ((xs.length:Int)<xs.length)=false:=by simp
   (refine aK ?_;repeat' (refine aJ ?_ ?_<;>intro _<;>try simp (disch:=first|assumption|omega) only[S0,rA,rQ,rB,rT,rE, *]))
 ·have fq:((xs.length:Int)==(ys.length:Int))=false:=by simp;omega
  have e:=Yaq (fun h=>hl h.symm)
  (refine aK ?_;repeat' (refine aJ ?_ ?_<;>intro _<;>try simp (disch:=first|assumption|omega) only[S0,rA,rQ,rB,rT,rE, *]))
theorem Kaz (s s':Int)(xs ys:List Int)(hx:xs.length<=1099511627776):Fun T 108 [i64 s,rL xs,i64 s',rL ys]=some [.bool (decide ((⟨s,xs⟩:mU)=⟨s',ys⟩))]:=by
 rw[aS (t:=Aby) rfl];unfold Aby
 have e:decide ((⟨s,xs⟩:mU)=⟨s',ys⟩)=(s==s'&&decide (xs=ys)):=by simp[mU.mk.injEq,Bool.beq_eq_decide_eq]
 (refine aK ?_;repeat' (refine aJ ?_ ?_<;>intro _<;>try simp (disch:=first|assumption|omega) only[S0,rA,rQ,rB,rT,rE,zF,e, *]))
theorem La0 (s s':Int)(xs ys:List Int)(hx:xs.length<=1099511627776):Fun T 43 [i64 s,rL xs,i64 s',rL ys]=some [.bool (decide ((⟨s,xs⟩:mU)=⟨s',ys⟩))]:=by
 rw[aS (t:=Kbm) rfl];unfold Kbm
 have e:decide ((⟨s,xs⟩:mU)=⟨s',ys⟩)=(s==s'&&decide (xs=ys)):=by simp[mU.mk.injEq,Bool.beq_eq_decide_eq]
 (refine aK ?_;repeat' (refine aJ ?_ ?_<;>intro _<;>try simp (disch:=first|assumption|omega) only[S0,rA,rQ,rB,rT,rE,slices_Equal_int,e, *]))
theorem rV (n:Int)(hg:dK n=true):Fun T 11 [i64 n]=some [i64 (none0 n).seq,rL (none0 n).deps]:=by
 rw[aS (t:=Gbf) rfl];unfold Gbf;unfold none0
 have hn:=bD hg
 (refine aK ?_;repeat' (refine aJ ?_ ?_<;>intro _<;>try simp (disch:=first|assumption|omega) only[S0,rA,rQ,rB,rT,rE,Kaj, *]))
theorem sN (n:Int)(hg:dK n=true):Fun T 42 [i64 n]=some [i64 (none0 n).seq,rL (none0 n).deps]:=by
 rw[aS (t:=Kbn) rfl];unfold Kbn;unfold none0
 have hn:=bD hg
 (refine aK ?_;repeat' (refine aJ ?_ ?_<;>intro _<;>try simp (disch:=first|assumption|omega) only[S0,rA,rQ,rB,rT,rE,Kaj, *]))
theorem Uam (n y7 zv sta k i f t a sq:Int)(xs:List Int)(hg:dK n=true)(hx:xs.length<=1099511627776) :
  Fun T 106 [i64 n,i64 y7,i64 zv,i64 sta,i64 k,i64 i,i64 f,i64 t,i64 a,i64 sq,rL xs]=some [.bool (rowOk n ⟨y7,zv,sta,⟨k,i,f,t,a⟩,⟨sq,xs⟩⟩)]:=by
 rw[aS (t:=Ab0) rfl];unfold Ab0;unfold rowOk
 (refine aK ?_;repeat' (refine aJ ?_ ?_<;>intro _<;>try simp (disch:=first|assumption|omega) only[S0,rA,rQ,rB,rT,rE,nC,Dba,rV,Kaz,Naq,Qam, *]))
theorem vU (n y7 zv sta k i f t a sq:Int)(xs:List Int)(hg:dK n=true)(hx:xs.length<=1099511627776) :
  Fun T 34 [i64 n,i64 y7,i64 zv,i64 sta,i64 k,i64 i,i64 f,i64 t,i64 a,i64 sq,rL xs]=some [.bool (rowOk n ⟨y7,zv,sta,⟨k,i,f,t,a⟩,⟨sq,xs⟩⟩)]:=by
 rw[aS (t:=Kbv) rfl];unfold Kbv;unfold rowOk
 have h1:=@Zac ⟨k,i,f,t,a⟩;have h2:=Lae hg;have h3:decide ((⟨sq,xs⟩:mU)=none0 n)=true->uH n ⟨sq,xs⟩=true:=fun h=>by rw[of_decide_eq_true h];exact h2
 (refine aK ?_;repeat' (refine aJ ?_ ?_<;>intro _<;>try simp (disch:=first|assumption|omega) only[S0,rA,rQ,rB,rT,rE,lJ,Dba,sN,La0,Oau,La2, *]))
 all_goals (refine Tay ?_;simp only[Qb1,Sbe,Rbp,Bool.not_eq_false',Bool.and_eq_false_iff,Bool.or_eq_false_iff,Qb4,beq_iff_eq,beq_eq_false_iff_ne,decide_eq_true_eq,decide_eq_false_iff_not,ne_eq]at *;grind)
theorem slices_Clone_int (xs:List Int)(hx:xs.length<=10000000000):Fun T 52 [rL xs]=some [rL xs]:=by
 rw[Mas (e:=Pbe) rfl]
 cases xs with
 |nil=>rfl
 | cons x xs =>
  show Fun (Pad [(52,.tm Gbe)]) 52 [rL (x::xs)]=_
  rw[aS (t:=Gbe) rfl];unfold Gbe;have nj:(x::xs).length<=100000000000:=by omega
  have h0:(aR.mk 1 0).run []=some [.rows 1 []]:=rfl;have h1:(x::xs).isEmpty=false:=rfl;simp (disch:=first|assumption|omega) only[SA,SB,SC,SP,SQ,SZ,reduceIte,reduceCtorEq,Nat.reduceAdd,Nat.reduceEqDiff,Lb2,Hbx,h0,h1,dY]
theorem Eax (s:Int)(xs:List Int)(hx:xs.length<=10000000000):Fun T 51 [i64 s,rL xs]=some [i64 s,rL xs]:=by
 rw[aS (t:=Kbe) rfl];unfold Kbe
 (refine aK ?_;repeat' (refine aJ ?_ ?_<;>intro _<;>try simp (disch:=first|assumption|omega) only[S0,rA,rQ,rB,rT,rE,slices_Clone_int, *]))
theorem iF (n:Int)(rows:List (List bT))(hs:iM rows):Fun T 104 [i64 n,rL rows]=some [.bool (bA ⟨n,rows⟩)]:=by
 rw[aS (t:=Ab2) rfl];unfold Ab2;unfold bA
 obtain⟨jn,gz⟩:=hs;cases hg:dK n
 ·(refine aK ?_;repeat' (refine aJ ?_ ?_<;>intro _<;>try simp (disch:=first|assumption|omega) only[S0,rA,rQ,rB,rT,rE,uW, *]))
 cases hl:(rows.length:Int)==n
 ·(refine aK ?_;repeat' (refine aJ ?_ ?_<;>intro _<;>try simp (disch:=first|assumption|omega) only[S0,rA,rQ,rB,rT,rE,uW, *]))
 simp (disch:=first|assumption|omega) only[S0,rA,rQ,rB,rT,rE,uW, *];rw[Ibo 1 rows (fun l=>l.all (fun r=>rowOk n r)&&decide ((l.length:Int)<=6)) [.bool false]]
 ·(refine aK ?_;repeat' (refine aJ ?_ ?_<;>intro _<;>try simp (disch:=first|assumption|omega) only[S0,rA,rQ,rB,rT,rE, *]))
 ·intro i hi hb hlt hm
  obtain⟨oX,lA⟩:=gz _ hm;simp (disch:=first|assumption|omega) only[S0,rA,rQ,rB,rT,rE,aN, *];rw[Ibo 3 (atI rows i) (fun r=>rowOk n r) [.bool false]]
  ·have e:decide (6<((atI rows (i:Int)).length:Int))=!decide (((atI rows (i:Int)).length:Int)<=6):=by
    by_cases h:((atI rows (i:Int)).length:Int)<=6
    ·simp[h]
    ·simp[h];omega
   (refine aK ?_;repeat' (refine aJ ?_ ?_<;>intro _<;>try simp (disch:=first|assumption|omega) only[S0,rA,rQ,rB,rT,rE,e, *]))
  ·intro j hj dm ao wt
   have hq3:=lA _ wt;have hq4:(atI (atI rows (i:Int)) (j:Int)).attr.deps.length<=1099511627776:=by omega
   (refine aK ?_;repeat' (refine aJ ?_ ?_<;>intro _<;>try simp (disch:=first|assumption|omega) only[S0,rA,rQ,rB,rT,rE,aN,Uam, *]))
  ·intro eN
   (refine aK ?_;repeat' (refine aJ ?_ ?_<;>intro _<;>try simp (disch:=first|assumption|omega) only[S0,rA,rQ,rB,rT,rE, *]))
 ·intro eN
  (refine aK ?_;repeat' (refine aJ ?_ ?_<;>intro _<;>try simp (disch:=first|assumption|omega) only[S0,rA,rQ,rB,rT,rE, *]))
theorem oW (aE bm ba ah az ar av au af:Int)(aa:(List Int))(n:Int)(rows:List (List bT))(hg:dK n=true)(hx:aa.length<=1099511627776):Fun T 33 [i64 aE,i64 bm,i64 ba,i64 ah,i64 az,i64 ar,i64 av,i64 au,i64 af,rL aa,i64 n,rL rows]=some [.bool (!rowOk n ⟨aE,bm,ba,⟨ah,az,ar,av,au⟩,⟨af,aa⟩⟩)]:=by
 rw[aS (t:=Kbw) rfl];unfold Kbw
 (refine aK ?_;repeat' (refine aJ ?_ ?_<;>intro _<;>try simp (disch:=first|assumption|omega) only[S0,rA,rQ,rB,rT,rE,vU, *]))
theorem Eat (n:Int)(rows:List (List bT))(hg:dK n=true)(xs:List bT)(hx:xs.length<=1099511627776)(hq:∀ x∈xs,x.attr.deps.length<=1099511627776):Fun T 32 [rL xs,i64 n,rL rows]=some [i64 (ixF (fun r=>!rowOk n r) xs)]:=by
 rw[aS (t:=Kbx) rfl];unfold Kbx
 simp (disch:=first|assumption|omega) only[S0,rA,rQ,rB,rT,rE,aN, *];rw[Bas 1 xs (fun r=>!rowOk n r) (fun i=>[i64 i])]
 ·cases h:xs.any (fun r=>!rowOk n r)
  ·have e:ixF (fun r=>!rowOk n r) xs=-1:=by
    have h2:=eP (fun r=>!rowOk n r) xs;rw[h]at h2;unfold ixF at h2 ⊢;split at h2<;>simp_all
   rw[e];simp (disch:=first|assumption|omega) only[S0,rA,rQ,rB,rT,rE]
  ·simp (disch:=first|assumption|omega) only[S0,rA,rQ,rB,rT,rE]
 ·intro i hi hb hl hp
  have kq:=hq _ (at_mem hi)
  try simp only at kq hp
  (refine aK ?_;repeat' (refine aJ ?_ ?_<;>intro _<;>try simp (disch:=first|assumption|omega) only[S0,rA,rQ,rB,rT,rE,aN,oW, *]))
 ·intro i hi hb hl hp
  have kq:=hq _ (at_mem hi)
  try simp only at kq hp
  (refine aK ?_;repeat' (refine aJ ?_ ?_<;>intro _<;>try simp (disch:=first|assumption|omega) only[S0,rA,rQ,rB,rT,rE,aN,oW, *]))
 ·intro hl
  (refine aK ?_;repeat' (refine aJ ?_ ?_<;>intro _<;>try simp (disch:=first|assumption|omega) only[S0,rA,rQ,rB,rT,rE, *]))
theorem Ea0 (n:Int)(rows:List (List bT))(hg:dK n=true)(xs:List bT)(hx:xs.length<=1099511627776)(hq:∀ x∈xs,x.attr.deps.length<=1099511627776):Fun T 31 [rL xs,i64 n,rL rows]=some [.bool (xs.any (fun r=>!rowOk n r))]:=by
 rw[aS (t:=Kby) rfl];unfold Kby
 (refine aK ?_;repeat' (refine aJ ?_ ?_<;>intro _<;>try simp (disch:=first|assumption|omega) only[S0,rA,rQ,rB,rT,rE,Eat,eP, *]))
theorem uE (l:List bT)(n:Int)(rows:List (List bT))(hg:dK n=true)(hx:l.length<=1099511627776)(hq:∀ x∈l,x.attr.deps.length<=1099511627776):Fun T 30 [rL l,i64 n,rL rows]=some [.bool (decide (6<(l.length:Int))||l.any fun r=>!rowOk n r)]:=by
 rw[aS (t:=Kbz) rfl];unfold Kbz
 (refine aK ?_;repeat' (refine aJ ?_ ?_<;>intro _<;>try simp (disch:=first|assumption|omega) only[S0,rA,rQ,rB,rT,rE,Ea0, *]))
theorem Iap (n:Int)(rows:List (List bT))(hg:dK n=true)(xs:List (List bT))(hx:xs.length<=1099511627776)(hq:∀ x∈xs,x.length<=1099511627776/\∀ y∈x,y.attr.deps.length<=1099511627776):Fun T 29 [rL xs,i64 n,rL rows]=some [i64 (ixF (fun l=>decide (6<(l.length:Int))||l.any fun r=>!rowOk n r) xs)]:=by
 rw[aS (t:=Kb0) rfl];unfold Kb0
 simp (disch:=first|assumption|omega) only[S0,rA,rQ,rB,rT,rE,aN, *];rw[Bas 1 xs (fun l=>decide (6<(l.length:Int))||l.any fun r=>!rowOk n r) (fun i=>[i64 i])]
 ·cases h:xs.any (fun l=>decide (6<(l.length:Int))||l.any fun r=>!rowOk n r)
  ·have e:ixF (fun l=>decide (6<(l.length:Int))||l.any fun r=>!rowOk n r) xs=-1:=by
    have h2:=eP (fun l=>decide (6<(l.length:Int))||l.any fun r=>!rowOk n r) xs;rw[h]at h2;unfold ixF at h2 ⊢;split at h2<;>simp_all
   rw[e];simp (disch:=first|assumption|omega) only[S0,rA,rQ,rB,rT,rE]
  ·simp (disch:=first|assumption|omega) only[S0,rA,rQ,rB,rT,rE]
 ·intro i hi hb hl hp
  have kq:=hq _ (at_mem hi)
  try simp only at kq hp
  obtain⟨oX,lA⟩:=kq
  (refine aK ?_;repeat' (refine aJ ?_ ?_<;>intro _<;>try simp (disch:=first|assumption|omega) only[S0,rA,rQ,rB,rT,rE,aN,uE, *]))
 ·intro i hi hb hl hp
  have kq:=hq _ (at_mem hi)
  try simp only at kq hp
  obtain⟨oX,lA⟩:=kq
  (refine aK ?_;repeat' (refine aJ ?_ ?_<;>intro _<;>try simp (disch:=first|assumption|omega) only[S0,rA,rQ,rB,rT,rE,aN,uE, *]))
 ·intro hl
  (refine aK ?_;repeat' (refine aJ ?_ ?_<;>intro _<;>try simp (disch:=first|assumption|omega) only[S0,rA,rQ,rB,rT,rE, *]))
theorem Iay (n:Int)(rows:List (List bT))(hg:dK n=true)(xs:List (List bT))(hx:xs.length<=1099511627776)(hq:∀ x∈xs,x.length<=1099511627776/\∀ y∈x,y.attr.deps.length<=1099511627776):Fun T 28 [rL xs,i64 n,rL rows]=some [.bool (xs.any (fun l=>decide (6<(l.length:Int))||l.any fun r=>!rowOk n r))]:=by
 rw[aS (t:=Kb1) rfl];unfold Kb1
 (refine aK ?_;repeat' (refine aJ ?_ ?_<;>intro _<;>try simp (disch:=first|assumption|omega) only[S0,rA,rQ,rB,rT,rE,Iap,eP, *]))
theorem bC (n:Int)(rows:List (List bT))(hs:iM rows):Fun T 26 [i64 n,rL rows]=some [.bool (bA ⟨n,rows⟩)]:=by
 rw[aS (t:=Kb3) rfl];unfold Kb3;unfold bA
 obtain⟨jn,gz⟩:=hs;have hs3:∀ x∈rows,x.length<=1099511627776/\∀ y∈x,y.attr.deps.length<=1099511627776:=fun x hx=>⟨by have:=(gz x hx).1;omega,fun y hy=>by have:=(gz x hx).2 y hy;omega⟩
 have e:(rows.any fun l=>decide (6<(l.length:Int))||l.any fun r=>!rowOk n r)=!rows.all fun l=>l.all (fun r=>rowOk n r)&&decide ((l.length:Int)<=6):=by
  rw[List.not_all_eq_any_not];congr 1;funext l;rw[<- List.not_all_eq_any_not,Bool.not_and,Bool.or_comm];congr 1;by_cases h:(l.length:Int)<=6
  ·simp[h]
  ·simp[h];omega
 (refine aK ?_;repeat' (refine aJ ?_ ?_<;>intro _<;>try simp (disch:=first|assumption|omega) only[S0,rA,rQ,rB,rT,rE,kE,Iay,e,Bool.not_not, *]))
theorem Jae (xs:List Int)(hx:xs.length<=10000000000):Fun T 21 [rL xs]=some [rL xs]:=by
 rw[aS (t:=Kb8) rfl];unfold Kb8
 have h0:(aR.mk 1 0).run []=some [.rows 1 []]:=rfl
 (refine aK ?_;repeat' (refine aJ ?_ ?_<;>intro _<;>try simp (disch:=first|assumption|omega) only[S0,rA,rQ,rB,rT,rE,h0,dY, *]))
theorem Iag (s:Int)(xs:List Int)(hx:xs.length<=10000000000):Fun T 20 [i64 s,rL xs]=some [i64 s,rL xs]:=by
 rw[aS (t:=Kb9) rfl];unfold Kb9
 (refine aK ?_;repeat' (refine aJ ?_ ?_<;>intro _<;>try simp (disch:=first|assumption|omega) only[S0,rA,rQ,rB,rT,rE,Jae, *]))
theorem rU (aE bm ba ah az ar av au af:Int)(aa:(List Int))(hx:aa.length<=10000000000):Fun T 19 [i64 aE,i64 bm,i64 ba,i64 ah,i64 az,i64 ar,i64 av,i64 au,i64 af,rL aa]=some [i64 aE,i64 bm,i64 ba,i64 ah,i64 az,i64 ar,i64 av,i64 au,i64 af,rL aa]:=by
 rw[aS (t:=Lba) rfl];unfold Lba
 (refine aK ?_;repeat' (refine aJ ?_ ?_<;>intro _<;>try simp (disch:=first|assumption|omega) only[S0,rA,rQ,rB,rT,rE,Iag, *]))
theorem nO (aE bm ba ah az ar av au af:Int)(aa:(List Int))(hx:aa.length<=10000000000):Fun T 50 [i64 aE,i64 bm,i64 ba,i64 ah,i64 az,i64 ar,i64 av,i64 au,i64 af,rL aa]=some [i64 aE,i64 bm,i64 ba,i64 ah,i64 az,i64 ar,i64 av,i64 au,i64 af,rL aa]:=by
 rw[aS (t:=Kbf) rfl];unfold Kbf
 (refine aK ?_;repeat' (refine aJ ?_ ?_<;>intro _<;>try simp (disch:=first|assumption|omega) only[S0,rA,rQ,rB,rT,rE,Eax, *]))
theorem uU (n:Int)(rows:List (List bT))(rep no:Int)(hg:dK n=true)(hs:iM rows)(hb:InB rows rep)(h1:1<=no)(h2:no<=1000):Fun T 120 [i64 n,rL rows,i64 rep,i64 no]=some [i64 (fB ⟨n,rows⟩ rep no).ballot,i64 (fB ⟨n,rows⟩ rep no).vote,i64 (fB ⟨n,rows⟩ rep no).state,i64 (fB ⟨n,rows⟩ rep no).cmd.kind,i64 (fB ⟨n,rows⟩ rep no).cmd.id,i64 (fB ⟨n,rows⟩ rep no).cmd.src,i64 (fB ⟨n,rows⟩ rep no).cmd.dst,i64 (fB ⟨n,rows⟩ rep no).cmd.amt,i64 (fB ⟨n,rows⟩ rep no).attr.seq,rL (fB ⟨n,rows⟩ rep no).attr.deps]:=by
 rw[aS (t:=Abm) rfl];unfold Abm;unfold fB row0
 have hq:=hs.2 _ (dE hb);by_cases h:no<=(atI rows rep).length
 ·have h3:decide (((atI rows rep).length:Int)<no)=false:=by simp;omega
  have dm:InB (atI rows rep) (no-1):=by unfold InB;omega
  have lA:=hq.2 _ (dE dm)
  (refine aK ?_;repeat' (refine aJ ?_ ?_<;>intro _<;>try simp (disch:=first|assumption|omega) only[S0,rA,rQ,rB,rT,rE,aN,rU, *]))
 ·have h3:decide (((atI rows rep).length:Int)<no)=true:=by simp;omega
  (refine aK ?_;repeat' (refine aJ ?_ ?_<;>intro _<;>try simp (disch:=first|assumption|omega) only[S0,rA,rQ,rB,rT,rE,aN,rV, *]))
theorem dO (n:Int)(rows:List (List bT))(rep no:Int)(hg:dK n=true)(hs:iM rows)(hb:InB rows rep)(h1:1<=no)(h2:no<=1000):Fun T 49 [i64 n,rL rows,i64 rep,i64 no]=some [i64 (fB ⟨n,rows⟩ rep no).ballot,i64 (fB ⟨n,rows⟩ rep no).vote,i64 (fB ⟨n,rows⟩ rep no).state,i64 (fB ⟨n,rows⟩ rep no).cmd.kind,i64 (fB ⟨n,rows⟩ rep no).cmd.id,i64 (fB ⟨n,rows⟩ rep no).cmd.src,i64 (fB ⟨n,rows⟩ rep no).cmd.dst,i64 (fB ⟨n,rows⟩ rep no).cmd.amt,i64 (fB ⟨n,rows⟩ rep no).attr.seq,rL (fB ⟨n,rows⟩ rep no).attr.deps]:=by
 rw[aS (t:=Kbg) rfl];unfold Kbg;unfold fB row0
 have hq:=hs.2 _ (dE hb);by_cases h:no<=(atI rows rep).length
 ·have h3:decide (no<=((atI rows rep).length:Int))=true:=by simp;omega
  have dm:InB (atI rows rep) (no-1):=by unfold InB;omega
  have lA:=hq.2 _ (dE dm)
  (refine aK ?_;repeat' (refine aJ ?_ ?_<;>intro _<;>try simp (disch:=first|assumption|omega) only[S0,rA,rQ,rB,rT,rE,aN,nO, *]))
 ·have h3:decide (no<=((atI rows rep).length:Int))=false:=by simp;omega
  (refine aK ?_;repeat' (refine aJ ?_ ?_<;>intro _<;>try simp (disch:=first|assumption|omega) only[S0,rA,rQ,rB,rT,rE,aN,sN, *]))
theorem Ua9 (n:Int)(rows:List (List bT))(rep no:Int)(hs:iM rows):Fun T 64 [i64 n,rL rows,i64 rep,i64 no]=some [i64 (qH ⟨n,rows⟩ rep no).1.ballot,i64 (qH ⟨n,rows⟩ rep no).1.vote,i64 (qH ⟨n,rows⟩ rep no).1.state,i64 (qH ⟨n,rows⟩ rep no).1.cmd.kind,i64 (qH ⟨n,rows⟩ rep no).1.cmd.id,i64 (qH ⟨n,rows⟩ rep no).1.cmd.src,i64 (qH ⟨n,rows⟩ rep no).1.cmd.dst,i64 (qH ⟨n,rows⟩ rep no).1.cmd.amt,i64 (qH ⟨n,rows⟩ rep no).1.attr.seq,rL (qH ⟨n,rows⟩ rep no).1.attr.deps,.bool (qH ⟨n,rows⟩ rep no).2]:=by
 rw[aS (t:=Jb2) rfl];unfold Jb2;unfold qH Ob7
 cases ht:bA ⟨n,rows⟩
 ·(refine aK ?_;repeat' (refine aJ ?_ ?_<;>intro _<;>try simp (disch:=first|assumption|omega) only[S0,rA,rQ,rB,rT,rE,bC,Iab, *]))
 have hg:dK n=true:=aW ht;cases hi:inst n rep no
 ·(refine aK ?_;repeat' (refine aJ ?_ ?_<;>intro _<;>try simp (disch:=first|assumption|omega) only[S0,rA,rQ,rB,rT,rE,bC,dS,Iab, *]))
 have hb:InB rows rep:=dF ht hi;have hr:=bG hi
 (refine aK ?_;repeat' (refine aJ ?_ ?_<;>intro _<;>try simp (disch:=first|assumption|omega) only[S0,rA,rQ,rB,rT,rE,bC,dS,dO, *]))
theorem Uan (n:Int)(hg:dK n=true):Fun T 5 [i64 n]=some [i64 n,rL (Rbf n.toNat ([]:List bT))]:=by
 rw[aS (t:=tm5) rfl];unfold tm5
 have hn:=bD hg
 (refine aK ?_;repeat' (refine aJ ?_ ?_<;>intro _<;>try simp (disch:=first|assumption|omega) only[S0,rA,rQ,rB,rT,rE,Kaj, *]))
theorem Jad (n:Int)(rows:List (List bT))(hg:dK n=true)(hl:(rows.length:Int)=n)(hs:iM rows):Fun T 18 [i64 n,rL rows]=some [i64 n,rL rows]:=by
 rw[aS (t:=Lbb) rfl];unfold Lbb
 obtain⟨jn,gz⟩:=hs;have hn:=bD hg;have e0:Rbf n.toNat ([]:List bT)=upto [] rows 0:=by rw[Va8];congr 1;omega
 simp (disch:=first|assumption|omega) only[SA,SB,SC,SP,SQ,SZ,reduceIte,reduceCtorEq,Nat.reduceAdd,Nat.reduceEqDiff,Uan];rw[gW rows.length (fun i=>[i64 i,rL (upto [] rows i)]) (.yield 1,[rL rows]) (by rw[e0];rfl) (by simp)]
 ·(refine aK ?_;repeat' (refine aJ ?_ ?_<;>intro _<;>try simp (disch:=first|assumption|omega) only[S0,rA,rQ,rB,rT,rE, *]))
 ·intro i hi hlt
  have hb:InB rows (i:Int):=aM.2 hi;have hq:=gz _ (at_mem hi);have hu:(upto [] rows i).length=rows.length:=Za9 [] rows (Nat.le_of_lt hi);have nn:InB (upto [] rows i) (i:Int):=aM.2 (by rw[hu];exact hi)
  have qm:upto [] rows i=fQ (upto [] rows i) i ((atI rows (i:Int)).take 0):=by
   have:atI (upto [] rows i) (i:Int)=[]:=by
    unfold upto;rw[Man,List.getD_eq_getElem?_getD,List.getElem?_append_right (by rw[Rbq];omega),List.getElem?_replicate];split<;>rfl
   have h3:=Ka3 nn;rw[this]at h3;rw[List.take_zero];exact h3.symm
  have wo:fQ (upto [] rows i) i (atI rows (i:Int))=upto [] rows (i+1):=by
   rw[fQ];exact Za8 [] rows (by rw[aV hi];exact List.getElem?_eq_getElem hi)
  obtain⟨oX,lA⟩:=hq;have hr:rows.length<=10:=by omega
  simp (disch:=first|assumption|omega) only[S0,rA,rQ,rB,rT,rE,aN,hlt];rw[gW (atI rows (i:Int)).length (fun j=>[i64 j,rL (fQ (upto [] rows i) i ((atI rows (i:Int)).take j))]) (.yield 3,[rL (upto [] rows (i+1))]) (by rw[<- qm];rfl) (by simp)]
  ·clear hu qm wo
   simp (disch:=first|assumption|omega) only[S0,rA,rQ,rB,rT,rE]
  ·intro j hj ao
   have dm:InB (atI rows (i:Int)) (j:Int):=aM.2 hj;have hq3:=lA _ (at_mem hj)
   have ha:atI (fQ (upto [] rows i) (i:Int) ((atI rows (i:Int)).take j)) (i:Int)=(atI rows (i:Int)).take j:=by
    have:=wP;exact this.1 nn
   have vm:InB (fQ (upto [] rows i) (i:Int) ((atI rows (i:Int)).take j)) (i:Int):=aM.2 (by rw[fQ,Sb6,hu];exact hi);have qb:=take_at hj;have fS:((atI rows (i:Int)).take j).length+1<=100000000000:=by rw[Rbq];omega
   have xz:((atI rows (i:Int)).take j).length+([atI (atI rows (i:Int)) (j:Int)]:List bT).length<=100000000000:=fS;clear hu qm wo;simp (disch:=first|assumption|omega) only[S0,rA,rQ,rB,rT,rE,aN,Dan,lQ,dY,Eao,wP,rU,ao,ha,qb]
  ·intro ao
   rw[Rb5];clear hu qm
   (refine aK ?_;repeat' (refine aJ ?_ ?_<;>intro _<;>try simp (disch:=first|assumption|omega) only[S0,rA,rQ,rB,rT,rE, *]))
 ·intro hlt
  rw[Aba];simp (disch:=first|assumption|omega) only[S0,rA,rQ,rB,rT,rE,hlt]
theorem Laz (xs:List bT)(hs:Dbk xs):Fun T 68 [rL xs]=some [rL xs]:=by
 rw[aS (t:=Jby) rfl];unfold Jby
 have h0:(aR.mk 10 0).run []=some [rL ([]:List bT)]:=rfl;obtain⟨jn,gz⟩:=hs;simp (disch:=first|assumption|omega) only[S0,rA,rQ,rB,rT,rE,h0];rw[gW xs.length (fun i=>[rL (xs.take i),i64 i]) (.yield 1,[rL xs]) rfl (by simp)]
 ·simp (disch:=first|assumption|omega) only[S0,rA,rQ,rB,rT,rE]
 ·intro i hi hlt
  have hb:InB xs (i:Int):=aM.2 hi;have hq:=gz _ (at_mem hi);have qb:=take_at hi;have fS:(xs.take i).length+([atI xs (i:Int)]:List bT).length<=100000000000:=by rw[Rbq];simp only[Rbe,Rbk];omega
  simp (disch:=first|assumption|omega) only[S0,rA,rQ,rB,rT,rE,aN,lQ,dY,nO,hlt,qb]
 ·intro hlt
  rw[Rb5];simp (disch:=first|assumption|omega) only[S0,rA,rQ,rB,rT,rE,hlt]
theorem Ca6 (n:Int)(rows:List (List bT))(hs:iM rows):Fun T 67 [i64 n,rL rows]=some [i64 n,rL rows]:=by
 rw[aS (t:=Jbz) rfl];unfold Jbz
 obtain⟨jn,gz⟩:=hs;simp (disch:=first|assumption|omega) only[S0,rA,rQ,rB,rT,rE];rw[gW rows.length (fun i=>[i64 i,rL (rows.take i)]) (.yield 1,[rL rows]) rfl (by simp)]
 ·simp (disch:=first|assumption|omega) only[S0,rA,rQ,rB,rT,rE]
 ·intro i hi hlt
  have hb:InB rows (i:Int):=aM.2 hi;have hq:=gz _ (at_mem hi);have qb:=take_at hi;have fS:(rows.take i).length+([atI rows (i:Int)]:List (List bT)).length<=100000000000:=by rw[Rbq];simp only[Rbe,Rbk];omega
  simp (disch:=first|assumption|omega) only[S0,rA,rQ,rB,rT,rE,aN,lQ,dY,Laz,hlt,qb]
 ·intro hlt
  rw[Rb5];simp (disch:=first|assumption|omega) only[S0,rA,rQ,rB,rT,rE,hlt]
theorem Ual (n:Int)(rows:List (List bT))(rep no:Int)(aE bm ba ah az ar av au af:Int)(aa:(List Int))(hg:dK n=true)(hl:(rows.length:Int)=n)(hs:iM rows)(hb:InB rows rep)(h1:1<=no)(h2:no<=1000)(hx:aa.length<=10000000000) :
  Fun T 17 [i64 n,rL rows,i64 rep,i64 no,i64 aE,i64 bm,i64 ba,i64 ah,i64 az,i64 ar,i64 av,i64 au,i64 af,rL aa]=some [i64 (Ea4 ⟨n,rows⟩ rep no ⟨aE,bm,ba,⟨ah,az,ar,av,au⟩,⟨af,aa⟩⟩).n,rL (Ea4 ⟨n,rows⟩ rep no ⟨aE,bm,ba,⟨ah,az,ar,av,au⟩,⟨af,aa⟩⟩).rows]:=by
 rw[aS (t:=Lbc) rfl];unfold Lbc;unfold Ea4
 have hq:=hs.2 _ (dE hb);have oX:=hq.1;simp (maxSteps:=2000000) (disch:=first|assumption|omega) only[SA,SB,SC,SP,SQ,SZ,reduceIte,reduceCtorEq,Nat.reduceAdd,Nat.reduceEqDiff,Jad,hg,hl];rw[Ia2 (T:=T) (.yield 1,[rL (fQ rows rep (ext n (atI rows rep) no))]) (fun j:Nat=>(no-(atI rows rep).length).toNat-j) (fun j=>j<=(no-(atI rows rep).length).toNat) (fun j=>[rL (fQ rows rep (atI rows rep++Rbf j (row0 n)))]) 0 (by rw[Ubi,Rbs,Ka3 hb];rfl) (by omega) (by simp)]
 ·have dm:InB (fQ rows rep (ext n (atI rows rep) no)) rep:=by unfold InB;rw[fQ,Sb6];exact hb
  have ha:atI (fQ rows rep (ext n (atI rows rep) no)) rep=ext n (atI rows rep) no:=wP.1 hb;have pB:InB (ext n (atI rows rep) no) (no-1):=by unfold InB;rw[Mab (by omega)];omega
  simp (disch:=first|assumption|omega) only[S0,rA,rQ,rB,rT,rE,aN,Dan,wP,rU,ha]
 ·intro j hj
  have dm:InB (fQ rows rep (atI rows rep++Rbf j (row0 n))) rep:=by unfold InB;rw[fQ,Sb6];exact hb
  have ha:atI (fQ rows rep (atI rows rep++Rbf j (row0 n))) rep=atI rows rep++Rbf j (row0 n):=wP.1 hb;have hlen:((atI rows rep++Rbf j (row0 n)).length:Int)=(atI rows rep).length+j:=by simp
  have kO:(atI rows rep++Rbf j (row0 n))++[row0 n]=atI rows rep++Rbf (j+1) (row0 n):=by rw[Rba,<- List.replicate_succ']
  have fS:(atI rows rep++Rbf j (row0 n)).length+([row0 n]:List bT).length<=100000000000:=by simp only[Qb6,Rbw,Rbe,Rbk];omega
  unfold row0 at kO fS ha dm hlen ⊢;by_cases hc:(atI rows rep).length+j<no
  ·have cQ:decide (((atI rows rep).length:Int)+j<no)=true:=by simpa using hc
   refine .inl ⟨j+1,?_,by omega,by omega⟩;simp (disch:=first|assumption|omega) only[S0,rA,rQ,rB,rT,rE,aN,Dan,lQ,dY,Eao,wP,rV,ha,hlen,cQ,kO]
  ·have cQ:decide (((atI rows rep).length:Int)+j<no)=false:=by simpa using hc
   have fj:j=(no-(atI rows rep).length).toNat:=by omega
   refine .inr ?_;simp (disch:=first|assumption|omega) only[S0,rA,rQ,rB,rT,rE,aN,Dan,lQ,dY,Eao,wP,ha,hlen,cQ];rw[fj];rfl
theorem yS (n:Int)(rows:List (List bT))(rep no:Int)(aE bm ba ah az ar av au af:Int)(aa:(List Int))(hg:dK n=true)(hs:iM rows)(hb:InB rows rep)(h1:1<=no)(h2:no<=1000)(hx:aa.length<=10000000000) :
  Fun T 69 [i64 rep,i64 no,i64 aE,i64 bm,i64 ba,i64 ah,i64 az,i64 ar,i64 av,i64 au,i64 af,rL aa,i64 n,rL rows]=some [i64 (Ea4 ⟨n,rows⟩ rep no ⟨aE,bm,ba,⟨ah,az,ar,av,au⟩,⟨af,aa⟩⟩).n,rL (Ea4 ⟨n,rows⟩ rep no ⟨aE,bm,ba,⟨ah,az,ar,av,au⟩,⟨af,aa⟩⟩).rows]:=by
 rw[aS (t:=Jbx) rfl];unfold Jbx;unfold Ea4
 have hq:=hs.2 _ (dE hb);have oX:=hq.1;simp (disch:=first|assumption|omega) only[S0,rA,rQ,rB,rT,rE];rw[Ia2 (T:=T) (.yield 1,[rL (fQ rows rep (ext n (atI rows rep) no))]) (fun j:Nat=>(no-(atI rows rep).length).toNat-j) (fun j=>j<=(no-(atI rows rep).length).toNat) (fun j=>[rL (fQ rows rep (atI rows rep++Rbf j (row0 n)))]) 0 (by rw[Ubi,Rbs,Ka3 hb];rfl) (by omega) (by simp)]
 ·have dm:InB (fQ rows rep (ext n (atI rows rep) no)) rep:=by unfold InB;rw[fQ,Sb6];exact hb
  have ha:atI (fQ rows rep (ext n (atI rows rep) no)) rep=ext n (atI rows rep) no:=wP.1 hb;have pB:InB (ext n (atI rows rep) no) (no-1):=by unfold InB;rw[Mab (by omega)];omega
  simp (disch:=first|assumption|omega) only[S0,rA,rQ,rB,rT,rE,aN,Dan,wP,nO,ha]
 ·intro j hj
  have dm:InB (fQ rows rep (atI rows rep++Rbf j (row0 n))) rep:=by unfold InB;rw[fQ,Sb6];exact hb
  have ha:atI (fQ rows rep (atI rows rep++Rbf j (row0 n))) rep=atI rows rep++Rbf j (row0 n):=wP.1 hb;have hlen:((atI rows rep++Rbf j (row0 n)).length:Int)=(atI rows rep).length+j:=by simp
  have kO:(atI rows rep++Rbf j (row0 n))++[row0 n]=atI rows rep++Rbf (j+1) (row0 n):=by rw[Rba,<- List.replicate_succ']
  have fS:(atI rows rep++Rbf j (row0 n)).length+([row0 n]:List bT).length<=100000000000:=by simp only[Qb6,Rbw,Rbe,Rbk];omega
  unfold row0 at kO fS ha dm hlen ⊢;by_cases hc:(atI rows rep).length+j<no
  ·have cQ:decide (((atI rows rep).length:Int)+j<no)=true:=by simpa using hc
   refine .inl ⟨j+1,?_,by omega,by omega⟩;simp (disch:=first|assumption|omega) only[S0,rA,rQ,rB,rT,rE,aN,Dan,lQ,dY,Eao,wP,sN,ha,hlen,cQ,kO]
  ·have cQ:decide (((atI rows rep).length:Int)+j<no)=false:=by simpa using hc
   have fj:j=(no-(atI rows rep).length).toNat:=by omega
   refine .inr ?_;simp (disch:=first|assumption|omega) only[S0,rA,rQ,rB,rT,rE,aN,Dan,lQ,dY,Eao,wP,ha,hlen,cQ];rw[fj];rfl
theorem Rad (n:Int)(rows:List (List bT))(rep no:Int)(aE bm ba ah az ar av au af:Int)(aa:(List Int))(hs:iM rows)(hx:aa.length<=10000000000) :
  Fun T 66 [i64 n,rL rows,i64 rep,i64 no,i64 aE,i64 bm,i64 ba,i64 ah,i64 az,i64 ar,i64 av,i64 au,i64 af,rL aa]=some [i64 (Ta8 ⟨n,rows⟩ rep no ⟨aE,bm,ba,⟨ah,az,ar,av,au⟩,⟨af,aa⟩⟩).1.n,rL (Ta8 ⟨n,rows⟩ rep no ⟨aE,bm,ba,⟨ah,az,ar,av,au⟩,⟨af,aa⟩⟩).1.rows,.bool (Ta8 ⟨n,rows⟩ rep no ⟨aE,bm,ba,⟨ah,az,ar,av,au⟩,⟨af,aa⟩⟩).2]:=by
 rw[aS (t:=Jb0) rfl];unfold Jb0;unfold Ta8
 have nj:aa.length<=1099511627776:=by omega
 cases ht:bA ⟨n,rows⟩
 ·(refine aK ?_;repeat' (refine aJ ?_ ?_<;>intro _<;>try simp (disch:=first|assumption|omega) only[S0,rA,rQ,rB,rT,rE,bC,Iab, *]))
 have hg:dK n=true:=aW ht;have hl:(rows.length:Int)=n:=dG ht;cases hi:inst n rep no
 ·simp (disch:=first|assumption|omega) only[S0,rA,rQ,rB,rT,rE,bC,dS,Iab,ht,hi,hg]
 have hb:InB rows rep:=dF ht hi;have hr:=bG hi;cases ho:rowOk n ⟨aE,bm,ba,⟨ah,az,ar,av,au⟩,⟨af,aa⟩⟩
 ·simp (disch:=first|assumption|omega) only[S0,rA,rQ,rB,rT,rE,bC,dS,vU,Iab,ht,hi,ho,hg]
 simp (disch:=first|assumption|omega) only[S0,rA,rQ,rB,rT,rE,bC,dS,vU,Ca6,yS,ht,hi,ho,hg]
theorem lF (xs:List Int)(n:Int)(hx:xs.length<=1099511627776):Fun T 15 [rL xs,i64 n]=some [.bool (kQ xs n)]:=by
 rw[aS (t:=Lbe) rfl];unfold Lbe;unfold kQ
 simp (disch:=first|assumption|omega) only[S0,rA,rQ,rB,rT,rE];rw[Bas 1 xs (fun x=>x==n) (fun _=>[.bool true])]
 ·(refine aK ?_;repeat' (refine aJ ?_ ?_<;>intro _<;>try simp (disch:=first|assumption|omega) only[S0,rA,rQ,rB,rT,rE, *]))
 ·intro i hi hb hl hp
  (refine aK ?_;repeat' (refine aJ ?_ ?_<;>intro _<;>try simp (disch:=first|assumption|omega) only[S0,rA,rQ,rB,rT,rE,aN, *]))
 ·intro i hi hb hl hp
  (refine aK ?_;repeat' (refine aJ ?_ ?_<;>intro _<;>try simp (disch:=first|assumption|omega) only[S0,rA,rQ,rB,rT,rE,aN, *]))
 ·intro hl
  simp (disch:=first|assumption|omega) only[S0,rA,rQ,rB,rT,rE,hl]
theorem slices_Index_int (xs:List Int)(n:Int)(hx:xs.length<=1099511627776):Fun T 59 [rL xs,i64 n]=some [i64 (ixF (fun x=>n==x) xs)]:=by
 rw[aS (t:=Jb7) rfl];unfold Jb7
 simp (disch:=first|assumption|omega) only[S0,rA,rQ,rB,rT,rE];rw[Bas 1 xs (fun x=>n==x) (fun i=>[i64 i])]
 ·cases h:xs.any (fun x=>n==x)
  ·have e:ixF (fun x=>n==x) xs=-1:=by
    have h2:=eP (fun x=>n==x) xs;rw[h]at h2;unfold ixF at h2 ⊢;split at h2<;>simp_all
   rw[e];simp (disch:=first|assumption|omega) only[S0,rA,rQ,rB,rT,rE]
  ·simp (disch:=first|assumption|omega) only[S0,rA,rQ,rB,rT,rE]
 ·intro i hi hb hl hp
  (refine aK ?_;repeat' (refine aJ ?_ ?_<;>intro _<;>try simp (disch:=first|assumption|omega) only[S0,rA,rQ,rB,rT,rE,aN, *]))
 ·intro i hi hb hl hp
  (refine aK ?_;repeat' (refine aJ ?_ ?_<;>intro _<;>try simp (disch:=first|assumption|omega) only[S0,rA,rQ,rB,rT,rE,aN, *]))
 ·intro hl
  simp (disch:=first|assumption|omega) only[S0,rA,rQ,rB,rT,rE,hl]
theorem slices_Contains_int (xs:List Int)(n:Int)(hx:xs.length<=1099511627776):Fun T 58 [rL xs,i64 n]=some [.bool (kQ xs n)]:=by
 rw[aS (t:=Jb8) rfl];unfold Jb8
 have e:kQ xs n=xs.any fun x=>n==x:=by
  unfold kQ;congr 1;funext x;rw[Tb6,beq_iff_eq,beq_iff_eq];exact eq_comm
 simp (disch:=first|assumption|omega) only[S0,rA,rQ,rB,rT,rE,slices_Index_int,eP,e]
theorem Caq (xs:List Int)(n:Int)(hx:xs.length<=10000000000):Fun T 14 [rL xs,i64 n]=some [rL (Ma1 xs n)]:=by
 rw[aS (t:=Lbf) rfl];unfold Lbf;unfold Ma1
 have hk:=Ebv xs n;have h0:(aR.mk 1 0).run []=some [.rows 1 []]:=rfl;simp (disch:=first|assumption|omega) only[S0,rA,rQ,rB,rT,rE];rw[Ia2 (T:=T) (.yield 1,[i64 (nD xs n:Nat)]) (fun k:Nat=>nD xs n-k) (fun k=>k<=nD xs n) (fun k=>[i64 k]) 0 rfl (by omega) (by simp)]
 ·have l1:(xs.take (nD xs n)).length<=10000000000:=by rw[Rbq];omega
  have l2:(xs.take (nD xs n)).length+([n]:List Int).length<=100000000000:=by simp only[Rbe,Rbk];omega
  have l3:(xs.take (nD xs n)++[n]).length+(xs.drop (nD xs n)).length<=100000000000:=by simp only[Qb6,Rbe,Rbk,Sbf];omega
  by_cases h:nD xs n<xs.length
  ·have hb:InB xs (nD xs n:Nat):=aM.2 h
   have h2:decide ((nD xs n:Int)<xs.length)=true:=by simp;omega
   cases h3:atI xs (nD xs n:Nat)==n
   ·simp (disch:=first|assumption|omega) only[S0,rA,rQ,rB,rT,rE,aN,lQ,dY,Aab,h0,h2,h3,hb,Rb8,Tbh,Tbp,Rb5]
   ·simp (disch:=first|assumption|omega) only[S0,rA,rQ,rB,rT,rE,aN,lQ,dY,Aab,h0,h2,h3,hb]
  ·have h2:decide ((nD xs n:Int)<xs.length)=false:=by simp;omega
   simp (disch:=first|assumption|omega) only[S0,rA,rQ,rB,rT,rE,aN,lQ,dY,Aab,h0,h2,Rb8,Tbh,Tbp,Rb5]
 ·intro k ox
  by_cases h:k<nD xs n
  ·have hb:InB xs (k:Int):=aM.2 (by omega)
   have h2:decide ((k:Int)<xs.length)=true:=by simp;omega
   have h3:decide (atI xs (k:Int)<n)=true:=by simpa using Wa1 h
   refine .inl ⟨k+1,?_,by omega,by omega⟩;simp (disch:=first|assumption|omega) only[S0,rA,rQ,rB,rT,rE,aN,h2,h3,hb]
  ·obtain rfl:k=nD xs n:=by omega
   refine .inr ?_;by_cases h4:nD xs n<xs.length
   ·have hb:InB xs (nD xs n:Nat):=aM.2 h4
    have h2:decide ((nD xs n:Int)<xs.length)=true:=by simp;omega
    have h3:decide (atI xs (nD xs n:Nat)<n)=false:=by simpa using Wa2 h4
    simp (disch:=first|assumption|omega) only[S0,rA,rQ,rB,rT,rE,aN,h2,h3,hb]
   ·have h2:decide ((nD xs n:Int)<xs.length)=false:=by simp;omega
    simp (disch:=first|assumption|omega) only[S0,rA,rQ,rB,rT,rE,aN,h2]
theorem pM (k i f t a:Int)(hc:pU ⟨k,i,f,t,a⟩=true):Fun T 13 [i64 k,i64 i,i64 f,i64 t,i64 a]=some [rL (jW ⟨k,i,f,t,a⟩)]:=by
 rw[aS (t:=Lbg) rfl];unfold Lbg;unfold jW
 obtain⟨hk,hm,hr⟩:=Zad hc;simp only at hk hm hr
 rcases hk with rfl|rfl|rfl
 ·simp (disch:=first|assumption|omega) only[S0,rA,rQ,rB,rT,rE,Iab]
 ·have bh:=(hm rfl).2.2.1
  have l1:([f]:List Int).length<=10000000000:=by simp
  simp (disch:=first|assumption|omega) only[S0,rA,rQ,rB,rT,rE,lQ,Caq,Pbv bh]
 ·simp (disch:=first|assumption|omega) only[S0,rA,rQ,rB,rT,rE,lQ]
theorem Da7 (k i f t a:Int):Fun T 54 [i64 k,i64 i,i64 f,i64 t,i64 a]=some [rL (jW ⟨k,i,f,t,a⟩)]:=by
 rw[aS (t:=Kbc) rfl];unfold Kbc;unfold jW
 have h0:(aR.mk 1 0).run []=some [.rows 1 []]:=rfl
 (refine aK ?_;repeat' (refine aJ ?_ ?_<;>intro _<;>try simp (disch:=first|assumption|omega) only[S0,rA,rQ,rB,rT,rE,lQ,h0,Iab, *]))
theorem tX (ct fw db dc cY:Int)(bf c6 bw bz bt:Int)(ha:pU ⟨ct,fw,db,dc,cY⟩=true)(hb:pU ⟨bf,c6,bw,bz,bt⟩=true):Fun T 12 [i64 ct,i64 fw,i64 db,i64 dc,i64 cY,i64 bf,i64 c6,i64 bw,i64 bz,i64 bt]=some [.bool (oP ⟨ct,fw,db,dc,cY⟩ ⟨bf,c6,bw,bz,bt⟩)]:=by
 rw[aS (t:=Lbh) rfl];unfold Lbh;unfold oP
 have la:=wW ⟨ct,fw,db,dc,cY⟩;have lb:=wW ⟨bf,c6,bw,bz,bt⟩;have lb':(jW ⟨bf,c6,bw,bz,bt⟩).length<=1099511627776:=by omega
 simp (disch:=first|assumption|omega) only[S0,rA,rQ,rB,rT,rE,pM,ha];rw[Bas 1 (jW ⟨ct,fw,db,dc,cY⟩) (fun k=>kQ (jW ⟨bf,c6,bw,bz,bt⟩) k) (fun _=>[.bool true])]
 ·(refine aK ?_;repeat' (refine aJ ?_ ?_<;>intro _<;>try simp (disch:=first|assumption|omega) only[S0,rA,rQ,rB,rT,rE, *]))
 ·intro i hi dm hl hp
  simp (disch:=first|assumption|omega) only[S0,rA,rQ,rB,rT,rE,aN,pM,lF,hb,dm,hl,hp]
 ·intro i hi dm hl hp
  simp (disch:=first|assumption|omega) only[S0,rA,rQ,rB,rT,rE,aN,pM,lF,hb,dm,hl,hp]
 ·intro hl
  simp (disch:=first|assumption|omega) only[S0,rA,rQ,rB,rT,rE,hl]
theorem uD (n:Int)(bf c6 bw bz bt:Int):Fun T 57 [i64 n,i64 bf,i64 c6,i64 bw,i64 bz,i64 bt]=some [.bool (kQ (jW ⟨bf,c6,bw,bz,bt⟩) n)]:=by
 rw[aS (t:=Jb9) rfl];unfold Jb9
 have lb:=wW ⟨bf,c6,bw,bz,bt⟩;have lb':(jW ⟨bf,c6,bw,bz,bt⟩).length<=1099511627776:=by omega
 simp (disch:=first|assumption|omega) only[S0,rA,rQ,rB,rT,rE,Da7,slices_Contains_int]
theorem Iao (bf c6 bw bz bt:Int)(xs:List Int)(hx:xs.length<=1099511627776):Fun T 56 [rL xs,i64 bf,i64 c6,i64 bw,i64 bz,i64 bt]=some [i64 (ixF (fun x=>kQ (jW ⟨bf,c6,bw,bz,bt⟩) x) xs)]:=by
 rw[aS (t:=Kba) rfl];unfold Kba
 simp (disch:=first|assumption|omega) only[S0,rA,rQ,rB,rT,rE,aN, *];rw[Bas 1 xs (fun x=>kQ (jW ⟨bf,c6,bw,bz,bt⟩) x) (fun i=>[i64 i])]
 ·cases h:xs.any (fun x=>kQ (jW ⟨bf,c6,bw,bz,bt⟩) x)
  ·have e:ixF (fun x=>kQ (jW ⟨bf,c6,bw,bz,bt⟩) x) xs=-1:=by
    have h2:=eP (fun x=>kQ (jW ⟨bf,c6,bw,bz,bt⟩) x) xs;rw[h]at h2;unfold ixF at h2 ⊢;split at h2<;>simp_all
   rw[e];simp (disch:=first|assumption|omega) only[S0,rA,rQ,rB,rT,rE]
  ·simp (disch:=first|assumption|omega) only[S0,rA,rQ,rB,rT,rE]
 ·intro i hi hb hl hp
  (refine aK ?_;repeat' (refine aJ ?_ ?_<;>intro _<;>try simp (disch:=first|assumption|omega) only[S0,rA,rQ,rB,rT,rE,aN,uD, *]))
 ·intro i hi hb hl hp
  (refine aK ?_;repeat' (refine aJ ?_ ?_<;>intro _<;>try simp (disch:=first|assumption|omega) only[S0,rA,rQ,rB,rT,rE,aN,uD, *]))
 ·intro hl
  (refine aK ?_;repeat' (refine aJ ?_ ?_<;>intro _<;>try simp (disch:=first|assumption|omega) only[S0,rA,rQ,rB,rT,rE, *]))
theorem Iax (bf c6 bw bz bt:Int)(xs:List Int)(hx:xs.length<=1099511627776):Fun T 55 [rL xs,i64 bf,i64 c6,i64 bw,i64 bz,i64 bt]=some [.bool (xs.any (fun x=>kQ (jW ⟨bf,c6,bw,bz,bt⟩) x))]:=by
 rw[aS (t:=Kbb) rfl];unfold Kbb
 (refine aK ?_;repeat' (refine aJ ?_ ?_<;>intro _<;>try simp (disch:=first|assumption|omega) only[S0,rA,rQ,rB,rT,rE,Iao,eP, *]))
theorem yR (ct fw db dc cY:Int)(bf c6 bw bz bt:Int):Fun T 53 [i64 ct,i64 fw,i64 db,i64 dc,i64 cY,i64 bf,i64 c6,i64 bw,i64 bz,i64 bt]=some [.bool (oP ⟨ct,fw,db,dc,cY⟩ ⟨bf,c6,bw,bz,bt⟩)]:=by
 rw[aS (t:=Kbd) rfl];unfold Kbd;unfold oP
 have la:=wW ⟨ct,fw,db,dc,cY⟩;have la':(jW ⟨ct,fw,db,dc,cY⟩).length<=1099511627776:=by omega
 simp (disch:=first|assumption|omega) only[S0,rA,rQ,rB,rT,rE,Da7,Iax]
theorem tV (n:Int)(rows:List (List bT))(hs:∀ l∈rows,l.length<=6)(hl:rows.length<=100):Fun T 117 [i64 n,rL rows]=some [rL (bO rows)]:=by
 rw[aS (t:=Abp) rfl];unfold Abp;unfold bO
 simp (disch:=first|assumption|omega) only[S0,rA,rQ,rB,rT,rE];rw[gW rows.length (fun k=>[rL (Fak rows k),i64 k]) (.yield 1,[rL (Fak rows rows.length)]) rfl (by simp)]
 ·simp (disch:=first|assumption|omega) only[S0,rA,rQ,rB,rT,rE]
 ·intro k hk hlt
  have hb:InB rows (k:Int):=aM.2 hk;have h6:=hs _ (at_mem hk);have ve:=xW hs (m:=k) (by omega);simp (disch:=first|assumption|omega) only[S0,rA,rQ,rB,rT,rE,aN,hlt];rw[gW (atI rows (k:Int)).length (fun i=>[rL (Fak rows k++fU (atI rows (k:Int)) k i),i64 i]) (.yield 3,[rL (Fak rows (k+1))]) (by show [rL (Fak rows k),_]=_;simp[fU,aI.val]) (by simp)]
  ·simp (disch:=first|assumption|omega) only[S0,rA,rQ,rB,rT,rE]
  ·intro i hi ao
   have dm:InB (atI rows (k:Int)) (i:Int):=aM.2 hi;have hlc:=tC (atI rows (k:Int)) k i
   have fS:(Fak rows k++fU (atI rows (k:Int)) k i).length+([[(k:Int),(i:Int)+1]]:List (List Int)).length<=100000000000:=by
    rw[Qb6];simp only[Rbe,Rbk];omega
   have e:=pI (atI rows (k:Int)) k i;cases aj:(atI (atI rows (k:Int)) (i:Int)).state==3
   ·rw[aj]at e
    simp only[Qb4,if_false,Rbs]at e;simp (disch:=first|assumption|omega) only[S0,rA,rQ,rB,rT,rE,aN,ao,aj,e]
   ·rw[aj]at e
    simp only[if_true]at e;simp (disch:=first|assumption|omega) only[S0,rA,rQ,rB,rT,rE,aN,lQ,dY,ao,aj,e,<- Rba]
  ·intro ao
   rw[<- Ba3];simp (disch:=first|assumption|omega) only[S0,rA,rQ,rB,rT,rE,ao]
 ·intro hlt
  simp (disch:=first|assumption|omega) only[S0,rA,rQ,rB,rT,rE,hlt]
theorem uL (k m:Int)(aE bm ba ah az ar av au af:Int)(aa:(List Int))(out:List (List Int))(hl:out.length<=10000000000):Fun T 48 [i64 k,i64 m,i64 aE,i64 bm,i64 ba,i64 ah,i64 az,i64 ar,i64 av,i64 au,i64 af,rL aa,rL out]=some [rL (out++if ba==3 then [[k,m]] else [])]:=by
 rw[aS (t:=Kbh) rfl];unfold Kbh
 have fS:out.length+([[k,m]]:List (List Int)).length<=100000000000:=by simp only[Rbe,Rbk];omega
 cases aj:ba==3
 ·simp (disch:=first|assumption|omega) only[S0,rA,rQ,rB,rT,rE,aj,Rbs,Qb4]
 ·simp (disch:=first|assumption|omega) only[S0,rA,rQ,rB,rT,rE,lQ,dY,aj]
theorem Iau (n:Int)(rows:List (List bT))(hs:∀ l∈rows,l.length<=6)(hl:rows.length<=100):Fun T 47 [i64 n,rL rows,.rows 1 []]=some [rL (bO rows)]:=by
 rw[aS (t:=Kbi) rfl];unfold Kbi;unfold bO
 simp (disch:=first|assumption|omega) only[S0,rA,rQ,rB,rT,rE];rw[gW rows.length (fun k=>[i64 k,rL (Fak rows k)]) (.yield 1,[rL (Fak rows rows.length)]) rfl (by simp)]
 ·simp (disch:=first|assumption|omega) only[S0,rA,rQ,rB,rT,rE]
 ·intro k hk hlt
  have hb:InB rows (k:Int):=aM.2 hk;have h6:=hs _ (at_mem hk);have ve:=xW hs (m:=k) (by omega);simp (disch:=first|assumption|omega) only[S0,rA,rQ,rB,rT,rE,aN,hlt];rw[gW (atI rows (k:Int)).length (fun i=>[i64 i,rL (Fak rows k++fU (atI rows (k:Int)) k i)]) (.yield 3,[rL (Fak rows (k+1))]) (by show [_,rL (Fak rows k)]=_;simp[fU,aI.val]) (by simp)]
  ·simp (disch:=first|assumption|omega) only[S0,rA,rQ,rB,rT,rE]
  ·intro i hi ao
   have dm:InB (atI rows (k:Int)) (i:Int):=aM.2 hi;have hlc:=tC (atI rows (k:Int)) k i
   have fS:(Fak rows k++fU (atI rows (k:Int)) k i).length<=10000000000:=by
    rw[Qb6];omega
   have e:=pI (atI rows (k:Int)) k i;simp (disch:=first|assumption|omega) only[S0,rA,rQ,rB,rT,rE,aN,uL,ao,e,Rba]
  ·intro ao
   rw[<- Ba3];simp (disch:=first|assumption|omega) only[S0,rA,rQ,rB,rT,rE,ao]
 ·intro hlt
  simp (disch:=first|assumption|omega) only[S0,rA,rQ,rB,rT,rE,hlt]
theorem gD (n:Int)(rows:List (List bT))(hs:∀ l∈rows,l.length<=6)(hl:rows.length<=100):Fun T 46 [i64 n,rL rows]=some [rL (bO rows)]:=by
 rw[aS (t:=Kbj) rfl];unfold Kbj
 have h0:(aR.mk 1 0).run []=some [.rows 1 []]:=rfl;simp (disch:=first|assumption|omega) only[S0,rA,rQ,rB,rT,rE,h0,Iau]
theorem zM (n:Int)(rows:List (List bT))(ht:bA ⟨n,rows⟩=true)(hs:iM rows):Fun T 45 [i64 n,rL rows]=some [.bool (La4 ⟨n,rows⟩)]:=by
 rw[aS (t:=Kbk) rfl];unfold Kbk;unfold La4
 have hg:dK n=true:=aW ht;have hn:=bD hg;have hl:(rows.length:Int)=n:=dG ht;have h6:∀ l∈rows,l.length<=6:=fun l hl=>(eU ht hl).1
 have eN:rows.length<=100:=by omega
 have eV:(bO rows).length<=6*rows.length:=xW h6 (Rbg _);simp (disch:=first|assumption|omega) only[S0,rA,rQ,rB,rT,rE,gD];rw[Uau 1 (bO rows).length (fun i=>((bO rows).take i).all fun y=>!Za6 ⟨n,rows⟩ (atI (bO rows) (i:Int)) y) [.bool false]]
 ·(refine aK ?_;repeat' (refine aJ ?_ ?_<;>intro _<;>try simp (disch:=first|assumption|omega) only[S0,rA,rQ,rB,rT,rE, *]))
 ·intro i hi hlt
  have hb:InB (bO rows) (i:Int):=aM.2 hi;obtain⟨x0,x1,-,xi,-⟩:=kS ht (at_mem hi);simp only at xi;have xr:=bG xi;have xb:=dF ht xi;simp only at xb;simp (disch:=first|assumption|omega) only[S0,rA,rQ,rB,rT,rE,aN,Aab,hlt,Rb8,Tbh,Tbp];rw[Ibo 3 ((bO rows).take i) (fun y=>!Za6 ⟨n,rows⟩ (atI (bO rows) (i:Int)) y) [.bool false]]
  ·(refine aK ?_;repeat' (refine aJ ?_ ?_<;>intro _<;>try simp (disch:=first|assumption|omega) only[S0,rA,rQ,rB,rT,rE, *]))
  ·intro j hj dm ao hm
   have tg:j<1000:=by rw[Rbq]at hj;omega
   obtain⟨y0,y1,-,yi,-⟩:=kS ht (Tbc hm);simp only at yi;have yr:=bG yi;have yb:=dF ht yi;simp only at yb;have d1:=Pa9 ht xi yi;have d2:=Pa9 ht yi xi;unfold Za6;simp (disch:=first|assumption|omega) only[S0,rA,rQ,rB,rT,rE,aN,dO,yR,ao]<;>repeat' (refine aJ (fun _=>?_) (fun _=>?_)<;>try simp (disch:=first|assumption|omega) only[S0,rA,rQ,rB,rT,rE,aN, *])
  ·intro ao
   simp (disch:=first|assumption|omega) only[S0,rA,rQ,rB,rT,rE,ao]
 ·intro hlt
  simp (disch:=first|assumption|omega) only[S0,rA,rQ,rB,rT,rE,hlt]
theorem La3 (n:Int)(rows:List (List bT))(hs:iM rows):Fun T 25 [i64 n,rL rows]=some [.bool (Rae ⟨n,rows⟩).1,.bool (Rae ⟨n,rows⟩).2]:=by
 rw[aS (t:=Kb4) rfl];unfold Kb4;unfold Rae
 cases ht:bA ⟨n,rows⟩
 ·simp (disch:=first|assumption|omega) only[S0,rA,rQ,rB,rT,rE,bC,ht,Qb4]
 ·simp (disch:=first|assumption|omega) only[S0,rA,rQ,rB,rT,rE,bC,zM,ht]
theorem Fa4 (a b:Int):Fun T 16 [i64 a,i64 b]=some [i64 (max a b)]:=by
 rw[aS (t:=Lbd) rfl];unfold Lbd
 by_cases h:b<a
 ·have h2:decide (b<a)=true:=by simpa using h
  rw[Int.max_eq_left (by omega)];simp (disch:=first|assumption|omega) only[S0,rA,rQ,rB,rT,rE,h2]
 ·have h2:decide (b<a)=false:=by simpa using h
  rw[Int.max_eq_right (by omega)];simp (disch:=first|assumption|omega) only[S0,rA,rQ,rB,rT,rE,h2]
theorem eY (l:List (List Int))(x:List Int)(hl:l.length<=1099511627776)(hx:x.length<=1099511627776):Fun T 121 [rL l,rL x]=some [i64 (fM l x)]:=by
 rw[aS (t:=Abl) rfl];unfold Abl;unfold fM
 simp (disch:=first|assumption|omega) only[S0,rA,rQ,rB,rT,rE];rw[Bas 1 l (fun y=>decide (x=y)) (fun i=>[i64 i])]
 ·cases h:l.any (fun y=>decide (x=y))
  ·have e:ixF (fun y=>decide (x=y)) l=-1:=by
    have h2:=eP (fun y=>decide (x=y)) l;rw[h]at h2;unfold ixF at h2 ⊢;split at h2<;>simp_all
   rw[e];simp (disch:=first|assumption|omega) only[S0,rA,rQ,rB,rT,rE]
  ·simp (disch:=first|assumption|omega) only[S0,rA,rQ,rB,rT,rE]
 ·intro i hi hb hlt hp
  simp (disch:=first|assumption|omega) only[S0,rA,rQ,rB,rT,rE,aN,zF,hlt,hp]
 ·intro i hi hb hlt hp
  simp (disch:=first|assumption|omega) only[S0,rA,rQ,rB,rT,rE,aN,zF,hlt,hp]
 ·intro hlt
  simp (disch:=first|assumption|omega) only[S0,rA,rQ,rB,rT,rE,hlt]
theorem oV (y x:List Int)(hx:x.length<=1099511627776):Fun T 81 [rL y,rL x]=some [.bool (decide (x=y))]:=by
 rw[aS (t:=Jbl) rfl];unfold Jbl
 simp (disch:=first|assumption|omega) only[S0,rA,rQ,rB,rT,rE,slices_Equal_int]
theorem Eas (x:List Int)(gg:x.length<=1099511627776)(xs:List (List Int))(hx:xs.length<=1099511627776):Fun T 80 [rL xs,rL x]=some [i64 (ixF (fun y=>decide (x=y)) xs)]:=by
 rw[aS (t:=Jbm) rfl];unfold Jbm
 simp (disch:=first|assumption|omega) only[S0,rA,rQ,rB,rT,rE,aN, *];rw[Bas 1 xs (fun y=>decide (x=y)) (fun i=>[i64 i])]
 ·cases h:xs.any (fun y=>decide (x=y))
  ·have e:ixF (fun y=>decide (x=y)) xs=-1:=by
    have h2:=eP (fun y=>decide (x=y)) xs;rw[h]at h2;unfold ixF at h2 ⊢;split at h2<;>simp_all
   rw[e];simp (disch:=first|assumption|omega) only[S0,rA,rQ,rB,rT,rE]
  ·simp (disch:=first|assumption|omega) only[S0,rA,rQ,rB,rT,rE]
 ·intro i hi hb hl hp
  (refine aK ?_;repeat' (refine aJ ?_ ?_<;>intro _<;>try simp (disch:=first|assumption|omega) only[S0,rA,rQ,rB,rT,rE,aN,oV, *]))
 ·intro i hi hb hl hp
  (refine aK ?_;repeat' (refine aJ ?_ ?_<;>intro _<;>try simp (disch:=first|assumption|omega) only[S0,rA,rQ,rB,rT,rE,aN,oV, *]))
 ·intro hl
  (refine aK ?_;repeat' (refine aJ ?_ ?_<;>intro _<;>try simp (disch:=first|assumption|omega) only[S0,rA,rQ,rB,rT,rE, *]))
theorem Eaz (x:List Int)(gg:x.length<=1099511627776)(xs:List (List Int))(hx:xs.length<=1099511627776):Fun T 79 [rL xs,rL x]=some [.bool (xs.any (fun y=>decide (x=y)))]:=by
 rw[aS (t:=Jbn) rfl];unfold Jbn
 (refine aK ?_;repeat' (refine aJ ?_ ?_<;>intro _<;>try simp (disch:=first|assumption|omega) only[S0,rA,rQ,rB,rT,rE,Eas,eP, *]))
theorem iD (l:List (List Int))(x:List Int)(hl:l.length<=1099511627776)(hx:x.length<=1099511627776):Fun T 78 [rL l,rL x]=some [.bool (l.any fun y=>decide (x=y))]:=by
 rw[aS (t:=Jbo) rfl];unfold Jbo
 simp (disch:=first|assumption|omega) only[S0,rA,rQ,rB,rT,rE,Eaz]
theorem nM (y x:List Int)(hx:x.length<=1099511627776):Fun T 99 [rL y,rL x]=some [.bool (decide (x=y))]:=by
 rw[aS (t:=Ib6) rfl];unfold Ib6
 simp (disch:=first|assumption|omega) only[S0,rA,rQ,rB,rT,rE,slices_Equal_int]
theorem Ca3 (x:List Int)(gg:x.length<=1099511627776)(xs:List (List Int))(hx:xs.length<=1099511627776):Fun T 98 [rL xs,rL x]=some [i64 (ixF (fun y=>decide (x=y)) xs)]:=by
 rw[aS (t:=Ib7) rfl];unfold Ib7
 simp (disch:=first|assumption|omega) only[S0,rA,rQ,rB,rT,rE,aN, *];rw[Bas 1 xs (fun y=>decide (x=y)) (fun i=>[i64 i])]
 ·cases h:xs.any (fun y=>decide (x=y))
  ·have e:ixF (fun y=>decide (x=y)) xs=-1:=by
    have h2:=eP (fun y=>decide (x=y)) xs;rw[h]at h2;unfold ixF at h2 ⊢;split at h2<;>simp_all
   rw[e];simp (disch:=first|assumption|omega) only[S0,rA,rQ,rB,rT,rE]
  ·simp (disch:=first|assumption|omega) only[S0,rA,rQ,rB,rT,rE]
 ·intro i hi hb hl hp
  (refine aK ?_;repeat' (refine aJ ?_ ?_<;>intro _<;>try simp (disch:=first|assumption|omega) only[S0,rA,rQ,rB,rT,rE,aN,nM, *]))
 ·intro i hi hb hl hp
  (refine aK ?_;repeat' (refine aJ ?_ ?_<;>intro _<;>try simp (disch:=first|assumption|omega) only[S0,rA,rQ,rB,rT,rE,aN,nM, *]))
 ·intro hl
  (refine aK ?_;repeat' (refine aJ ?_ ?_<;>intro _<;>try simp (disch:=first|assumption|omega) only[S0,rA,rQ,rB,rT,rE, *]))
theorem Ca5 (x:List Int)(l:List (List Int))(hl:l.length<=1099511627776)(hx:x.length<=1099511627776):Fun T 97 [rL x,rL l]=some [i64 (fM l x)]:=by
 rw[aS (t:=Ib8) rfl];unfold Ib8;unfold fM
 simp (disch:=first|assumption|omega) only[S0,rA,rQ,rB,rT,rE,Ca3]
theorem Fa3 (n:Int)(rows:List (List bT))(rep no:Int)(ht:bA ⟨n,rows⟩=true)(hi:inst n rep no=true)(hs:iM rows):Fun T 119 [i64 n,rL rows,i64 rep,i64 no]=some [rL (Iaw ⟨n,rows⟩ rep no)]:=by
 rw[aS (t:=Abn) rfl];unfold Abn;unfold Iaw
 have hg:dK n=true:=aW ht;have hn:=bD hg;have hb:InB rows rep:=dF ht hi;have hr:=bG hi;have hd:=iN ht hi;have h6:=mV (mZ ht hi) hg;simp only at hd;simp (disch:=first|assumption|omega) only[S0,rA,rQ,rB,rT,rE,uU];generalize (fB ⟨n,rows⟩ rep no).attr.deps=deps at hd h6 ⊢;have mi:deps.length<=5:=by omega
 rw[gW deps.length (fun k=>[rL (Tas deps rep no k),i64 k]) (.yield 1,[rL (Tas deps rep no deps.length)]) rfl (by simp)]
 ·simp (disch:=first|assumption|omega) only[S0,rA,rQ,rB,rT,rE]
 ·intro k hk hlt
  have n2:InB deps (k:Int):=aM.2 hk;have hq:=h6 _ (at_mem hk);have ve:=Faj (deps:=deps) (rep:=rep) (no:=no) (fun d hd=>(h6 d hd).2) (m:=k) (by omega);simp (disch:=first|assumption|omega) only[S0,rA,rQ,rB,rT,rE,aN,hlt];rw[gW (atI deps (k:Int)).toNat (fun i=>[rL (Tas deps rep no k++wH k rep no i),i64 ((i:Int)+1)]) (.yield 3,[rL (Tas deps rep no (k+1))]) (by show [rL (Tas deps rep no k),_]=_;simp[wH,aI.val]) (by simp)]
  ·simp (disch:=first|assumption|omega) only[S0,rA,rQ,rB,rT,rE]
  ·intro i kr ao
   have hlc:=Dae (k:Int) rep no i
   have fS:(Tas deps rep no k++wH (k:Int) rep no i).length+([[(k:Int),(i:Int)+1]]:List (List Int)).length<=100000000000:=by
    rw[Qb6];simp only[Rbe,Rbk];omega
   have hle:decide ((i:Int)+1<=atI deps (k:Int))=true:=by simp;omega
   have e:=Hau (k:Int) rep no i;cases h1:(k:Int)==rep
   ·rw[h1]at e
    simp only[Ubk,Bool.true_or,if_true]at e;simp (disch:=first|assumption|omega) only[S0,rA,rQ,rB,rT,rE,lQ,dY,hle,h1,e,<- Rba]
   ·cases h2:(i:Int)+1==no
    ·rw[h1,h2]at e
     simp only[Ubk,Sb2,Tb4,if_true]at e;simp (disch:=first|assumption|omega) only[S0,rA,rQ,rB,rT,rE,lQ,dY,hle,h1,h2,e,<- Rba]
    ·rw[h1,h2]at e
     simp only[Sb2,Tbl,Qb4,if_false,Rbs]at e;simp (disch:=first|assumption|omega) only[S0,rA,rQ,rB,rT,rE,lQ,dY,hle,h1,h2,e]
  ·intro ao
   have hle:decide ((((atI deps (k:Int)).toNat:Nat):Int)+1<=atI deps (k:Int))=false:=by simp;omega
   rw[<- Pai];simp (disch:=first|assumption|omega) only[S0,rA,rQ,rB,rT,rE,hle]
 ·intro hlt
  simp (disch:=first|assumption|omega) only[S0,rA,rQ,rB,rT,rE,hlt]
theorem Nam (n:Int)(rows:List (List bT))(ht:bA ⟨n,rows⟩=true)(hs:iM rows):Fun T 123 [i64 n,rL rows]=some [rL (bO rows),rL (Ja8 ⟨n,rows⟩)]:=by
 rw[aS (t:=Abj) rfl];unfold Abj;unfold Ja8
 have hg:dK n=true:=aW ht;have hn:=bD hg;have hl:(rows.length:Int)=n:=dG ht;have h6:∀ l∈rows,l.length<=6:=fun l hl=>(eU ht hl).1
 have eN:rows.length<=100:=by omega
 have eV:(bO rows).length<=6*rows.length:=xW h6 (Rbg _);have a3w:(bO rows).length<=1099511627776:=by omega
 simp (disch:=first|assumption|omega) only[S0,rA,rQ,rB,rT,rE,tV];rw[gW (bO rows).length (fun k=>[rL (nR ⟨n,rows⟩ k),i64 k]) (.yield 1,[rL (nR ⟨n,rows⟩ (bO rows).length)]) rfl (by simp)]
 ·simp (disch:=first|assumption|omega) only[S0,rA,rQ,rB,rT,rE]
 ·intro k hk hlt
  have hb:InB (bO rows) (k:Int):=aM.2 hk;have bq:=at_mem hk;obtain⟨x0,x1,gg,xi,-⟩:=kS ht bq;simp only at xi;have zp:=Yad ht bq;simp only at zp;have vi:=Had ⟨n,rows⟩ k;simp only at vi;rw[<- zp]at vi;have zc:=mV (mZ ht xi) hg;have mi:=iN ht xi;simp only at mi
  have a3d:(Iaw ⟨n,rows⟩ (atI (atI (bO rows) (k:Int)) 0) (atI (atI (bO rows) (k:Int)) 1)).length<=30:=by
   have:=Faj (rep:=atI (atI (bO rows) (k:Int)) 0) (no:=atI (atI (bO rows) (k:Int)) 1) (fun d hd=>(zc d hd).2) (Rbg _);unfold Iaw;omega
  have fS:(nR ⟨n,rows⟩ k).length+1<=100000000000:=by rw[Ja7];omega
  simp (disch:=first|assumption|omega) only[S0,rA,rQ,rB,rT,rE,aN,Fa3,hlt]
  have ib:∀ y∈Iaw ⟨n,rows⟩ (atI (atI (bO rows) (k:Int)) 0) (atI (atI (bO rows) (k:Int)) 1),y.length<=1099511627776:=fun y hy=>by
   obtain⟨_,_,_,_,_,rfl⟩:=Fai.1 hy;simp
  generalize Iaw ⟨n,rows⟩ (atI (atI (bO rows) (k:Int)) 0) (atI (atI (bO rows) (k:Int)) 1)=ys at a3d vi zp ib ⊢;rw[gW ys.length (fun i=>[rL (Pa2 (bO rows) ys i),i64 i]) (.yield 3,[rL (Pa2 (bO rows) ys ys.length)]) rfl (by simp)]
  ·have xz:(nR ⟨n,rows⟩ k).length+([Pa2 (bO rows) ys ys.length]:List (List Int)).length<=100000000000:=fS
   simp (disch:=first|assumption|omega) only[S0,rA,rQ,rB,rT,rE,lQ,dY,vi]
  ·intro i hi ao
   have vz:InB ys (i:Int):=aM.2 hi;have sw:=ib _ (at_mem hi);have ju:=Sa2 (bO rows) ys i;have hpl2:(Pa2 (bO rows) ys i).length<=10000000000:=by omega
   rw[Aa3];cases hf:decide (0<=fM (bO rows) (atI ys (i:Int)))
   ·simp (disch:=first|assumption|omega) only[S0,rA,rQ,rB,rT,rE,aN,eY,ao,hf,Qb4]
   ·simp (disch:=first|assumption|omega) only[S0,rA,rQ,rB,rT,rE,aN,eY,Caq,ao,hf]
  ·intro ao
   simp (disch:=first|assumption|omega) only[S0,rA,rQ,rB,rT,rE,ao]
 ·intro hlt
  simp (disch:=first|assumption|omega) only[S0,rA,rQ,rB,rT,rE,hlt]
theorem Eaw (n:Int)(rows:List (List bT))(ht:bA ⟨n,rows⟩=true)(hs:iM rows):Fun T 83 [i64 n,rL rows]=some [rL (bO rows),rL (Ja8 ⟨n,rows⟩)]:=by
 rw[aS (t:=Jbk) rfl];unfold Jbk;unfold Ja8
 have hg:dK n=true:=aW ht;have hn:=bD hg;have hl:(rows.length:Int)=n:=dG ht;have h6:∀ l∈rows,l.length<=6:=fun l hl=>(eU ht hl).1
 have eN:rows.length<=100:=by omega
 have eV:(bO rows).length<=6*rows.length:=xW h6 (Rbg _);have h0:(aR.mk 1 0).run []=some [.rows 1 []]:=rfl;simp (disch:=first|assumption|omega) only[S0,rA,rQ,rB,rT,rE,gD,h0];rw[gW (bO rows).length (fun k=>[rL (nR ⟨n,rows⟩ k),i64 k]) (.yield 1,[rL (nR ⟨n,rows⟩ (bO rows).length)]) rfl (by simp)]
 ·simp (disch:=first|assumption|omega) only[S0,rA,rQ,rB,rT,rE]
 ·intro k hk hlt
  have hb:InB (bO rows) (k:Int):=aM.2 hk;have bq:=at_mem hk;obtain⟨x0,x1,gg,xi,-⟩:=kS ht bq;simp only at xi;have xr:=bG xi;have xb:=dF ht xi;simp only at xb;have lE:(atI (bO rows) (k:Int)).length<=1099511627776:=by omega
  have vi:=Had ⟨n,rows⟩ k;simp only at vi;have hd:=iN ht xi;simp only at hd;simp (disch:=first|assumption|omega) only[S0,rA,rQ,rB,rT,rE,aN,dO,hlt,h0];rw[gW (bO rows).length (fun i=>[rL (uM (bO rows) (fB ⟨n,rows⟩ (atI (atI (bO rows) (k:Int)) 0) (atI (atI (bO rows) (k:Int)) 1)).attr.deps (atI (bO rows) (k:Int)) i),i64 i]) (.yield 3,[rL (uM (bO rows) (fB ⟨n,rows⟩ (atI (atI (bO rows) (k:Int)) 0) (atI (atI (bO rows) (k:Int)) 1)).attr.deps (atI (bO rows) (k:Int)) (bO rows).length)]) rfl (by simp)]
  ·have fS:(nR ⟨n,rows⟩ k).length+1<=100000000000:=by rw[Ja7];omega
   have xz:(nR ⟨n,rows⟩ k).length+([uM (bO rows) (fB ⟨n,rows⟩ (atI (atI (bO rows) (k:Int)) 0) (atI (atI (bO rows) (k:Int)) 1)).attr.deps (atI (bO rows) (k:Int)) (bO rows).length]:List (List Int)).length<=100000000000:=fS;simp (disch:=first|assumption|omega) only[S0,rA,rQ,rB,rT,rE,lQ,dY,vi]
  ·intro i hi ao
   have uo:InB (bO rows) (i:Int):=aM.2 hi;obtain⟨y0,y1,-,yi,-⟩:=kS ht (at_mem hi);simp only at yi;have yr:=bG yi;have hbd:=Pa9 ht xi yi;rw[Ca7];unfold Oay;generalize (fB ⟨n,rows⟩ (atI (atI (bO rows) (k:Int)) 0) (atI (atI (bO rows) (k:Int)) 1)).attr.deps=deps at hbd ⊢;have hhl:=Hab (bO rows) deps (atI (bO rows) (k:Int)) i;have fS:(uM (bO rows) deps (atI (bO rows) (k:Int)) i).length+([(i:Int)]:List Int).length<=100000000000:=by simp only[Rbe,Rbk];omega
   cases h1:decide (atI (bO rows) (k:Int)=atI (bO rows) (i:Int))
   ·cases h2:decide (atI (atI (bO rows) (i:Int)) 1<=atI deps (atI (atI (bO rows) (i:Int)) 0))
    ·simp (disch:=first|assumption|omega) only[S0,rA,rQ,rB,rT,rE,aN,slices_Equal_int,ao,h1,h2,Qb4,Rbs]
    ·simp (disch:=first|assumption|omega) only[S0,rA,rQ,rB,rT,rE,aN,lQ,dY,slices_Equal_int,ao,h1,h2]
   ·simp (disch:=first|assumption|omega) only[S0,rA,rQ,rB,rT,rE,aN,slices_Equal_int,ao,h1,Qb4,Rbs]
  ·intro ao
   simp (disch:=first|assumption|omega) only[S0,rA,rQ,rB,rT,rE,ao]
 ·intro hlt
  simp (disch:=first|assumption|omega) only[S0,rA,rQ,rB,rT,rE,hlt]
theorem uS (n:Int)(rows:List (List bT))(l:List (List Int))(hg:dK n=true)(hl:l.length<=10000000000)(hx:∀ x∈l,x.length<=10000000000):Fun T 130 [i64 n,rL rows,rL l]=some [.bool (oQ n l)]:=by
 rw[aS (t:=Abc) rfl];unfold Abc;unfold oQ
 simp (disch:=first|assumption|omega) only[S0,rA,rQ,rB,rT,rE];rw[Uau 1 l.length (Ga4 n l) [.bool false]]
 ·(refine aK ?_;repeat' (refine aJ ?_ ?_<;>intro _<;>try simp (disch:=first|assumption|omega) only[S0,rA,rQ,rB,rT,rE, *]))
 ·intro i hi hlt
  have hb:InB l (i:Int):=aM.2 hi;have hq:=hx _ (at_mem hi);have ht:(l.take i).length<=1099511627776:=by rw[Rbq];omega
  have lA:(atI l (i:Int)).length<=1099511627776:=by omega
  unfold Ga4;cases h2:((atI l (i:Int)).length:Int)==2
  ·simp (disch:=first|assumption|omega) only[S0,rA,rQ,rB,rT,rE,aN,hlt,h2]
  ·have sf:((atI l (i:Int)).length:Int)=2:=by simpa using h2
   have b0:InB (atI l (i:Int)) 0:=by unfold InB;omega
   have b1:InB (atI l (i:Int)) 1:=by unfold InB;omega
   have e:(l.take i).any (fun y=>decide (atI l (i:Int)=y))=decide (0<=fM (l.take i) (atI l (i:Int))):=(eP _ _).symm;cases h3:inst n (atI (atI l (i:Int)) 0) (atI (atI l (i:Int)) 1)
   ·simp (disch:=first|assumption|omega) only[S0,rA,rQ,rB,rT,rE,aN,zD,hlt,h2,h3]
   ·cases h4:decide (0<=fM (l.take i) (atI l (i:Int)))
    ·simp (disch:=first|assumption|omega) only[S0,rA,rQ,rB,rT,rE,aN,Aab,zD,eY,hlt,h2,h3,h4,e,Rb8,Tbh,Tbp]
    ·simp (disch:=first|assumption|omega) only[S0,rA,rQ,rB,rT,rE,aN,Aab,zD,eY,hlt,h2,h3,h4,e,Rb8,Tbh,Tbp]
 ·intro hlt
  simp (disch:=first|assumption|omega) only[S0,rA,rQ,rB,rT,rE,hlt]
theorem lK (n:Int)(l:List (List Int))(hg:dK n=true)(hl:l.length<=10000000000)(hx:∀ x∈l,x.length<=10000000000):Fun T 95 [i64 n,rL l]=some [.bool (oQ n l)]:=by
 rw[aS (t:=Jba) rfl];unfold Jba;unfold oQ
 simp (disch:=first|assumption|omega) only[S0,rA,rQ,rB,rT,rE];rw[Uau 1 l.length (Ga4 n l) [.bool false]]
 ·(refine aK ?_;repeat' (refine aJ ?_ ?_<;>intro _<;>try simp (disch:=first|assumption|omega) only[S0,rA,rQ,rB,rT,rE, *]))
 ·intro i hi hlt
  have hb:InB l (i:Int):=aM.2 hi;have hq:=hx _ (at_mem hi);have ht:(l.take i).length<=1099511627776:=by rw[Rbq];omega
  have lA:(atI l (i:Int)).length<=1099511627776:=by omega
  unfold Ga4;cases h2:((atI l (i:Int)).length:Int)==2
  ·simp (disch:=first|assumption|omega) only[S0,rA,rQ,rB,rT,rE,aN,hlt,h2]
  ·have sf:((atI l (i:Int)).length:Int)=2:=by simpa using h2
   have b0:InB (atI l (i:Int)) 0:=by unfold InB;omega
   have b1:InB (atI l (i:Int)) 1:=by unfold InB;omega
   cases h3:inst n (atI (atI l (i:Int)) 0) (atI (atI l (i:Int)) 1)
   ·simp (disch:=first|assumption|omega) only[S0,rA,rQ,rB,rT,rE,aN,dS,hlt,h2,h3,hg]
   ·cases h4:(l.take i).any (fun y=>decide (atI l (i:Int)=y))
    ·simp (disch:=first|assumption|omega) only[S0,rA,rQ,rB,rT,rE,aN,Aab,dS,iD,hlt,h2,h3,h4,hg,Rb8,Tbh,Tbp]
    ·simp (disch:=first|assumption|omega) only[S0,rA,rQ,rB,rT,rE,aN,Aab,dS,iD,hlt,h2,h3,h4,hg,Rb8,Tbh,Tbp]
 ·intro hlt
  simp (disch:=first|assumption|omega) only[S0,rA,rQ,rB,rT,rE,hlt]
theorem vV (n:Int)(rows:List (List bT))(a b:List (List Int))(ht:bA ⟨n,rows⟩=true)(ha:oQ n a=true)(hs:iM rows)(hla:a.length<=10000000000)(hlb:b.length<=10000000000):Fun T 96 [i64 n,rL rows,rL a,rL b]=some [.bool (Gbg ⟨n,rows⟩ a b)]:=by
 rw[aS (t:=Ib9) rfl];unfold Ib9;unfold Gbg
 have hg:dK n=true:=aW ht;have a29:b.length<=1099511627776:=by omega
 simp (disch:=first|assumption|omega) only[S0,rA,rQ,rB,rT,rE];rw[Uau 1 a.length (fun i=>(a.take i).all fun y=>!Bbq ⟨n,rows⟩ b (atI a (i:Int)) y) [.bool false]]
 ·(refine aK ?_;repeat' (refine aJ ?_ ?_<;>intro _<;>try simp (disch:=first|assumption|omega) only[S0,rA,rQ,rB,rT,rE, *]))
 ·intro i hi hlt
  have hb:InB a (i:Int):=aM.2 hi;obtain⟨xl,xi⟩:=sM ha (at_mem hi);have x0:InB (atI a (i:Int)) 0:=by unfold InB;omega
  have x1:InB (atI a (i:Int)) 1:=by unfold InB;omega
  have xr:=bG xi;have xb:=dF (t:=⟨n,rows⟩) ht xi;simp only at xb;have xl2:(atI a (i:Int)).length<=1099511627776:=by omega
  simp (disch:=first|assumption|omega) only[S0,rA,rQ,rB,rT,rE,aN,Aab,hlt,Rb8,Tbh,Tbp];rw[Ibo 3 (a.take i) (fun y=>!Bbq ⟨n,rows⟩ b (atI a (i:Int)) y) [.bool false]]
  ·(refine aK ?_;repeat' (refine aJ ?_ ?_<;>intro _<;>try simp (disch:=first|assumption|omega) only[S0,rA,rQ,rB,rT,rE, *]))
  ·intro j hj dm ao hm
   have tg:j<10000000000:=by rw[Rbq]at hj;omega
   obtain⟨yl,yi⟩:=sM ha (Tbc hm);have y0:InB (atI (a.take i) (j:Int)) 0:=by unfold InB;omega
   have y1:InB (atI (a.take i) (j:Int)) 1:=by unfold InB;omega
   have yr:=bG yi;have yb:=dF (t:=⟨n,rows⟩) ht yi;simp only at yb;have yl2:(atI (a.take i) (j:Int)).length<=1099511627776:=by omega
   unfold Bbq;generalize h1:oP (fB ⟨n,rows⟩ (atI (atI a (i:Int)) 0) (atI (atI a (i:Int)) 1)).cmd (fB ⟨n,rows⟩ (atI (atI (a.take i) (j:Int)) 0) (atI (atI (a.take i) (j:Int)) 1)).cmd=q;simp (disch:=first|assumption|omega) only[S0,rA,rQ,rB,rT,rE,aN,dO,yR,ao,h1]<;>repeat' (refine aJ (fun _=>?_) (fun _=>?_)<;>try simp (disch:=first|assumption|omega) only[S0,rA,rQ,rB,rT,rE,aN,Ca5, *])
  ·intro ao
   simp (disch:=first|assumption|omega) only[S0,rA,rQ,rB,rT,rE,ao]
 ·intro hlt
  simp (disch:=first|assumption|omega) only[S0,rA,rQ,rB,rT,rE,hlt]
theorem vW (a b:List (List Int))(n:Int)(rows:List (List bT))(hs:iM rows)(hla:a.length<=10000000000)(hlb:b.length<=10000000000)(hxa:∀ x∈a,x.length<=10000000000)(hxb:∀ x∈b,x.length<=10000000000) :
  Fun T 94 [rL a,rL b,i64 n,rL rows]=some [.bool (Bbp a b ⟨n,rows⟩).1,.bool (Bbp a b ⟨n,rows⟩).2]:=by
 rw[aS (t:=Jbb) rfl];unfold Jbb;unfold Bbp
 cases ht:bA ⟨n,rows⟩
 ·simp (disch:=first|assumption|omega) only[S0,rA,rQ,rB,rT,rE,bC,ht,Qb4]
 have hg:dK n=true:=aW ht;cases ha:oQ n a
 ·simp (disch:=first|assumption|omega) only[S0,rA,rQ,rB,rT,rE,bC,lK,ht,ha,Qb4]
 cases hb:oQ n b
 ·simp (disch:=first|assumption|omega) only[S0,rA,rQ,rB,rT,rE,bC,lK,ht,ha,hb,Qb4]
 simp (disch:=first|assumption|omega) only[S0,rA,rQ,rB,rT,rE,bC,lK,vV,ht,ha,hb]
theorem Fa5 (a b:List (List Int))(n:Int)(rows:List (List bT))(hs:iM rows)(hla:a.length<=10000000000)(hlb:b.length<=10000000000)(hxa:∀ x∈a,x.length<=10000000000)(hxb:∀ x∈b,x.length<=10000000000) :
  Fun T 129 [rL a,rL b,i64 n,rL rows]=some [.bool (Bbp a b ⟨n,rows⟩).1,.bool (Bbp a b ⟨n,rows⟩).2]:=by
 rw[aS (t:=Abd) rfl];unfold Abd;unfold Bbp
 have a29:b.length<=1099511627776:=by omega
 cases ht:bA ⟨n,rows⟩
 ·simp (disch:=first|assumption|omega) only[S0,rA,rQ,rB,rT,rE,iF,ht,Qb4]
 have hg:dK n=true:=aW ht;cases ha:oQ n a
 ·simp (disch:=first|assumption|omega) only[S0,rA,rQ,rB,rT,rE,iF,uS,ht,ha,Qb4]
 cases hb:oQ n b
 ·simp (disch:=first|assumption|omega) only[S0,rA,rQ,rB,rT,rE,iF,uS,ht,ha,hb,Qb4]
 simp (disch:=first|assumption|omega) only[S0,rA,rQ,rB,rT,rE,iF,uS,ht,ha,hb];unfold Gbg;rw[Uau 1 a.length (fun i=>(a.take i).all fun y=>!Bbq ⟨n,rows⟩ b (atI a (i:Int)) y) [.bool false,.bool true]]
 ·(refine aK ?_;repeat' (refine aJ ?_ ?_<;>intro _<;>try simp (disch:=first|assumption|omega) only[S0,rA,rQ,rB,rT,rE, *]))
 ·intro i hi hlt
  have uo:InB a (i:Int):=aM.2 hi;obtain⟨xl,xi⟩:=sM ha (at_mem hi);have x0:InB (atI a (i:Int)) 0:=by unfold InB;omega
  have x1:InB (atI a (i:Int)) 1:=by unfold InB;omega
  have xr:=bG xi;have xb:=dF (t:=⟨n,rows⟩) ht xi;simp only at xb;have xc:pU (fB ⟨n,rows⟩ (atI (atI a (i:Int)) 0) (atI (atI a (i:Int)) 1)).cmd=true:=Na5 (mZ (t:=⟨n,rows⟩) ht xi);have xl2:(atI a (i:Int)).length<=1099511627776:=by omega
  simp (disch:=first|assumption|omega) only[S0,rA,rQ,rB,rT,rE,aN,Aab,hlt,Rb8,Tbh,Tbp];rw[Ibo 3 (a.take i) (fun y=>!Bbq ⟨n,rows⟩ b (atI a (i:Int)) y) [.bool false,.bool true]]
  ·(refine aK ?_;repeat' (refine aJ ?_ ?_<;>intro _<;>try simp (disch:=first|assumption|omega) only[S0,rA,rQ,rB,rT,rE, *]))
  ·intro j hj dm ao hm
   have tg:j<10000000000:=by rw[Rbq]at hj;omega
   obtain⟨yl,yi⟩:=sM ha (Tbc hm);have y0:InB (atI (a.take i) (j:Int)) 0:=by unfold InB;omega
   have y1:InB (atI (a.take i) (j:Int)) 1:=by unfold InB;omega
   have yr:=bG yi;have yb:=dF (t:=⟨n,rows⟩) ht yi;simp only at yb;have yc:pU (fB ⟨n,rows⟩ (atI (atI (a.take i) (j:Int)) 0) (atI (atI (a.take i) (j:Int)) 1)).cmd=true:=Na5 (mZ (t:=⟨n,rows⟩) ht yi);have yl2:(atI (a.take i) (j:Int)).length<=1099511627776:=by omega
   unfold Bbq;rw[Ga2];generalize h1:oP (fB ⟨n,rows⟩ (atI (atI (a.take i) (j:Int)) 0) (atI (atI (a.take i) (j:Int)) 1)).cmd (fB ⟨n,rows⟩ (atI (atI a (i:Int)) 0) (atI (atI a (i:Int)) 1)).cmd=q;simp (disch:=first|assumption|omega) only[S0,rA,rQ,rB,rT,rE,aN,eY,ao]<;>repeat' (refine aJ (fun _=>?_) (fun _=>?_)<;>try simp (disch:=first|assumption|omega) only[S0,rA,rQ,rB,rT,rE,aN,uU,tX,h1, *])
  ·intro ao
   simp (disch:=first|assumption|omega) only[S0,rA,rQ,rB,rT,rE,ao]
 ·intro hlt
  simp (disch:=first|assumption|omega) only[S0,rA,rQ,rB,rT,rE,hlt]
theorem Bal (n:Int)(hg:dK n=true):Fun T 63 [i64 n]=some [i64 n,rL (Rbf n.toNat ([]:List bT))]:=by
 rw[aS (t:=Jb3) rfl];unfold Jb3
 have hn:=bD hg;simp (disch:=first|assumption|omega) only[S0,rA,rQ,rB,rT,rE,Kaj]
theorem Tau (code:D)(hc:isBytes code)(a s:Int)(h0:0<=a)(h1:a<=4611686018427387904):∃ v s',Fun T 7 [code,i64 a,u64 s]=some [i64 v,code,i64 (a+1),u64 s']/\0<=v/\v<=255:=by
 rw[aS (t:=tm7) rfl];unfold tm7
 obtain⟨l1,l2⟩:=Ba9 hc;by_cases hlt:a<(Pa5 code:Nat)
 ·obtain⟨b1,b,b2,b3,b4⟩:=bytes_at hc h0 hlt
  have c8:=Waa b3 b4;have d:decide (a<((Pa5 code:Nat):Int))=true:=by simpa using hlt
  have e:decide (a+1<=((Pa5 code:Nat):Int))=true:=by simp;omega
  simp (disch:=first|assumption|omega) only[S0,rA,rQ,rB,rT,rE,l1,b1,b2,c8,d,e,Ibp];exact⟨_,_,rfl,b3,b4⟩
 ·have d:decide (a<((Pa5 code:Nat):Int))=false:=by simpa using hlt
  have e:decide (a+1<=((Pa5 code:Nat):Int))=false:=by simp;omega
  simp (disch:=first|assumption|omega) only[S0,rA,rQ,rB,rT,rE,l1,d,e,Ibp];exact⟨_,_,rfl,(Taa _).1,(Taa _).2⟩
theorem dA (code:D)(hc:isBytes code)(n a s:Int)(h0:0<=a)(h1:a<=2305843009213693952):∃ v a' s',Fun T 6 [i64 n,code,i64 a,u64 s]=some [i64 v,code,i64 a',u64 s']/\0<=v/\(1<=n->v<n)/\a<=a'/\a'<=a+2:=by
 rw[aS (t:=tm6) rfl];unfold tm6
 by_cases hn:n<=1
 ·have d:decide (n<=1)=true:=by simpa using hn
  simp (disch:=first|assumption|omega) only[S0,rA,rQ,rB,rT,rE,d];exact⟨_,_,_,rfl,by omega,by omega,by omega,by omega⟩
 ·have d:decide (n<=1)=false:=by simpa using hn
  obtain⟨v,s',e,v1,v2⟩:=Tau code hc a s h0 (by omega);by_cases tG:200<n
  ·have d2:decide (200<n)=true:=by simpa using tG
   obtain⟨w,s2,e2,w1,w2⟩:=Tau code hc (a+1) s' (by omega) (by omega);have r1:(aR.bin .mul).run [i64 v,i64 256]=some [i64 (v*256)]:=Ea9 (by omega) (by omega);have r2:=xA (a:=v*256+w) (b:=n) (by omega) (by omega);simp (disch:=first|assumption|omega) only[S0,rA,rQ,rB,rT,rE,d,d2,e,e2,r1,r2];exact⟨_,_,_,rfl,Int.emod_nonneg _ (by omega),fun _=>Int.emod_lt_of_pos _ (by omega),by omega,by omega⟩
  ·have d2:decide (200<n)=false:=by simpa using tG
   have r2:=xA (a:=v) (b:=n) (by omega) (by omega);simp (disch:=first|assumption|omega) only[S0,rA,rQ,rB,rT,rE,d,d2,e,r2];exact⟨_,_,_,rfl,Int.emod_nonneg _ (by omega),fun _=>Int.emod_lt_of_pos _ (by omega),by omega,by omega⟩
theorem zV (code:D)(hc:isBytes code)(n a s:Int)(h0:0<=a)(h1:a<=2305843009213693952):∃ v a' s',Fun T 9 [i64 n,code,i64 a,u64 s]=some [.bool v,code,i64 a',u64 s']/\a<=a'/\a'<=a+2:=by
 rw[aS (t:=tm9) rfl];unfold tm9
 obtain⟨v,a',s',e,v1,v2,v3,v4⟩:=dA code hc n a s h0 h1;simp (disch:=first|assumption|omega) only[S0,rA,rQ,rB,rT,rE,e];exact⟨_,_,_,rfl,v3,v4⟩
theorem Pal (code:D)(hc:isBytes code)(xs:List Int)(a s:Int)(hx:0<xs.length)(gg:xs.length<=10000000000)(h0:0<=a)(h1:a<=2305843009213693952):∃ v a' s',Fun T 23 [rL xs,code,i64 a,u64 s]=some [i64 v,code,i64 a',u64 s']/\v∈xs/\a<=a'/\a'<=a+2:=by
 rw[aS (t:=Kb6) rfl];unfold Kb6
 obtain⟨v,a',s',e,v1,v2,v3,v4⟩:=dA code hc xs.length a s h0 h1;have hb:InB xs v:=by unfold InB;omega
 simp (disch:=first|assumption|omega) only[S0,rA,rQ,rB,rT,rE,e,aN];exact⟨_,_,_,rfl,dE hb,v3,v4⟩
theorem Fbn (code:D)(hc:isBytes code)(a s:Int)(h0:0<=a)(h1:a<=1152921504606846976):∃ (c:yY) (a' s':Int),Fun T 8 [code,i64 a,u64 s]=some [i64 c.kind,i64 c.id,i64 c.src,i64 c.dst,i64 c.amt,code,i64 a',u64 s']/\(1<=c.amt->c.kind=1)/\(0<=c.amt/\c.amt<=30)/\a<=a'/\a'<=a+10:=by
 rw[aS (t:=tm8) rfl];unfold tm8
 obtain⟨v1,a1,s1,e1,p1,q1,g1,k1⟩:=dA code hc 9 a s h0 (by omega);obtain⟨v2,a2,s2,e2,p2,q2,g2,k2⟩:=dA code hc 4 a1 s1 (by omega) (by omega);obtain⟨v3,a3,s3,e3,p3,q3,g3,k3⟩:=dA code hc 30 a2 s2 (by omega) (by omega);obtain⟨v4,a4,s4,e4,p4,q4,g4,k4⟩:=dA code hc 3 a3 s3 (by omega) (by omega);obtain⟨v5,a5,s5,e5,g5,k5⟩:=zV code hc 4 a4 s4 (by omega) (by omega);have r2:=xA (a:=v2+1+v4) (b:=4) (by omega) (by omega);have q1':=q1 (by omega);have q2':=q2 (by omega);have q3':=q3 (by omega);have q4':=q4 (by omega);cases v5
 ·simp (disch:=first|assumption|omega) only[S0,rA,rQ,rB,rT,rE,e1,e2,e3,e4,e5,r2]
  exact⟨⟨_,_,_,_,_⟩,_,_,rfl,fun _=>rfl,by simp only;omega,by omega,by omega⟩
 ·simp (disch:=first|assumption|omega) only[S0,rA,rQ,rB,rT,rE,e1,e2,e3,e4,e5,r2]
  exact⟨⟨_,_,_,_,_⟩,_,_,rfl,by simp only;omega,by simp only;omega,by omega,by omega⟩
theorem uV (n:Int)(h0:0<=n)(h1:n<=1000):Fun T 11 [i64 n]=some [i64 0,rL (Rbf n.toNat (0:Int))]:=by
 rw[aS (t:=Gbf) rfl];unfold Gbf
 (refine aK ?_;repeat' (refine aJ ?_ ?_<;>intro _<;>try simp (disch:=first|assumption|omega) only[S0,rA,rQ,rB,rT,rE,Kaj, *]))
theorem Fbm (code:D)(hc:isBytes code)(n a s:Int)(hn:0<=n)(tG:n<=10)(h0:0<=a)(h1:a<=576460752303423488):∃ (r:bT) (a' s':Int),Fun T 24 [i64 n,code,i64 a,u64 s]=some [i64 r.ballot,i64 r.vote,i64 r.state,i64 r.cmd.kind,i64 r.cmd.id,i64 r.cmd.src,i64 r.cmd.dst,i64 r.cmd.amt,i64 r.attr.seq,rL r.attr.deps,code,i64 a',u64 s']/\(r.attr.deps.length:Int)=n/\a<=a'/\a'<=a+50:=by
 rw[aS (t:=Kb5) rfl];unfold Kb5
 obtain⟨v1,a1,s1,e1,p1,g1,k1⟩:=Pal code hc [0,0,8,9,17] a s (by simp) (by simp) h0 (by omega);obtain⟨v2,a2,s2,e2,p2,q2,g2,k2⟩:=dA code hc 4 a1 s1 (by omega) (by omega);obtain⟨c3,a3,s3,e3,-,-,g3,k3⟩:=Fbn code hc a2 s2 (by omega) (by omega);obtain⟨v4,a4,s4,e4,p4,q4,g4,k4⟩:=dA code hc 5 a3 s3 (by omega) (by omega);simp (disch:=first|assumption|omega) only[S0,rA,rQ,rB,rT,rE,e1,e2,e3,e4,lQ];generalize hE:Er T (Tm.loop _ _) _=E
 have key:∃ q,E=some q/\∃ (ds:List Int) (a' s':Int),q=(.yield 1,[code,i64 a',u64 s',rL ds])/\(ds.length:Int)=n/\a<=a'/\a'<=a+40:=by
  rw[<- hE];refine uC (γ:=Nat×Int×Int×List Int) (fun c=>n.toNat-c.1) (fun c=>(c.1:Int)<=n/\c.2.2.2.length=c.1/\a4<=c.2.1/\c.2.1<=a4+2*c.1) (fun c=>[i64 c.1,code,i64 c.2.1,u64 c.2.2.1,rL c.2.2.2]) _ (0,a4,s4,[]) rfl (by simp;omega) ?_
  rintro⟨i,a5,s5,ds⟩ ⟨h2,h3,h4,h5⟩
  simp only at h2 h3 h4 h5;by_cases hi:(i:Int)<n
  ·have d:decide ((i:Int)<n)=true:=by simpa using hi
   obtain⟨v6,a6,s6,e6,p6,q6,g6,k6⟩:=dA code hc 3 a5 s5 (by omega) (by omega);have z:ds.length+([v6]:List Int).length<=100000000000:=by simp only[Rbe,Rbk];omega
   refine .inl ⟨(i+1,a6,s6,ds++[v6]),?_,⟨by simp only;omega,by simp[h3],by simp only;omega,by simp only;omega⟩,by simp only;omega⟩;simp (disch:=first|assumption|omega) only[S0,rA,rQ,rB,rT,rE,d,e6,lQ,dY]
  ·have d:decide ((i:Int)<n)=false:=by simpa using hi
   refine .inr ⟨(.yield 1,[code,i64 a5,u64 s5,rL ds]),?_,by simp,ds,a5,s5,rfl,by omega,by omega,by omega⟩;simp (disch:=first|assumption|omega) only[S0,rA,rQ,rB,rT,rE,d]
 obtain⟨q,rfl,ds,a5,s5,rfl,h2,h3,h4⟩:=key;obtain⟨v6,a6,s6,e6,g6,k6⟩:=zV code hc 2 a5 s5 (by omega) (by omega);cases hz:v2==0
 ·cases v6
  ·simp (disch:=first|assumption|omega) only[S0,rA,rQ,rB,rT,rE,e6,hz]
   exact⟨⟨_,_,_,⟨_,_,_,_,_⟩,⟨_,_⟩⟩,_,_,rfl,h2,by omega,by omega⟩
  ·simp (disch:=first|assumption|omega) only[S0,rA,rQ,rB,rT,rE,e6,hz]
   exact⟨⟨_,_,_,⟨_,_,_,_,_⟩,⟨_,_⟩⟩,_,_,rfl,h2,by omega,by omega⟩
 ·have e7:=uV n (by omega) (by omega)
  cases v6
  ·simp (disch:=first|assumption|omega) only[S0,rA,rQ,rB,rT,rE,e6,e7,hz]
   exact⟨⟨_,_,_,⟨_,_,_,_,_⟩,⟨_,_⟩⟩,_,_,rfl,by simp only[Rbw];omega,by omega,by omega⟩
  ·simp (disch:=first|assumption|omega) only[S0,rA,rQ,rB,rT,rE,e6,e7,hz]
   exact⟨⟨_,_,_,⟨_,_,_,_,_⟩,⟨_,_⟩⟩,_,_,rfl,by simp only[Rbw];omega,by omega,by omega⟩
theorem Kab (n:Int)(h0:0<=n)(h1:n<=1000):Fun T 5 [i64 n]=some [i64 n,rL (Rbf n.toNat ([]:List bT))]:=by
 rw[aS (t:=tm5) rfl];unfold tm5
 have e:(aR.make 24 [(.rows 10 [])]).run [i64 n]=some [rL (Rbf n.toNat ([]:List bT))]:=Kaj.2.2.2.1 h0 (by omega);simp (disch:=first|assumption|omega) only[S0,rA,rQ,rB,rT,rE,e]
theorem Ya9 (code:D)(hc:isBytes code)(a s:Int)(h0:0<=a)(h1:a<=288230376151711744):∃ (t:aG) (a' s':Int),Fun T 22 [code,i64 a,u64 s]=some [i64 t.n,rL t.rows,code,i64 a',u64 s']/\(0<=t.n/\t.n<=5)/\t.rows.length<=5/\(∀ l∈t.rows,l.length<=5/\∀ r∈l,r.attr.deps.length<=10)/\a<=a'/\a'<=a+2000:=by
 rw[aS (t:=Kb7) rfl];unfold Kb7
 obtain⟨n,a1,s1,e1,p1,g1,k1⟩:=Pal code hc [3,3,3,5] a s (by simp) (by simp) h0 (by omega);have hn:3<=n/\n<=5:=by simp at p1;omega
 have e2:=Kab n (by omega) (by omega);have eL:((Rbf n.toNat ([]:List bT)).length:Int)=n:=by rw[Rbw];omega
 simp (disch:=first|assumption|omega) only[S0,rA,rQ,rB,rT,rE,e1,e2,lQ,eL];generalize hE:Er T (Tm.loop _ _) _=E
 have key:∃ q,E=some q/\∃ (rows:List (List bT)) (a' s':Int),q=(.yield 1,[code,i64 a',u64 s',rL rows])/\(rows.length:Int)=n/\(∀ l∈rows,l.length<=4/\∀ r∈l,r.attr.deps.length<=10)/\a<=a'/\a'<=a+1500:=by
  rw[<- hE]
  refine uC (γ:=Nat×Int×Int×List (List bT)) (fun c=>n.toNat-c.1) (fun c=>(c.1:Int)<=n/\(c.2.2.2.length:Int)=n/\(∀ l∈c.2.2.2,l.length<=4/\∀ r∈l,r.attr.deps.length<=10)/\(∀ k:Nat,c.1<=k->k<n.toNat->(atI c.2.2.2 (k:Int)).length=0)/\a1<=c.2.1/\c.2.1<=a1+250*c.1)
   (fun c=>[i64 c.1,code,i64 c.2.1,u64 c.2.2.1,rL c.2.2.2]) _ (0,a1,s1,Rbf n.toNat []) rfl
   ⟨by simp only;omega,by simp only[Rbw];omega,by intro l hl;rw[Sbw hl];simp,by intro k u6 ox;rw[aV (by simpa using ox)];simp,by simp only;omega,by simp only;omega⟩ ?_
  rintro⟨i,a2,s2,rows⟩ ⟨h2,h3,h4,h7,h5,h6⟩
  simp only at h2 h3 h4 h5 h6 h7;by_cases hi:(i:Int)<n
  ·have d:decide ((i:Int)<n)=true:=by simpa using hi
   obtain⟨v3,a3,s3,e3,p3,q3,g3,k3⟩:=dA code hc 4 a2 s2 (by omega) (by omega);have q3':=q3 (by omega);have hb:InB rows (i:Int):=by unfold InB;omega
   have hz:=h7 i (Rbg _) (by omega);left;simp (disch:=first|assumption|omega) only[S0,rA,rQ,rB,rT,rE,d,e3];generalize hE2:Er T (Tm.loop _ _) _=E2
   have a34:∃ q,E2=some q/\∃ (l:List bT) (a' s':Int),q=(.yield 3,[code,i64 a',u64 s',rL (fQ rows (i:Int) l)])/\l.length<=4/\(∀ r∈l,r.attr.deps.length<=10)/\a3<=a'/\a'<=a3+240:=by
    rw[<- hE2]
    refine uC (γ:=Nat×Int×Int×List bT) (fun c=>c.1) (fun c=>c.1<=4/\c.2.2.2.length+c.1<=4/\(∀ r∈c.2.2.2,r.attr.deps.length<=10)/\a3<=c.2.1/\c.2.1+60*c.1<=a3+240)
     (fun c=>[i64 c.1,code,i64 c.2.1,u64 c.2.2.1,rL (fQ rows (i:Int) c.2.2.2)]) _ (v3.toNat,a3,s3,atI rows (i:Int)) ?_
     ⟨by simp only;omega,by simp only;omega,fun r hr=>(h4 _ (dE hb)).2 r hr,by simp only;omega,by simp only;omega⟩ ?_
    ·show [i64 v3,code,i64 a3,u64 s3,rL rows]=[i64 ((v3.toNat:Nat):Int),code,i64 a3,u64 s3,rL (fQ rows (i:Int) (atI rows (i:Int)))]
     rw[Ka3 hb,show ((v3.toNat:Nat):Int)=v3 by omega]
    rintro⟨m,a4,s4,l⟩ ⟨j2,j3,j4,j5,j6⟩
    simp only at j2 j3 j4 j5 j6;by_cases hm:0<m
    ·have d2:decide (0<(m:Int))=true:=by simpa using hm
     obtain⟨r,a5,s5,e5,p5,g5,k5⟩:=Fbm code hc n a4 s4 (by omega) (by omega) (by omega) (by omega);have w9:InB (fQ rows (i:Int) l) (i:Int):=by unfold InB;rw[gB];omega
     have z:l.length+([r]:List bT).length<=100000000000:=by simp only[Rbe,Rbk];omega
     have eat:atI (fQ rows (i:Int) l) (i:Int)=l:=wP.1 hb;refine .inl ⟨(m-1,a5,s5,l++[r]),?_,⟨by simp only;omega,by simp;omega,?_,by simp only;omega,by simp only;omega⟩,by simp only;omega⟩
     ·have em:((m-1:Nat):Int)=(m:Int)-1:=by omega
      have es:∀ x:List bT,fQ (fQ rows (i:Int) l) (i:Int) x=fQ rows (i:Int) x:=fun x=>wP.2.1
      simp (disch:=first|assumption|omega) only[S0,rA,rQ,rB,rT,rE,d2,e5,aN,eat,lQ,dY,Eao,es,em]
     ·intro y hy
      simp only[Sb5,Rbb]at hy
      rcases hy with hy|rfl
      ·exact j4 y hy
      ·omega
    ·have d2:decide (0<(m:Int))=false:=by simpa using hm
     refine .inr ⟨(.yield 3,[code,i64 a4,u64 s4,rL (fQ rows (i:Int) l)]),?_,by simp,l,a4,s4,rfl,by omega,j4,by omega,by omega⟩;simp (disch:=first|assumption|omega) only[S0,rA,rQ,rB,rT,rE,d2]
   obtain⟨q,rfl,l,a4,s4,rfl,y1,y2,y3,y4⟩:=a34;simp (disch:=first|assumption|omega) only[S0,rA,rQ,rB,rT,rE];refine⟨(i+1,a4,s4,fQ rows (i:Int) l),rfl,⟨by simp only;omega,by simp only[gB];omega,?_,?_,by simp only;omega,by simp only;omega⟩,by simp only;omega⟩
   ·intro x hx
    rcases oN hx with hx|rfl
    ·exact h4 x hx
    ·exact⟨y1,y2⟩
   ·intro k u6 ox
    simp only;rw[Zar (by omega) (by omega) (by omega)];exact h7 k (by simp only at u6;omega) ox
  ·have d:decide ((i:Int)<n)=false:=by simpa using hi
   refine .inr ⟨(.yield 1,[code,i64 a2,u64 s2,rL rows]),?_,by simp,rows,a2,s2,rfl,h3,h4,by omega,by omega⟩;simp (disch:=first|assumption|omega) only[S0,rA,rQ,rB,rT,rE,d]
 obtain⟨q,rfl,rows,a2,s2,rfl,h2,h3,h4,h5⟩:=key;obtain⟨v6,a6,s6,e6,p6,q6,g6,k6⟩:=dA code hc 40 a2 s2 (by omega) (by omega);have ua:∀ l∈rows,l.length<=5/\∀ r∈l,r.attr.deps.length<=10:=fun l hl=>⟨by have:=(h3 l hl).1;omega,(h3 l hl).2⟩
 cases c1:v6==0
 ·cases c2:v6==1
  ·simp (disch:=first|assumption|omega) only[S0,rA,rQ,rB,rT,rE,e6,c1,c2]
   exact⟨⟨_,_⟩,_,_,rfl,by simp only;omega,by simp only;omega,ua,by omega,by omega⟩
  ·have hb:InB rows 0:=by unfold InB;omega
   have z:(aR.mk 10 1).run [i64 0,i64 1,i64 0,i64 0,i64 0,i64 0,i64 0,i64 0,i64 0,.rows 1 []]=some [rL ([⟨0,1,0,⟨0,0,0,0,0⟩,⟨0,[]⟩⟩]:List bT)]:=rfl;have ia:=h3 _ (dE hb);have z2:(atI rows 0).length+([⟨0,1,0,⟨0,0,0,0,0⟩,⟨0,[]⟩⟩]:List bT).length<=100000000000:=by simp only[Rbe,Rbk];omega
   simp (disch:=first|assumption|omega) only[S0,rA,rQ,rB,rT,rE,e6,c1,c2,aN,z,dY,Eao];refine⟨⟨_,_⟩,_,_,rfl,by simp only;omega,?_,?_,by omega,by omega⟩
   ·show (fQ rows 0 _).length<=5
    rw[gB];omega
   intro l hl
   rcases oN hl with hl|rfl
   ·exact ua l hl
   ·refine⟨by rw[Qb6];have:=ia.1;simp only[Rbe,Rbk];omega,fun r hr=>?_⟩
    simp only[Sb5,Rbb]at hr
    rcases hr with hr|rfl
    ·exact ia.2 r hr
    ·simp
 ·obtain⟨v7,a7,s7,e7,p7,q7,g7,k7⟩:=dA code hc 6 a6 s6 (by omega) (by omega)
  have q7':=q7 (by omega);simp (disch:=first|assumption|omega) only[S0,rA,rQ,rB,rT,rE,e6,c1,e7];exact⟨⟨_,_⟩,_,_,rfl,by simp only;omega,by simp only;omega,ua,by omega,by omega⟩
theorem Ias (n:Int)(rows:List (List bT))(hs:iM rows):Fun T 60 [i64 n,rL rows]=some [rL (Fbp ⟨n,rows⟩).1,.bool (Fbp ⟨n,rows⟩).2]:=by
 rw[aS (t:=Jb6) rfl];unfold Jb6;unfold Fbp
 cases ht:bA ⟨n,rows⟩
 ·simp (disch:=first|assumption|omega) only[S0,rA,rQ,rB,rT,rE,bC,ht,Iab,Qb4]
 ·have hg:=bD (aW ht)
  have hl:=dG ht;simp only at hg hl;have h6:∀ l∈rows,l.length<=6:=fun l hl=>(eU ht hl).1
  have eN:rows.length<=100:=by omega
  simp (disch:=first|assumption|omega) only[S0,rA,rQ,rB,rT,rE,bC,gD,ht]
theorem La1 (n:Int):Fun T 62 [i64 n]=some [i64 (Gbh n).1.n,rL (Gbh n).1.rows,.bool (Gbh n).2]:=by
 rw[aS (t:=Jb4) rfl];unfold Jb4;unfold Gbh
 have z:rL ([]:List (List bT))=.rows 1 []:=rfl;cases hg:dK n
 ·simp (disch:=first|assumption|omega) only[S0,rA,rQ,rB,rT,rE,kE,hg,z,Qb4]
 ·simp (disch:=first|assumption|omega) only[S0,rA,rQ,rB,rT,rE,kE,Bal,hg]
theorem Bby (code more:D)(hc:isBytes code)(hm:isBytes more):∃ b,Fun T 1 [code,more]=some [.bool b]:=by
 rw[aS (t:=tm1) rfl];unfold tm1
 obtain⟨l1,l2⟩:=Ba9 hc;obtain⟨l3,l4⟩:=Ba9 hm;cases d:decide (1048576<((Pa5 code:Nat):Int))
 ·simp (disch:=first|assumption|omega) only[S0,rA,rQ,rB,rT,rE,l1,l3,d]
  exact⟨_,rfl⟩
 ·simp (disch:=first|assumption|omega) only[S0,rA,rQ,rB,rT,rE,l1,l3,d]
  exact⟨_,rfl⟩
theorem Na2 (xs ys:List Int)(hx:xs.length<=1099511627776):Fun T 101 [rL xs,rL ys]=some [.bool (decide (xs=ys))]:=by
 rw[aS (t:=Ab5) rfl];unfold Ab5
 by_cases hl:ys.length=xs.length
 ·have e1:((xs.length:Int)==ys.length)=true:=by simp[hl]
  simp (disch:=first|assumption|omega) only[S0,rA,rQ,rB,rT,rE,e1];rw[Uau 1 xs.length (fun i=>decide (atI xs (i:Int)=atI ys (i:Int))) [.bool false],Ra7 hl.symm]
  ·cases decide (xs=ys)<;>simp (disch:=first|assumption|omega) only[S0,rA,rQ,rB,rT,rE]
  ·intro i hi hlt
   have hb:InB xs (i:Int):=aM.2 hi;have dm:InB ys (i:Int):=aM.2 (by omega);have e:(!(atI xs (i:Int)==atI ys (i:Int)))=!decide (atI xs (i:Int)=atI ys (i:Int)):=by rw[Bool.beq_eq_decide_eq]
   (refine aK ?_;repeat' (refine aJ ?_ ?_<;>intro _<;>try simp (disch:=first|assumption|omega) only[S0,rA,rQ,rB,rT,rE,aN,hlt,e, *]))
  ·intro hlt
   simp (disch:=first|assumption|omega) only[S0,rA,rQ,rB,rT,rE,hlt]
 ·have e1:((xs.length:Int)==ys.length)=false:=by simp;omega
  rw[Yaq (fun e=>hl e.symm)];simp (disch:=first|assumption|omega) only[S0,rA,rQ,rB,rT,rE,e1]
theorem Aan (l:List (List Int))(x:List Int)(hl:l.length<=1000)(h2:∀ y∈l,y.length=2)(hx:x.length=2):Fun T 122 [rL l,rL x]=some [rL (Eb9 l x)]:=by
 rw[aS (t:=Abk) rfl];unfold Abk
 have x0:InB x 0:=by unfold InB;omega
 have x1:InB x 1:=by unfold InB;omega
 have hk:=Rac l x l.length;have mC:((oF l x l.length:Nat):Int)<=l.length:=by omega
 simp (disch:=first|assumption|omega) only[S0,rA,rQ,rB,rT,rE];rw[Ia2 (γ:=Nat) (.yield 1,[i64 ((oF l x l.length:Nat):Int)]) (fun k=>k) (fun k=>k<=l.length/\oF l x k=oF l x l.length) (fun k=>[i64 (k:Int)]) l.length rfl ⟨Rbg _,rfl⟩ (by simp)]
 ·have e0:(l.take (oF l x l.length)).drop 0=l.take (oF l x l.length):=rfl
  have e1:(l.take l.length).drop (oF l x l.length)=l.drop (oF l x l.length):=by rw[Rb5]
  have t1:(l.take (oF l x l.length)).length<=1000:=by rw[Rbq];omega
  have t2:(l.drop (oF l x l.length)).length<=1000:=by rw[Sbf];omega
  have t3:((l.take (oF l x l.length))++[x]).length<=1001:=by rw[Qb6];simp only[Rbe,Rbk];omega
  have a1:([]:List (List Int)).length+(l.drop (oF l x l.length)).length<=100000000000:=by simp only[Rbk];omega
  have a2:([]:List (List Int)).length+(l.take (oF l x l.length)).length<=100000000000:=by simp only[Rbk];omega
  have a3:(l.take (oF l x l.length)).length+([x]:List (List Int)).length<=100000000000:=by simp only[Rbe,Rbk];omega
  have a4:((l.take (oF l x l.length))++[x]).length+(l.drop (oF l x l.length)).length<=100000000000:=by omega
  have h0:(aR.mk 1 0).run []=some [rL ([]:List (List Int))]:=rfl;have b1:(0:Int)<=((oF l x l.length:Nat):Int):=by omega
  unfold Eb9;simp (disch:=first|assumption|omega) only[S0,rA,rQ,rB,rT,rE,lQ,dY,Aab,h0,e0,e1,Rb8,Tbh,Sba]
 ·intro k ⟨a4f,sd⟩
  cases k with
  | zero =>
   refine .inr ?_;have e:oF l x l.length=0:=by rw[<- sd];rfl
   have vf:decide ((0:Int)<((0:Nat):Int))=false:=by decide
   rw[e];simp (disch:=first|assumption|omega) only[S0,rA,rQ,rB,rT,rE,aN,vf]
  | succ k =>
   have hb:InB l (k:Int):=aM.2 (by omega);have hy:=h2 _ (at_mem (show k<l.length by omega));have y0:InB (atI l (k:Int)) 0:=by unfold InB;omega
   have y1:InB (atI l (k:Int)) 1:=by unfold InB;omega
   have wi:decide (0<(k:Int)+1)=true:=decide_eq_true (by omega)
   have ku:(aR.bin .sub).run [i64 ((k:Int)+1),i64 1]=some [i64 (k:Int)]:=by
    have h:=Qaw (a:=(k:Int)+1) (b:=1) (by omega) (by omega);rw[show (k:Int)+1-1=k by omega]at h;exact h
   cases hg:gtL (atI l (k:Int)) x
   ·refine .inr ?_
    have e:oF l x l.length=k+1:=by rw[<- sd];unfold oF;rw[hg];simp
    rw[e];have tU:=hg;unfold gtL at tU;cases c1:decide (atI x 0<atI (atI l (k:Int)) 0)<;>cases c2:(atI (atI l (k:Int)) 0==atI x 0)<;>cases c3:decide (atI x 1<atI (atI l (k:Int)) 1)<;>rw[c1,c2,c3]at tU<;>first|(cases tU;done)|skip
    all_goals simp (disch:=first|assumption|omega) only[S0,rA,rQ,rB,rT,rE,aN,wi,ku,c1,c2,c3]
   ·refine .inl ⟨k,?_,⟨by omega,by rw[<- sd];conv=>rhs;unfold oF;rw[hg];simp⟩,by omega⟩
    have tU:=hg;unfold gtL at tU;cases c1:decide (atI x 0<atI (atI l (k:Int)) 0)<;>cases c2:(atI (atI l (k:Int)) 0==atI x 0)<;>cases c3:decide (atI x 1<atI (atI l (k:Int)) 1)<;>rw[c1,c2,c3]at tU<;>first|(cases tU;done)|skip
    all_goals simp (disch:=first|assumption|omega) only[S0,rA,rQ,rB,rT,rE,aN,wi,ku,c1,c2,c3]
theorem Xa5 (q:Int)(deps:List Int)(hl:deps.length<=5)(h6:∀ d∈deps,0<=d/\d<=6):Fun T 77 [i64 q,rL deps]=some [rL (yE deps deps.length)]:=by
 rw[aS (t:=Jbp) rfl];unfold Jbp
 have h0:(aR.mk 1 0).run []=some [rL ([]:List (List Int))]:=rfl;simp (disch:=first|assumption|omega) only[S0,rA,rQ,rB,rT,rE,h0];rw[gW deps.length (fun k=>[rL (yE deps k),i64 k]) (.yield 1,[rL (yE deps deps.length)]) rfl (by simp)]
 ·simp (disch:=first|assumption|omega) only[S0,rA,rQ,rB,rT,rE]
 ·intro k hk hlt
  have n2:InB deps (k:Int):=aM.2 hk;have hq:=h6 _ (at_mem hk);have ve:=Haa (deps:=deps) (fun d hd=>(h6 d hd).2) (m:=k) (by omega);simp (disch:=first|assumption|omega) only[S0,rA,rQ,rB,rT,rE,aN,hlt];rw[gW (atI deps (k:Int)).toNat (fun i=>[rL (yE deps k++nP k i),i64 ((i:Int)+1)]) (.yield 3,[rL (yE deps (k+1))]) (by show [rL (yE deps k),_]=_;simp[nP,aI.val]) (by simp)]
  ·simp (disch:=first|assumption|omega) only[S0,rA,rQ,rB,rT,rE]
  ·intro i kr ao
   have hlc:=Ga8 (k:Int) i
   have fS:(yE deps k++nP (k:Int) i).length+([[(k:Int),(i:Int)+1]]:List (List Int)).length<=100000000000:=by
    rw[Qb6];simp only[Rbe,Rbk];omega
   have hle:decide ((i:Int)+1<=atI deps (k:Int))=true:=by simp;omega
   have e:=Oax (k:Int) i;simp (disch:=first|assumption|omega) only[S0,rA,rQ,rB,rT,rE,lQ,dY,hle,e,<- Rba]
  ·intro ao
   have hle:decide ((((atI deps (k:Int)).toNat:Nat):Int)+1<=atI deps (k:Int))=false:=by simp;omega
   rw[Ja6];simp (disch:=first|assumption|omega) only[S0,rA,rQ,rB,rT,rE,hle]
 ·intro hlt
  simp (disch:=first|assumption|omega) only[S0,rA,rQ,rB,rT,rE,hlt]
theorem uT (n:Int)(rows:List (List bT))(rep no:Int)(ht:bA ⟨n,rows⟩=true)(hi:inst n rep no=true)(hc:qZ ⟨n,rows⟩ [rep,no]=true)(hs:iM rows):Fun T 118 [i64 n,rL rows,i64 rep,i64 no]=some [rL (pJ ⟨n,rows⟩ [rep,no])]:=by
 rw[aS (t:=Abo) rfl];unfold Abo
 have hx:bN n [rep,no]:=⟨rfl,hi⟩;simp (disch:=first|assumption|omega) only[S0,rA,rQ,rB,rT,rE,lQ];generalize hE:Er T (Tm.loop _ _) _=E
 obtain⟨r,h1,s,h2,h3⟩:∃ r,E=some r/\∃ s,Zat ⟨n,rows⟩ [rep,no] s.met.length s/\r=(.yield 1,[rL s.out]):=by
  rw[<- hE];refine uC (γ:=Nat×SSt) (fun c=>31-c.1) (fun c=>Zat ⟨n,rows⟩ [rep,no] c.1 c.2) (fun c=>[rL c.2.met,rL c.2.out,i64 (c.1:Int)]) (fun r=>∃ s,Zat ⟨n,rows⟩ [rep,no] s.met.length s/\r=(.yield 1,[rL s.out])) (0,⟨[[rep,no]],[]⟩) ?_ (Zat.start hc) ?_
  ·rfl
  rintro⟨i,s⟩ hinv
  dsimp only at hinv ⊢;have hlen:=hinv.toSPre.len ht hx
  rcases Rbo i s.met.length with hlt|kn
  ·refine .inl ⟨(i+1,Lbl ⟨n,rows⟩ s i),?_,hinv.step ht hx hlt,by dsimp only;omega⟩
   dsimp only;have hb:InB s.met (i:Int):=aM.2 hlt;have hd:decide ((i:Int)<s.met.length)=true:=by simp;omega
   obtain⟨n4,qc⟩:=hinv.rch _ (at_mem hlt);obtain⟨lv,uc⟩:=n4.inst ht hx;have z0:InB (atI s.met (i:Int)) 0:=by unfold InB;omega
   have z1:InB (atI s.met (i:Int)) 1:=by unfold InB;omega
   have ib:∀ y∈Iaw ⟨n,rows⟩ (atI (atI s.met (i:Int)) 0) (atI (atI s.met (i:Int)) 1),wQ ⟨n,rows⟩ [rep,no] y:=fun y hy=>.step n4 qc ((Hav lv).1 hy).1
   have sw:(Iaw ⟨n,rows⟩ (atI (atI s.met (i:Int)) 0) (atI (atI s.met (i:Int)) 1)).length<=30:=by
    have zc:=mV (mZ ht uc) (aW ht);have mi:=iN ht uc;have hn:=bD (aW ht);simp only at mi hn;have:=Faj (rep:=atI (atI s.met (i:Int)) 0) (no:=atI (atI s.met (i:Int)) 1) (fun d hd=>(zc d hd).2) (Rbg _);unfold Iaw;omega
   simp (disch:=first|assumption|omega) only[S0,rA,rQ,rB,rT,rE,aN,Fa3,hd];unfold Lbl;generalize Iaw ⟨n,rows⟩ (atI (atI s.met (i:Int)) 0) (atI (atI s.met (i:Int)) 1)=ys at ib sw ⊢;rw[(Yak 3 ys (fun i (s:SSt)=>[rL s.met,rL s.out,rL ys,i64 i]) s (Sas ⟨n,rows⟩) (fun _ s=>SPre ⟨n,rows⟩ [rep,no] s) (fun s=>[rL s.met,rL s.out]) rfl hinv.toSPre ?_ ?_).1]
   ·simp (disch:=first|assumption|omega) only[S0,rA,rQ,rB,rT,rE]
   ·intro j u hj yW ao hu
    have hul:=hu.len ht hx;have mS:=ib _ (at_mem hj);obtain⟨tj,qo⟩:=mS.inst ht hx;obtain⟨k2,-⟩:=Nar ht hx hu mS;refine⟨?_,k2⟩;have y0:InB (atI ys (j:Int)) 0:=by unfold InB;omega
    have y1:InB (atI ys (j:Int)) 1:=by unfold InB;omega
    have hg:dK n=true:=aW ht;have yb:InB rows (atI (atI ys (j:Int)) 0):=dF ht qo;have yr:=bG qo;have ho2:∀ y∈u.out,y.length=2:=fun y hy=>((hu.och y hy).1.inst ht hx).1
    have e1:u.met.any (fun z=>decide (atI ys (j:Int)=z))=decide (0<=fM u.met (atI ys (j:Int))):=(eP _ _).symm;have e2:u.out.any (fun z=>decide (atI ys (j:Int)=z))=decide (0<=fM u.out (atI ys (j:Int))):=(eP _ _).symm;have a1:u.met.length+([atI ys (j:Int)]:List (List Int)).length<=100000000000:=by simp only[Rbe,Rbk];omega
    have b1:u.met.length<=1099511627776:=by omega
    have b2:u.out.length<=1099511627776:=by omega
    have b3:(atI ys (j:Int)).length<=1099511627776:=by omega
    have b4:u.out.length<=1000:=by omega
    have zy:((fB ⟨n,rows⟩ (atI (atI ys (j:Int)) 0) (atI (atI ys (j:Int)) 1)).state==3)=qZ ⟨n,rows⟩ (atI ys (j:Int)):=rfl;unfold Sas;rw[e1,e2];cases c1:decide (0<=fM u.met (atI ys (j:Int)))
    ·cases c2:decide (0<=fM u.out (atI ys (j:Int)))
     ·cases c3:qZ ⟨n,rows⟩ (atI ys (j:Int))
      ·simp (disch:=first|assumption|omega) only[S0,rA,rQ,rB,rT,rE,aN,lQ,dY,eY,uU,Aan,ao,c1,c2,zy,c3,Tbl,Qb4]
      ·simp (disch:=first|assumption|omega) only[S0,rA,rQ,rB,rT,rE,aN,lQ,dY,eY,uU,Aan,ao,c1,c2,zy,c3,Tbl,Qb4]
     ·simp (disch:=first|assumption|omega) only[S0,rA,rQ,rB,rT,rE,aN,eY,ao,c1,c2,Tb4]
    ·simp (disch:=first|assumption|omega) only[S0,rA,rQ,rB,rT,rE,aN,eY,ao,c1,Bool.true_or]
   ·intro u ao hu
    simp (disch:=first|assumption|omega) only[S0,rA,rQ,rB,rT,rE,ao]
  ·obtain rfl:i=s.met.length:=by have:=hinv.le;omega
   have hd:decide (((s.met.length:Nat):Int)<s.met.length)=false:=by simp
   exact .inr ⟨(.yield 1,[rL s.out]),by simp (disch:=first|assumption|omega) only[S0,rA,rQ,rB,rT,rE,hd],by simp,s,hinv,rfl⟩
 subst h3;rw[h1,<- h2.done ht hx];simp (disch:=first|assumption|omega) only[S0,rA,rQ,rB,rT,rE]
theorem Ka2 (l:List (List Int))(h2:∀ y∈l,y.length=2)(hl:l.length<=1000000):Fun T 82 [rL l]=some [rL ((jK id (l.map prL)).map toL)]:=by
 rw[Mas (e:=Gac) rfl];exact Fbz h2 hl
theorem zN (n:Int)(rows:List (List bT))(x:List Int)(ht:bA ⟨n,rows⟩=true)(hx:bN n x)(hc:qZ ⟨n,rows⟩ x=true)(hs:iM rows):Fun T 76 [i64 n,rL rows,rL x]=some [rL (pJ ⟨n,rows⟩ x)]:=by
 rw[aS (t:=Jbq) rfl];unfold Jbq
 have h0:(aR.mk 1 0).run []=some [rL ([]:List (List Int))]:=rfl;simp (disch:=first|assumption|omega) only[S0,rA,rQ,rB,rT,rE,lQ,h0];generalize hE:Er T (Tm.loop _ _) _=E
 obtain⟨r,h1,s,h2,h3,h4⟩:∃ r,E=some r/\∃ s,BInv ⟨n,rows⟩ x s/\s.wait=[]/\r=(.yield 1,[rL s.out]):=by
  rw[<- hE];refine uC (γ:=BSt) (fun s=>31+s.wait.length-s.met.length) (fun s=>BInv ⟨n,rows⟩ x s/\s.wait.length<=s.met.length) (fun s=>[rL s.met,rL s.out,rL s.wait]) (fun r=>∃ s,BInv ⟨n,rows⟩ x s/\s.wait=[]/\r=(.yield 1,[rL s.out])) ⟨[x],[],[x]⟩ ?_ ⟨BInv.start hc,by simp⟩ ?_
  ·rfl
  rintro s ⟨hinv,hwl⟩
  have hlen:=hinv.toBPre.len ht hx;by_cases hw:s.wait=[]
  ·have hd:decide ((0:Int)<(s.wait.length:Nat))=false:=by rw[hw];rfl
   exact .inr ⟨(.yield 1,[rL s.out]),by simp (disch:=first|assumption|omega) only[S0,rA,rQ,rB,rT,rE,hd],by simp,s,hinv,hw,rfl⟩
  ·have ew:0<s.wait.length:=List.length_pos_iff.2 hw
   obtain⟨aj,tp⟩:=hinv.step hw;have hlen2:=aj.toBPre.len ht hx;refine .inl ⟨Gbj ⟨n,rows⟩ s,?_,⟨aj,by omega⟩,by omega⟩;have hd:decide ((0:Int)<(s.wait.length:Nat))=true:=decide_eq_true (by omega);have hb:InB s.wait 0:=by unfold InB;omega
   have hzw:atI s.wait 0∈s.wait:=dE hb;obtain⟨wk,qc⟩:=hinv.wm _ hzw;have n4:=hinv.rch _ wk;obtain⟨lv,uc⟩:=n4.inst ht hx;have a1y:inst n (atI (atI s.wait 0) 0) (atI (atI s.wait 0) 1)=true:=uc;have z0:InB (atI s.wait 0) 0:=by unfold InB;omega
   have z1:InB (atI s.wait 0) 1:=by unfold InB;omega
   have hg:dK n=true:=aW ht;have zr:=bG a1y;have zb:InB rows (atI (atI s.wait 0) 0):=dF ht uc;have ib:∀ y∈nQ ⟨n,rows⟩ (atI s.wait 0),wQ ⟨n,rows⟩ x y:=fun y hy=>.step n4 qc hy
   have sw:=Xa6 ht (n4.inst ht hx);have zc:=mV (mZ ht uc) hg;have mi:=iN ht uc;have hn:=bD hg;simp only at mi zc;have hdl5:(fB ⟨n,rows⟩ (atI (atI s.wait 0) 0) (atI (atI s.wait 0) 1)).attr.deps.length<=5:=by omega
   simp (disch:=first|assumption|omega) only[S0,rA,rQ,rB,rT,rE,aN,dO,Xa5,hd];unfold Gbj
   change _=some (Kind.cont,_)
   have eh:yE (fB ⟨n,rows⟩ (atI (atI s.wait 0) 0) (atI (atI s.wait 0) 1)).attr.deps (fB ⟨n,rows⟩ (atI (atI s.wait 0) 0) (atI (atI s.wait 0) 1)).attr.deps.length=nQ ⟨n,rows⟩ (atI s.wait 0):=rfl;rw[eh];have cj:=Ha5 (ys:=nQ ⟨n,rows⟩ (atI s.wait 0)) hinv.toBPre ib;generalize nQ ⟨n,rows⟩ (atI s.wait 0)=ys at ib sw cj ⊢;simp (disch:=first|assumption|omega) only[S0,rA,rQ,rB,rT,rE];rw[(Yak 3 ys (fun i (s:BSt)=>[rL s.met,rL s.out,rL s.wait,rL ys,i64 i]) s (Ha4 ⟨n,rows⟩) (fun _ u=>BPre ⟨n,rows⟩ x u/\u.wait.length<=u.met.length) (fun s=>[rL s.met,rL s.out,rL s.wait]) rfl ⟨hinv.toBPre,hwl⟩ ?_ ?_).1]
   ·obtain⟨f1,-,-,⟨w',f4⟩,-⟩:=cj
    generalize ys.foldl (Ha4 ⟨n,rows⟩) s=u at f1 f4 ⊢;have e1:(u.wait.take u.wait.length).drop 1=u.wait.drop 1:=by rw[Rb5]
    have hp:1<=u.wait.length:=by rw[f4,Qb6];omega
    have we:(1:Int)<=(u.wait.length:Nat):=by omega
    simp (disch:=first|assumption|omega) only[S0,rA,rQ,rB,rT,rE,Aab,e1,Rb8,Int.toNat_one]
   ·rintro j u hj yW ao ⟨hu,huw⟩
    have hul:=hu.len ht hx;have mS:=ib _ (at_mem hj);obtain⟨tj,qo⟩:=mS.inst ht hx;obtain⟨k2,-,-,-,-,k6⟩:=Pax hu mS;refine⟨?_,k2,by omega⟩;have y0:InB (atI ys (j:Int)) 0:=by unfold InB;omega
    have y1:InB (atI ys (j:Int)) 1:=by unfold InB;omega
    have yb:InB rows (atI (atI ys (j:Int)) 0):=dF ht qo;have yr:=bG qo;have a1:u.met.length+([atI ys (j:Int)]:List (List Int)).length<=100000000000:=by simp only[Rbe,Rbk];omega
    have a2:u.out.length+([atI ys (j:Int)]:List (List Int)).length<=100000000000:=by simp only[Rbe,Rbk];omega
    have a3:u.wait.length+([atI ys (j:Int)]:List (List Int)).length<=100000000000:=by simp only[Rbe,Rbk];omega
    have b1:u.met.length<=1099511627776:=by omega
    have b3:(atI ys (j:Int)).length<=1099511627776:=by omega
    have zy:((fB ⟨n,rows⟩ (atI (atI ys (j:Int)) 0) (atI (atI ys (j:Int)) 1)).state==3)=qZ ⟨n,rows⟩ (atI ys (j:Int)):=rfl;unfold Ha4;cases c1:u.met.any (fun z=>decide (atI ys (j:Int)=z))
    ·cases c3:qZ ⟨n,rows⟩ (atI ys (j:Int))
     ·simp (disch:=first|assumption|omega) only[S0,rA,rQ,rB,rT,rE,aN,lQ,dY,iD,dO,ao,c1,zy,c3,Qb4]
     ·simp (disch:=first|assumption|omega) only[S0,rA,rQ,rB,rT,rE,aN,lQ,dY,iD,dO,ao,c1,zy,c3,Qb4]
    ·simp (disch:=first|assumption|omega) only[S0,rA,rQ,rB,rT,rE,aN,iD,ao,c1]
   ·intro u ao hu
    simp (disch:=first|assumption|omega) only[S0,rA,rQ,rB,rT,rE,ao]
 subst h4;have pj:=h2.toBPre.len ht hx;have ho2:∀ y∈s.out,y.length=2:=fun y hy=>((h2.rch y ((h2.out y).1 hy).1).inst ht hx).1
 have hol2:s.out.length<=1000000:=by omega
 rw[h1,<- h2.done ht hx h3];simp (disch:=first|assumption|omega) only[S0,rA,rQ,rB,rT,rE,Ka2]
theorem oU (x:List Int)(n:Int)(rows:List (List bT))(ht:bA ⟨n,rows⟩=true)(hs:iM rows)(hx:bN n x)(hc:qZ ⟨n,rows⟩ x=true):Fun T 75 [rL x,i64 n,rL rows]=some [.bool (xZ ⟨n,rows⟩ x)]:=by
 rw[aS (t:=Jbr) rfl];unfold Jbr
 simp (disch:=first|assumption|omega) only[S0,rA,rQ,rB,rT,rE,zN];rfl
theorem Ua6 (l:List (List Int))(n:Int)(rows:List (List bT))(ht:bA ⟨n,rows⟩=true)(hs:iM rows)(hl:l.length<=1000)(hx:∀ x∈l,bN n x/\qZ ⟨n,rows⟩ x=true):Fun T 74 [rL l,i64 n,rL rows]=some [i64 (ixF (xZ ⟨n,rows⟩) l)]:=by
 rw[aS (t:=Jbs) rfl];unfold Jbs
 simp (disch:=first|assumption|omega) only[S0,rA,rQ,rB,rT,rE];rw[Bas 1 l (xZ ⟨n,rows⟩) (fun i=>[i64 i])]
 ·cases h:l.any (xZ ⟨n,rows⟩)
  ·have e:ixF (xZ ⟨n,rows⟩) l=-1:=by
    have h2:=eP (xZ ⟨n,rows⟩) l;rw[h]at h2;unfold ixF at h2 ⊢;split at h2<;>simp_all
   rw[e];simp (disch:=first|assumption|omega) only[S0,rA,rQ,rB,rT,rE]
  ·simp (disch:=first|assumption|omega) only[S0,rA,rQ,rB,rT,rE]
 ·intro i hi hb hlt hp
  obtain⟨q1,q2⟩:=hx _ (at_mem hi);simp (disch:=first|assumption|omega) only[S0,rA,rQ,rB,rT,rE,aN,oU,hlt,hp]
 ·intro i hi hb hlt hp
  obtain⟨q1,q2⟩:=hx _ (at_mem hi);simp (disch:=first|assumption|omega) only[S0,rA,rQ,rB,rT,rE,aN,oU,hlt,hp]
 ·intro hlt
  simp (disch:=first|assumption|omega) only[S0,rA,rQ,rB,rT,rE,hlt]
theorem Ras (l:List (List Int))(n:Int)(rows:List (List bT))(ht:bA ⟨n,rows⟩=true)(hs:iM rows)(hl:l.length<=1000)(hx:∀ x∈l,bN n x/\qZ ⟨n,rows⟩ x=true):Fun T 73 [rL l,i64 n,rL rows]=some [rL (l.filter fun x=>!xZ ⟨n,rows⟩ x)]:=by
 rw[aS (t:=Jbt) rfl];unfold Jbt
 simp (disch:=first|assumption|omega) only[S0,rA,rQ,rB,rT,rE,Ua6];by_cases h:0<=ixF (xZ ⟨n,rows⟩) l
 rotate_left
 ·have e:ixF (xZ ⟨n,rows⟩) l=-1:=by
   unfold ixF at h ⊢;split
   ·rename_i i hi;rw[hi]at h;simp at h
   ·rfl
  have e2:l.filter (fun x=>!xZ ⟨n,rows⟩ x)=l:=by
   rw[List.filter_eq_self];intro x hxm
   cases hb:xZ ⟨n,rows⟩ x with
   |false=>rfl
   | true =>
    obtain⟨k,hk,rfl⟩:=List.mem_iff_getElem.1 hxm;exact absurd (Xay hk (by rw[aV hk];exact hb)) h
  rw[e,e2];simp (disch:=first|assumption|omega) only[S0,rA,rQ,rB,rT,rE]
 ·obtain⟨h1,h2,h3⟩:=Las h
  generalize hI:ixF (xZ ⟨n,rows⟩) l=I at h h1 h2 h3 ⊢;obtain⟨i,rfl⟩:∃ i:Nat,I=(i:Int):=⟨I.toNat,by omega⟩;have gC:i<l.length:=aM.1 h1;have bh:((i:Int)==-1)=false:=by simp
  have cH:(l.take (i+1)).filter (fun x=>!xZ ⟨n,rows⟩ x)=l.take i:=by
   rw[<- take_at gC,Sbt,Tbb (by rw[h2];simp),Sb9,Rbs,List.filter_eq_self];intro x hxm;obtain⟨k,hk,rfl⟩:=List.mem_iff_getElem.1 hxm;rw[Rbq]at hk;have h4:=h3 k (by omega);rw[aV (by omega)]at h4;rw[Tbx,h4];rfl
  simp (disch:=first|assumption|omega) only[S0,rA,rQ,rB,rT,rE,bh];generalize hE:Er T (Tm.loop _ _) _=E
  obtain⟨r,e1,kept,J,e2,e3,e4⟩:∃ r,E=some r/\∃ (kept:List (List Int)) (J:List (List D)),kept=l.filter (fun x=>!xZ ⟨n,rows⟩ x)/\kept.length+J.length=l.length/\r=(.yield 1,[nV kept J [],i64 ((kept.length:Nat):Int)]):=by
   rw[<- hE]
   refine uC (γ:=Nat×List (List D)) (fun c=>l.length-c.1) (fun c=>i<c.1/\c.1<=l.length/\((l.take c.1).filter fun x=>!xZ ⟨n,rows⟩ x).length+c.2.length=c.1/\0<c.2.length/\∀ r∈c.2,r.length=1)
    (fun c=>[nV ((l.take c.1).filter fun x=>!xZ ⟨n,rows⟩ x) c.2 (l.drop c.1),i64 ((((l.take c.1).filter fun x=>!xZ ⟨n,rows⟩ x).length:Nat):Int),i64 (c.1:Int)])
    (fun r=>∃ (kept:List (List Int)) (J:List (List D)),kept=l.filter (fun x=>!xZ ⟨n,rows⟩ x)/\kept.length+J.length=l.length/\r=(.yield 1,[nV kept J [],i64 ((kept.length:Nat):Int)])) (i+1,[Enc.enc (atI l (i:Int))]) ?_ ?_ ?_
   ·dsimp only
    have e:rL l=nV (l.take i) [Enc.enc (atI l (i:Int))] (l.drop (i+1)):=by
     rw[Ya7 l (i:=i) (by omega),Sbz gC,Paj,aV gC];rfl
    rw[cH,<- e];have hti:((l.take i).length:Int)=(i:Int):=by rw[Rbq];omega
    rw[hti];rfl
   ·dsimp only
    rw[cH,Rbq];refine⟨by omega,by omega,by simp only[Rbe,Rbk];omega,by simp,?_⟩;intro r hr;rw[Rbb]at hr;rw[hr];rfl
   ·rintro⟨j,J⟩ ⟨k1,k2,k3,k4,k5⟩
    dsimp only at k1 k2 k3 k4 k5 ⊢
    rcases Rbo j l.length with hlt|kn
    ·refine .inl ?_
     have hjm:=hx _ (at_mem hlt);have hjm1:=hjm.1;have hjm2:=hjm.2;have ht1:(l.take (j+1))=l.take j++[atI l (j:Int)]:=(take_at hlt).symm;have cI:l.drop j=atI l (j:Int)::l.drop (j+1):=by rw[Sbz hlt,aV hlt]
     have mC:(l.take j).filter (fun x=>!xZ ⟨n,rows⟩ x)=(l.take j).filter (fun x=>!xZ ⟨n,rows⟩ x):=rfl;generalize hK:(l.take j).filter (fun x=>!xZ ⟨n,rows⟩ x)=K at k3 mC ⊢;have mi:(l.drop (j+1)).length+(j+1)=l.length:=by rw[Sbf];omega
     have q1:aR.len.run [nV K J (l.drop j)]=some [i64 (l.length:Int)]:=Mac (by rw[cI,Rbe];omega);have q2:aR.inb.run [nV K J (l.drop j),i64 (j:Int)]=some []:=Mad (by omega) (by rw[cI];simp only[Rbe];omega);have q3:(aR.row 1 0 [false]).run [nV K J (l.drop j),i64 (j:Int)]=some [rL (atI l (j:Int))]:=by rw[cI];exact Tat (by omega)
     have q4:aR.inb.run [nV K J (l.drop j),i64 (K.length:Int)]=some []:=Mad (by omega) (by rw[cI];simp only[Rbe];omega);have q5:(aR.set 1 0 1).run [nV K J (l.drop j),i64 (j:Int),.hole]=some [nV K (J++[[.hole]]) (l.drop (j+1))]:=by rw[cI];exact Pak (by omega)
     have qS:decide ((j:Int)<(l.length:Nat))=true:=decide_eq_true (by omega)
     obtain⟨r0,J0,rfl⟩:∃ r0 J0,J=r0::J0:=by
      match J,k4 with
      |r0::J0,_=>exact⟨r0,J0,rfl⟩
     have q6:(aR.set 1 0 1).run [nV K (r0::J0++[[.hole]]) (l.drop (j+1)),i64 (K.length:Int),rL (atI l (j:Int))]=some [nV (K++[atI l (j:Int)]) (J0++[[.hole]]) (l.drop (j+1))]:=Cbq rfl (k5 r0 List.mem_cons_self);have q7:nV K (r0::J0) (l.drop j)=nV K (r0::J0++[Enc.enc (atI l (j:Int))]) (l.drop (j+1)):=by rw[cI,Paj]
     have k3':K.length+(J0.length+1)=j:=k3;have hkj:(K.length:Int)<=1000:=by omega
     cases hb:xZ ⟨n,rows⟩ (atI l (j:Int))
     ·refine⟨(j+1,J0++[[.hole]]),?_,?_,by dsimp only;omega⟩
      ·dsimp only
       rw[ht1,Sbt,hK,Tbq (by rw[hb];rfl),Sb9];have hlen:(((K++[atI l (j:Int)]).length:Nat):Int)=(K.length:Int)+1:=by simp
       rw[hlen];simp (disch:=first|assumption|omega) only[S0,rA,rQ,rB,rT,rE,q1,q2,q3,q4,q5,q6,qS,oU,hb]
      ·dsimp only
       rw[ht1,Sbt,hK,Tbq (by rw[hb];rfl),Sb9];refine⟨by omega,by omega,?_,?_,?_⟩
       ·simp only[Qb6,Rbe,Rbk];omega
       ·simp only[Qb6,Rbe,Rbk];omega
       ·intro r hr
        rcases List.mem_append.1 hr with hr|hr
        ·exact k5 r (List.mem_cons_of_mem _ hr)
        ·rw[Rbb]at hr
         rw[hr];rfl
     ·refine⟨(j+1,r0::J0++[Enc.enc (atI l (j:Int))]),?_,?_,by dsimp only;omega⟩
      ·dsimp only
       rw[ht1,Sbt,hK,Tbb (by rw[hb];simp),Sb9,Rbs,<- q7];simp (disch:=first|assumption|omega) only[S0,rA,rQ,rB,rT,rE,q1,q2,q3,qS,oU,hb]
      ·dsimp only
       rw[ht1,Sbt,hK,Tbb (by rw[hb];simp),Sb9,Rbs];refine⟨by omega,by omega,?_,?_,?_⟩
       ·simp only[Qb6,Rbe,Rbk];omega
       ·simp only[Qb6,Rbe,Rbk];omega
       ·intro r hr
        rcases List.mem_append.1 hr with hr|hr
        ·exact k5 r hr
        ·rw[Rbb]at hr
         rw[hr];rfl
    ·obtain rfl:j=l.length:=by omega
     rw[Rb5]at k3;refine .inr ⟨(.yield 1,[nV (l.filter fun x=>!xZ ⟨n,rows⟩ x) J [],i64 (((l.filter fun x=>!xZ ⟨n,rows⟩ x).length:Nat):Int)]),?_,by simp,_,J,rfl,k3,rfl⟩;rw[Rb5,List.drop_length];have q1:aR.len.run [nV (l.filter fun x=>!xZ ⟨n,rows⟩ x) J []]=some [i64 (l.length:Int)]:=Mac (by simp only[Rbk];omega);have qS:decide (((l.length:Nat):Int)<(l.length:Nat))=false:=by simp
     simp (disch:=first|assumption|omega) only[S0,rA,rQ,rB,rT,rE,q1,qS]
  subst e4;rw[e1];have q1:aR.len.run [nV kept J []]=some [i64 (l.length:Int)]:=Mac (by simp only[Rbk];omega);obtain⟨d,q2⟩:=Cbp (kept:=kept) (J:=J) (n:=(l.length:Int)) (k:=(kept.length:Int)) rfl (by omega);have q3:=Cbs (kept:=kept) (J:=J) (k:=(kept.length:Int)) rfl;have q4:=Cbr (kept:=kept) (J:=J.map fun r=>r.map fun _=>D.hole) (k:=(kept.length:Int)) rfl;simp (disch:=first|assumption|omega) only[S0,rA,rQ,rB,rT,rE,q1,q2,q3,q4];rw[e2]
theorem Eau (n:Int)(rows:List (List bT))(ht:bA ⟨n,rows⟩=true)(hs:iM rows):Fun T 72 [i64 n,rL rows]=some [rL (aF ⟨n,rows⟩)]:=by
 rw[aS (t:=Jbu) rfl];unfold Jbu;unfold aF
 have hn:=bD (aW ht);simp only at hn;have hl:(rows.length:Int)=n:=dG ht;have h6:∀ l∈rows,l.length<=6:=fun l hl=>(eU ht hl).1
 have eN:rows.length<=100:=by omega
 have eV:=xX ht;simp only at eV;have a3w:(bO rows).length<=1000:=by omega
 have hci:∀ x∈bO rows,bN n x/\qZ ⟨n,rows⟩ x=true:=fun x hx=>iE ht hx
 simp (disch:=first|assumption|omega) only[S0,rA,rQ,rB,rT,rE,gD,Ras]
theorem Nak (n:Int)(rows:List (List bT))(ht:bA ⟨n,rows⟩=true)(hs:iM rows):Fun T 116 [i64 n,rL rows]=some [rL (aF ⟨n,rows⟩)]:=by
 rw[aS (t:=Abq) rfl];unfold Abq;unfold aF
 have hn:=bD (aW ht);simp only at hn;have hl:(rows.length:Int)=n:=dG ht;have h6:∀ l∈rows,l.length<=6:=fun l hl=>(eU ht hl).1
 have eN:rows.length<=100:=by omega
 have eV:=xX ht;simp only at eV;simp (disch:=first|assumption|omega) only[S0,rA,rQ,rB,rT,rE,tV];rw[gW (bO rows).length (fun k=>[rL (((bO rows).take k).filter fun x=>!xZ ⟨n,rows⟩ x),rL (bO rows),i64 k]) (.yield 1,[rL ((bO rows).filter fun x=>!xZ ⟨n,rows⟩ x)]) rfl (by simp)]
 ·simp (disch:=first|assumption|omega) only[S0,rA,rQ,rB,rT,rE]
 ·intro k hk hlt
  have hb:InB (bO rows) (k:Int):=aM.2 hk;obtain⟨x0,x1,gg,xi,-⟩:=kS ht (at_mem hk);simp only at xi;have xc:=(iE ht (at_mem hk)).2
  have cP:(((bO rows).take k).filter fun x=>!xZ ⟨n,rows⟩ x).length<=30:=by
   have:=Sbs (fun x=>!xZ ⟨n,rows⟩ x) ((bO rows).take k);rw[Rbq]at this;omega
  have e:[atI (atI (bO rows) (k:Int)) 0,atI (atI (bO rows) (k:Int)) 1]=atI (bO rows) (k:Int):=lC gg;have xc2:qZ ⟨n,rows⟩ [atI (atI (bO rows) (k:Int)) 0,atI (atI (bO rows) (k:Int)) 1]=true:=by rw[e];exact xc
  have a1:(((bO rows).take k).filter fun x=>!xZ ⟨n,rows⟩ x).length+([atI (bO rows) (k:Int)]:List (List Int)).length<=100000000000:=by simp only[Rbe,Rbk];omega
  rw[<- take_at hk,Sbt]
  have eb:xZ ⟨n,rows⟩ (atI (bO rows) (k:Int))=!(((pJ ⟨n,rows⟩ (atI (bO rows) (k:Int))).length:Int)==0):=by
   unfold xZ;generalize (pJ ⟨n,rows⟩ (atI (bO rows) (k:Int))).length=L
   cases L with
   |zero=>rfl
   | succ L =>
    have e1:decide ((0:Int)<((L+1:Nat):Int))=true:=decide_eq_true (by omega);have e2:(((L+1:Nat):Int)==0)=false:=beq_false_of_ne (by omega);rw[e1,e2];rfl
  cases hc:(((pJ ⟨n,rows⟩ (atI (bO rows) (k:Int))).length:Int)==0)
  ·rw[Tbb (by rw[eb,hc];simp),Sb9,Rbs]
   simp (disch:=first|assumption|omega) only[S0,rA,rQ,rB,rT,rE,aN,uT,hlt,e,hc,Qb4]
  ·rw[Tbq (by rw[eb,hc];simp),Sb9]
   simp (disch:=first|assumption|omega) only[S0,rA,rQ,rB,rT,rE,aN,lQ,dY,uT,hlt,e,hc]
 ·intro hlt
  rw[Rb5];simp (disch:=first|assumption|omega) only[S0,rA,rQ,rB,rT,rE,hlt]
theorem Iaf (G:List (List Int))(a:Int)(hg:GOk G)(ha:InB G a)(hl:G.length<=1000)(hr:∀ r∈G,r.length<=1000):Fun T 127 [rL G,i64 a]=some [rL (lW G a)]:=by
 rw[aS (t:=Abf) rfl];unfold Abf
 simp (disch:=first|assumption|omega) only[S0,rA,rQ,rB,rT,rE,lQ];generalize hE:Er T (Tm.loop _ _) _=E
 obtain⟨r,h1,s,h2,h3⟩:∃ r,E=some r/\∃ s,Zax G a s.que.length s/\r=(.yield 1,[rL s.met]):=by
  rw[<- hE];refine uC (γ:=Nat×HSt) (fun c=>G.length+1-c.1) (fun c=>Zax G a c.1 c.2) (fun c=>[rL c.2.met,rL c.2.que,i64 (c.1:Int)]) (fun r=>∃ s,Zax G a s.que.length s/\r=(.yield 1,[rL s.met])) (0,⟨[a],[a]⟩) ?_ (Zax.start ha) ?_
  ·rfl
  rintro⟨i,s⟩ hinv
  dsimp only at hinv ⊢;have hlen:=hinv.toHPre.len hg
  rcases Rbo i s.que.length with hlt|kn
  ·refine .inl ⟨(i+1,(atI G (atI s.que (i:Int))).foldl hI s),?_,hinv.step hlt,by dsimp only;omega⟩
   dsimp only;have hb:InB s.que (i:Int):=aM.2 hlt;have hd:decide ((i:Int)<s.que.length)=true:=by simp;omega
   have n4:=hinv.rch _ (at_mem hlt);have hzb:=n4.inb hg ha;have ib:∀ c∈atI G (atI s.que (i:Int)),Rch G a c:=fun c hc=>.step n4 hc
   have sw:=hr _ (dE hzb);simp (disch:=first|assumption|omega) only[S0,rA,rQ,rB,rT,rE,aN,hd];generalize atI G (atI s.que (i:Int))=ys at ib sw ⊢;rw[(Yak 3 ys (fun i (s:HSt)=>[rL s.met,rL s.que,i64 i]) s hI (fun _ u=>HPre G a u) (fun s=>[rL s.met,rL s.que]) rfl hinv.toHPre ?_ ?_).1]
   ·simp (disch:=first|assumption|omega) only[S0,rA,rQ,rB,rT,rE]
   ·intro j u hj yW ao hu
    have hul:=hu.len hg;have mS:=ib _ (at_mem hj);refine⟨?_,(Xa9 hu mS).1⟩;have a1:u.que.length+([atI ys (j:Int)]:List Int).length<=100000000000:=by simp only[Rbe,Rbk];omega
    have b1:u.que.length<=1099511627776:=by omega
    have b2:u.met.length<=10000000000:=by omega
    unfold hI;cases c1:kQ u.que (atI ys (j:Int))
    ·simp (disch:=first|assumption|omega) only[S0,rA,rQ,rB,rT,rE,aN,lQ,dY,lF,Caq,ao,c1,Qb4]
    ·simp (disch:=first|assumption|omega) only[S0,rA,rQ,rB,rT,rE,aN,lF,ao,c1]
   ·intro u ao hu
    simp (disch:=first|assumption|omega) only[S0,rA,rQ,rB,rT,rE,ao]
  ·obtain rfl:i=s.que.length:=by have:=hinv.le;omega
   have hd:decide (((s.que.length:Nat):Int)<s.que.length)=false:=by simp
   exact .inr ⟨(.yield 1,[rL s.met]),by simp (disch:=first|assumption|omega) only[S0,rA,rQ,rB,rT,rE,hd],by simp,s,hinv,rfl⟩
 subst h3;rw[h1,<- h2.done hg];simp (disch:=first|assumption|omega) only[S0,rA,rQ,rB,rT,rE]
theorem Oat (G:List (List Int))(a:Int)(hg:GOk G)(ha:InB G a)(hl:G.length<=1000)(hr:∀ r∈G,r.length<=1000):Fun T 86 [rL G,i64 a]=some [rL (lW G a)]:=by
 rw[aS (t:=Jbh) rfl];unfold Jbh
 have kO:InB (Rbf G.length false) a:=by unfold InB at ha ⊢;rw[Rbw];exact ha
 have e0:((G.length:Nat):Int).toNat=G.length:=Rb8 _;have h0:(aR.mk 1 0).run []=some [rL ([]:List Int)]:=rfl;simp (disch:=first|assumption|omega) only[S0,rA,rQ,rB,rT,rE,lQ,Cab,e0];generalize hE:Er T (Tm.loop _ _) _=E
 obtain⟨r,h1,s,h2,h4,h3⟩:∃ r,E=some r/\∃ s,GInv G a s/\s.todo=[]/\r=(.yield 1,[rL s.marks]):=by
  rw[<- hE];refine uC (γ:=GSt) (fun s=>s.left) (fun s=>GInv G a s) (fun s=>[rL s.marks,rL s.todo]) (fun r=>∃ s,GInv G a s/\s.todo=[]/\r=(.yield 1,[rL s.marks])) ⟨fQ (Rbf G.length false) a true,[a]⟩ ?_ (GInv.start ha) ?_
  ·rfl
  rintro s hinv
  have nq:=hinv.cnt;unfold GSt.left at nq;by_cases hw:s.todo=[]
  ·have hd:decide ((0:Int)<(s.todo.length:Nat))=false:=by rw[hw];rfl
   exact .inr ⟨(.yield 1,[rL s.marks]),by simp (disch:=first|assumption|omega) only[S0,rA,rQ,rB,rT,rE,hd],by simp,s,hinv,hw,rfl⟩
  ·have ew:0<s.todo.length:=List.length_pos_iff.2 hw
   obtain⟨aj,tp,bp⟩:=hinv.step hg hw;refine .inl ⟨gO G s,?_,aj,by omega⟩;have hd:decide ((0:Int)<(s.todo.length:Nat))=true:=decide_eq_true (by omega);have hb:InB s.todo 0:=by unfold InB;omega
   obtain⟨z1,z2⟩:=hinv.tm _ (dE hb);have zr:=hinv.rch _ z1 z2;have ib:∀ c∈atI G (atI s.todo 0),InB G c/\Rch G a c:=fun c hc=>⟨hg.out z1 hc,.step zr hc⟩
   have sw:=hr _ (dE z1);have cj:=(Rah hinv.toGPre ib).2.2.2.1;simp (disch:=first|assumption|omega) only[S0,rA,rQ,rB,rT,rE,aN,hd];unfold gO;generalize atI G (atI s.todo 0)=ys at ib sw bp cj ⊢;rw[(Yak 3 ys (fun i (s:GSt)=>[rL s.marks,rL s.todo,i64 i]) s gI (fun _ u=>GPre G a u) (fun s=>[rL s.marks,rL s.todo]) rfl hinv.toGPre ?_ ?_).1]
   ·generalize ys.foldl gI s=u at bp cj ⊢
    have hcu:=bp.cnt;unfold GSt.left at hcu;obtain⟨w,hw2⟩:=cj;have e1:(u.todo.take u.todo.length).drop 1=u.todo.drop 1:=by rw[Rb5]
    have hp:1<=u.todo.length:=by rw[hw2,Qb6];omega
    have we:(1:Int)<=(u.todo.length:Nat):=by omega
    simp (disch:=first|assumption|omega) only[S0,rA,rQ,rB,rT,rE,Aab,e1,Rb8,Int.toNat_one]
   ·intro j u hj yW ao hu
    have hcu:=hu.cnt;unfold GSt.left at hcu;have mS:=ib _ (at_mem hj);have yb:InB u.marks (atI ys (j:Int)):=by have:=mS.1;unfold InB at this ⊢;rw[hu.len];exact this
    refine⟨?_,(Yaf hu mS.1 mS.2).1⟩;have a1:u.todo.length+([atI ys (j:Int)]:List Int).length<=100000000000:=by simp only[Rbe,Rbk];omega
    unfold gI;cases c1:atI u.marks (atI ys (j:Int))
    ·simp (disch:=first|assumption|omega) only[S0,rA,rQ,rB,rT,rE,aN,Cab,lQ,dY,ao,c1,Qb4]
    ·simp (disch:=first|assumption|omega) only[S0,rA,rQ,rB,rT,rE,aN,Cab,ao,c1]
   ·intro u ao hu
    simp (disch:=first|assumption|omega) only[S0,rA,rQ,rB,rT,rE,ao]
 subst h3;rw[h1];have oS:=h2.len;have hm3:s.marks.length<=1099511627776:=by omega
 simp (disch:=first|assumption|omega) only[S0,rA,rQ,rB,rT,rE,Cab,h0];rw[gW s.marks.length (fun k=>[rL ((nums k).filter (Eaq G a)),i64 k]) (.yield 5,[rL (lW G a)]) rfl (by simp)]
 ·simp (disch:=first|assumption|omega) only[S0,rA,rQ,rB,rT,rE]
 ·intro k hk hlt
  have hb:InB s.marks (k:Int):=aM.2 hk;have jj:InB G (k:Int):=aM.2 (by omega);have hm:=h2.done hg h4 jj
  have cP:((nums k).filter (Eaq G a)).length<=k:=by
   have:=Sbs (Eaq G a) (nums k);rw[cZ]at this;exact this
  have a1:((nums k).filter (Eaq G a)).length+([(k:Int)]:List Int).length<=100000000000:=by simp only[Rbe,Rbk];omega
  rw[vM,Sbt];cases c1:Eaq G a (k:Int)
  ·rw[Tbb (by rw[c1];simp),Sb9,Rbs]
   simp (disch:=first|assumption|omega) only[S0,rA,rQ,rB,rT,rE,Cab,hlt,hm,c1,Qb4]
  ·rw[Tbq c1,Sb9]
   simp (disch:=first|assumption|omega) only[S0,rA,rQ,rB,rT,rE,Cab,lQ,dY,hlt,hm,c1]
 ·intro hlt
  unfold lW;rw[oS]at hlt ⊢;simp (disch:=first|assumption|omega) only[S0,rA,rQ,rB,rT,rE,hlt]
theorem Kay (G:List (List Int))(hg:GOk G)(hl:G.length<=1000)(hr:∀ r∈G,r.length<=1000):Fun T 126 [rL G]=some [rL (jM G)]:=by
 rw[aS (t:=Abg) rfl];unfold Abg
 simp (disch:=first|assumption|omega) only[S0,rA,rQ,rB,rT,rE,Iab];rw[gW G.length (fun k=>[rL ((nums k).map (lW G)),i64 k]) (.yield 1,[rL (rsM G)]) rfl (by simp)]
 ·simp (disch:=first|assumption|omega) only[S0,rA,rQ,rB,rT,rE]
  rw[gW G.length (fun k=>[rL (Cbw G k),i64 k]) (.yield 3,[rL (jM G)]) rfl (by simp)]
  ·simp (disch:=first|assumption|omega) only[S0,rA,rQ,rB,rT,rE]
  ·intro k hk hlt
   have hb:InB G (k:Int):=aM.2 hk;have dm:=Gae hb;have eA:=Na4 hb;have lg:=xG G (k:Int);have eV:=Taw G k;simp (disch:=first|assumption|omega) only[S0,rA,rQ,rB,rT,rE,aN,hlt,eA];rw[gW (lW G (k:Int)).length (fun m=>[rL (((lW G (k:Int)).take m).filter fun j=>Eaq G j (k:Int)),i64 m]) (.yield 5,[rL (uN G (k:Int))]) rfl (by simp)]
   ·have hs:=vZ hg hb
    have hgp:=Tbt hs;have wu:InB (uN G (k:Int)) 0:=by unfold InB;omega
    have a1:(Cbw G k).length+([uN G (k:Int)]:List (List Int)).length<=100000000000:=by simp only[Rbe,Rbk];omega
    rw[Pas];cases c1:(atI (uN G (k:Int)) 0==(k:Int))
    ·simp (disch:=first|assumption|omega) only[S0,rA,rQ,rB,rT,rE,aN,c1,Qb4,Rbs]
    ·simp (disch:=first|assumption|omega) only[S0,rA,rQ,rB,rT,rE,aN,lQ,dY,c1]
   ·intro m hm ao
    have hbm:InB (lW G (k:Int)) (m:Int):=aM.2 hm;have hj:=Ka8 (at_mem hm);have pb:=Gae hj;have p0:=Na4 hj;have fN:=xG G (atI (lW G (k:Int)) (m:Int));have om:=Raf hg (j:=(k:Int)) hj
    have cP:(((lW G (k:Int)).take m).filter fun j=>Eaq G j (k:Int)).length<=m:=by
     have:=Sbs (fun j=>Eaq G j (k:Int)) ((lW G (k:Int)).take m);rw[Rbq]at this;omega
    have a1:(((lW G (k:Int)).take m).filter fun j=>Eaq G j (k:Int)).length+([atI (lW G (k:Int)) (m:Int)]:List Int).length<=100000000000:=by simp only[Rbe,Rbk];omega
    have b1:(lW G (atI (lW G (k:Int)) (m:Int))).length<=1099511627776:=by omega
    rw[Cba hm];cases c1:Eaq G (atI (lW G (k:Int)) (m:Int)) (k:Int)
    ·simp (disch:=first|assumption|omega) only[S0,rA,rQ,rB,rT,rE,aN,lF,ao,p0,om,c1,Qb4,Rbs]
    ·simp (disch:=first|assumption|omega) only[S0,rA,rQ,rB,rT,rE,aN,lQ,dY,lF,ao,p0,om,c1]
   ·intro ao
    rw[Rb5];simp (disch:=first|assumption|omega) only[S0,rA,rQ,rB,rT,rE,ao];rfl
  ·intro hlt
   simp (disch:=first|assumption|omega) only[S0,rA,rQ,rB,rT,rE,hlt];rfl
 ·intro k hk hlt
  have hb:InB G (k:Int):=aM.2 hk;have eN:((nums k).map (lW G)).length+([lW G (k:Int)]:List (List Int)).length<=100000000000:=by simp only[Rbh,cZ,Rbe,Rbk];omega
  have e:(nums (k+1)).map (lW G)=(nums k).map (lW G)++[lW G (k:Int)]:=by rw[vM,Sbr];rfl
  rw[e];simp (disch:=first|assumption|omega) only[S0,rA,rQ,rB,rT,rE,lQ,dY,Iaf,hlt]
 ·intro hlt
  simp (disch:=first|assumption|omega) only[S0,rA,rQ,rB,rT,rE,hlt];rfl
theorem nN (G:List (List Int))(out:List (List Int))(C:List Int)(x:Int)(hx:InB G x)(hC:C.length<=1000):Fun T 91 [i64 x,rL (qV G.length out),rL C]=some [.bool (!lV out x&&!kQ C x)]:=by
 rw[aS (t:=Jbc) rfl];unfold Jbc
 have hb:InB (qV G.length out) x:=by unfold InB at hx ⊢;rw[Paf];exact hx
 have eA:atI (qV G.length out) x=lV out x:=Xab hx;cases c1:lV out x<;>cases c2:kQ C x<;>simp (disch:=first|assumption|omega) only[S0,rA,rQ,rB,rT,rE,Cab,slices_Contains_int,eA,c1,c2]
theorem Ca4 (G:List (List Int))(out:List (List Int))(C xs:List Int)(jm:xs.length<=1000)(hx:∀ x∈xs,InB G x)(hC:C.length<=1000):Fun T 90 [rL xs,rL (qV G.length out),rL C]=some [i64 (ixF (fun x=>!lV out x&&!kQ C x) xs)]:=by
 rw[aS (t:=Jbd) rfl];unfold Jbd
 simp (disch:=first|assumption|omega) only[S0,rA,rQ,rB,rT,rE];rw[Bas 1 xs (fun x=>!lV out x&&!kQ C x) (fun i=>[i64 i])]
 ·cases h:xs.any (fun x=>!lV out x&&!kQ C x)
  ·have e:ixF (fun x=>!lV out x&&!kQ C x) xs=-1:=by
    have h2:=eP (fun x=>!lV out x&&!kQ C x) xs;rw[h]at h2;unfold ixF at h2 ⊢;split at h2<;>simp_all
   rw[e];simp (disch:=first|assumption|omega) only[S0,rA,rQ,rB,rT,rE]
  ·simp (disch:=first|assumption|omega) only[S0,rA,rQ,rB,rT,rE]
 ·intro i hi hb hlt hp
  have q1:=hx _ (at_mem hi);simp (disch:=first|assumption|omega) only[S0,rA,rQ,rB,rT,rE,aN,nN,hlt,hp]
 ·intro i hi hb hlt hp
  have q1:=hx _ (at_mem hi);simp (disch:=first|assumption|omega) only[S0,rA,rQ,rB,rT,rE,aN,nN,hlt,hp]
 ·intro hlt
  simp (disch:=first|assumption|omega) only[S0,rA,rQ,rB,rT,rE,hlt]
theorem Daf (G:List (List Int))(out:List (List Int))(C xs:List Int)(jm:xs.length<=1000)(hx:∀ x∈xs,InB G x)(hC:C.length<=1000):Fun T 89 [rL xs,rL (qV G.length out),rL C]=some [.bool (xs.any fun x=>!lV out x&&!kQ C x)]:=by
 rw[aS (t:=Jbe) rfl];unfold Jbe
 simp (disch:=first|assumption|omega) only[S0,rA,rQ,rB,rT,rE,Ca4,eP]
theorem qO (G:List (List Int))(out:List (List Int))(C:List Int)(hl:G.length<=1000)(hC:C.length<=1000)(ob:InB C 0)(hG:InB G (atI C 0)):Fun T 88 [rL C,rL (rsM G),rL (qV G.length out)]=some [.bool (qP G out C)]:=by
 rw[aS (t:=Jbf) rfl];unfold Jbf;unfold qP
 have dm:=Gae hG;have eA:=Na4 hG;have lg:=xG G (atI C 0);have fx:∀ x∈lW G (atI C 0),InB G x:=fun x hx=>Ka8 hx
 have e:((lW G (atI C 0)).all fun j=>lV out j||kQ C j)=!((lW G (atI C 0)).any fun x=>!lV out x&&!kQ C x):=by
  rw[List.not_any_eq_all_not];congr 1;funext x;cases lV out x<;>cases kQ C x<;>rfl
 rw[e];simp (disch:=first|assumption|omega) only[S0,rA,rQ,rB,rT,rE,aN,Daf,eA]
theorem Ga0 (G:List (List Int))(out xs:List (List Int))(hl:G.length<=1000)(jm:xs.length<=1000)(hx:∀ C∈xs,C.length<=1000/\InB C 0/\InB G (atI C 0)):Fun T 87 [rL xs,rL (rsM G),rL (qV G.length out)]=some [i64 (ixF (qP G out) xs)]:=by
 rw[aS (t:=Jbg) rfl];unfold Jbg
 simp (disch:=first|assumption|omega) only[S0,rA,rQ,rB,rT,rE];rw[Bas 1 xs (qP G out) (fun i=>[i64 i])]
 ·cases h:xs.any (qP G out)
  ·have e:ixF (qP G out) xs=-1:=by
    have h2:=eP (qP G out) xs;rw[h]at h2;unfold ixF at h2 ⊢;split at h2<;>simp_all
   rw[e];simp (disch:=first|assumption|omega) only[S0,rA,rQ,rB,rT,rE]
  ·simp (disch:=first|assumption|omega) only[S0,rA,rQ,rB,rT,rE]
 ·intro i hi hb hlt hp
  obtain⟨q1,q2,q3⟩:=hx _ (at_mem hi);simp (disch:=first|assumption|omega) only[S0,rA,rQ,rB,rT,rE,aN,qO,hlt,hp]
 ·intro i hi hb hlt hp
  obtain⟨q1,q2,q3⟩:=hx _ (at_mem hi);simp (disch:=first|assumption|omega) only[S0,rA,rQ,rB,rT,rE,aN,qO,hlt,hp]
 ·intro hlt
  simp (disch:=first|assumption|omega) only[S0,rA,rQ,rB,rT,rE,hlt]
theorem Cao (G:List (List Int))(hg:GOk G)(hl:G.length<=1000)(hr:∀ r∈G,r.length<=1000):Fun T 125 [rL G]=some [rL (bL G)]:=by
 rw[aS (t:=Abh) rfl];unfold Abh
 have h0:(D.rows 1 [])=rL ([]:List (List Int)):=rfl;simp (disch:=first|assumption|omega) only[S0,rA,rQ,rB,rT,rE,Kay];generalize hE:Er T (Tm.loop _ _) _=E
 obtain⟨r,h1,h3⟩:∃ r,E=some r/\r=(.yield 1,[rL (bL G)]):=by
  rw[<- hE];refine uC (γ:=CSt) (fun s=>s.rest.length) (fun s=>Ea1 G s/\cM G s.rest.length s=bL G) (fun s=>[rL s.rest,rL s.out]) (fun r=>r=(.yield 1,[rL (bL G)])) ⟨jM G,[]⟩ ?_ ⟨Ea1.start G,rfl⟩ ?_
  ·rfl
  rintro s ⟨hinv,cj⟩
  have hlen:=hinv.len;by_cases hw:s.rest=[]
  ·have hd:decide ((0:Int)<(s.rest.length:Nat))=false:=by rw[hw];rfl
   refine .inr ⟨(.yield 1,[rL s.out]),by simp (disch:=first|assumption|omega) only[S0,rA,rQ,rB,rT,rE,hd],by simp,?_⟩;rw[hw]at cj;rw[<- cj];rfl
  ·have ew:0<s.rest.length:=List.length_pos_iff.2 hw
   obtain⟨aj,tp⟩:=hinv.step hg hw;obtain⟨t1,t2,t3,t4⟩:=hinv.top hg hw
   have pZ:cM G (cO G s).rest.length (cO G s)=bL G:=by
    rw[<- cj,<- tp];rfl
   refine .inl ⟨cO G s,?_,⟨aj,pZ⟩,by omega⟩;have hd:decide ((0:Int)<(s.rest.length:Nat))=true:=decide_eq_true (by omega);simp (disch:=first|assumption|omega) only[S0,rA,rQ,rB,rT,rE,hd];rw[Ia2 (γ:=Nat) (.yield 3,[rL (cO G s).rest,rL (cO G s).out]) (fun i=>Fav G s-i) (fun i=>i<=Fav G s) (fun i=>[i64 (i:Int)]) 0 rfl (Sbq _) (by simp)]
   ·simp (disch:=first|assumption|omega) only[S0,rA,rQ,rB,rT,rE]
   ·intro i hi
    have gC:i<s.rest.length:=by omega
    have hb:InB s.rest (i:Int):=aM.2 gC;have mj:decide ((i:Int)<(s.rest.length:Nat))=true:=decide_eq_true (by omega);obtain⟨g1,g2,g3,g4,g5⟩:=hinv.grp hg (at_mem gC);simp (disch:=first|assumption|omega) only[S0,rA,rQ,rB,rT,rE,aN,mj];rw[gW (atI s.rest (i:Int)).length (fun m=>[.bool (Hah G s.rest i m),i64 m]) (.yield 5,[.bool (qP G s.out (atI s.rest (i:Int)))]) (by rw[Vae];rfl) (by simp)]
    ·cases hf:qP G s.out (atI s.rest (i:Int))
     ·refine .inl ⟨i+1,?_,?_,?_⟩
      ·simp (disch:=first|assumption|omega) only[S0,rA,rQ,rB,rT,rE,Qb4]
      ·rcases Rbo i (Fav G s) with h|h
       ·omega
       ·obtain rfl:i=Fav G s:=by omega
        rw[hf]at t3;cases t3
      ·rcases Rbo i (Fav G s) with h|h
       ·omega
       ·obtain rfl:i=Fav G s:=by omega
        rw[hf]at t3;cases t3
     ·refine .inr ?_
      have e:i=Fav G s:=by
       rcases Rbo i (Fav G s) with h|h
       ·rw[t4 i h]at hf;cases hf
       ·omega
      unfold cO;rw[<- e];have e1:(s.rest.take ((i:Int)).toNat).drop (0:Int).toNat=s.rest.take i:=rfl
      have e2:(s.rest.take ((s.rest.length:Nat):Int).toNat).drop (((i:Int)+1)).toNat=s.rest.drop (i+1):=by
       rw[Rb8,Rb5];rfl
      have a1:s.out.length+([atI s.rest (i:Int)]:List (List Int)).length<=100000000000:=by simp only[Rbe,Rbk];omega
      have a2:([]:List (List Int)).length+(s.rest.take i).length<=100000000000:=by simp only[Rbk,Rbq];omega
      have a3:(s.rest.take i).length+(s.rest.drop (i+1)).length<=100000000000:=by simp only[Rbq,Sbf];omega
      have h0:(aR.mk 1 0).run []=some [rL ([]:List (List Int))]:=rfl;simp (disch:=first|assumption|omega) only[S0,rA,rQ,rB,rT,rE,lQ,dY,Aab,h0,e1,e2,Sba]
    ·intro m hm ao
     have hbm:InB (atI s.rest (i:Int)) (m:Int):=aM.2 hm;have wA:=g3 _ (at_mem hm);have fN:=hr _ (dE wA);rw[Vaf hm];simp (disch:=first|assumption|omega) only[S0,rA,rQ,rB,rT,rE,aN,ao];generalize atI (atI s.rest (i:Int)) (m:Int)=j at wA fN ⊢;rw[gW s.rest.length (fun k=>[.bool (Hah G s.rest i m&&Iat G s.rest i j k),i64 k]) (.yield 7,[.bool (Hah G s.rest i m&&Iat G s.rest i j s.rest.length)]) (by rw[Vag,Sb4];rfl) (by simp)]
     ·simp (disch:=first|assumption|omega) only[S0,rA,rQ,rB,rT,rE]
     ·intro k hk tI
      have n2:InB s.rest (k:Int):=aM.2 hk;obtain⟨k1,k2,k3,k4,k5⟩:=hinv.grp hg (at_mem hk);rw[Vah,<- Bool.and_assoc];generalize (Hah G s.rest i m&&Iat G s.rest i j k)=b0;simp (disch:=first|assumption|omega) only[S0,rA,rQ,rB,rT,rE,aN,tI];rw[gW (atI s.rest (k:Int)).length (fun q=>[.bool (b0&&Hai G s.rest i j k q),i64 q]) (.yield 9,[.bool (b0&&Hai G s.rest i j k (atI s.rest (k:Int)).length)]) (by rw[Vai,Sb4];rfl) (by simp)]
      ·simp (disch:=first|assumption|omega) only[S0,rA,rQ,rB,rT,rE]
      ·intro q hq vc
       have hbq:InB (atI s.rest (k:Int)) (q:Int):=aM.2 hq;rw[Vaj hq,<- Bool.and_assoc]
       have ek:((k:Int)==(i:Int))=(k==i):=by
        rw[Tb6,beq_iff_eq,beq_iff_eq];omega
       generalize (b0&&Hai G s.rest i j k q)=b1;have jl2:(atI G j).length<=1099511627776:=by omega
       cases b1<;>cases c2:(k==i)<;>cases c3:kQ (atI G j) (atI (atI s.rest (k:Int)) (q:Int))<;>simp (disch:=first|assumption|omega) only[S0,rA,rQ,rB,rT,rE,aN,lF,vc,ek,c2,c3]<;>rfl
      ·intro vc
       simp (disch:=first|assumption|omega) only[S0,rA,rQ,rB,rT,rE,vc]
     ·intro tI
      simp (disch:=first|assumption|omega) only[S0,rA,rQ,rB,rT,rE,tI]
    ·intro ao
     rw[Yah,Bb8 hg hinv gC];simp (disch:=first|assumption|omega) only[S0,rA,rQ,rB,rT,rE,ao]
 subst h3;rw[h1];simp (disch:=first|assumption|omega) only[S0,rA,rQ,rB,rT,rE]
theorem Cbn (xs:List (List Int))(i:Nat)(h:i<xs.length)(hl:xs.length<=1000000):Fun T 92 [Vab xs (i:Int),i64 (i:Int),i64 ((i:Int)+1)]=some [rL (xs.take i++xs.drop (i+1))]:=by
 rw[Mas (e:=Fbl 1) rfl];exact Ya6 h hl
theorem Ga7 (G:List (List Int))(hg:GOk G)(hl:G.length<=1000)(hr:∀ r∈G,r.length<=1000):Fun T 85 [rL G]=some [rL (bL G)]:=by
 rw[aS (t:=Jbi) rfl];unfold Jbi
 have h0:(aR.mk 1 0).run []=some [rL ([]:List (List Int))]:=rfl;have h0':rL ([]:List (List Int))=rL ([]:List Int):=rfl;have e0:((G.length:Nat):Int).toNat=G.length:=Rb8 _;simp (disch:=first|assumption|omega) only[S0,rA,rQ,rB,rT,rE,h0];rw[gW G.length (fun k=>[i64 k,rL ((nums k).map (lW G))]) (.yield 1,[rL (rsM G)]) rfl (by simp)]
 rotate_left
 ·intro k hk hlt
  have hb:InB G (k:Int):=aM.2 hk;have eN:((nums k).map (lW G)).length+([lW G (k:Int)]:List (List Int)).length<=100000000000:=by simp only[Rbh,cZ,Rbe,Rbk];omega
  have e:(nums (k+1)).map (lW G)=(nums k).map (lW G)++[lW G (k:Int)]:=by rw[vM,Sbr];rfl
  rw[e];simp (disch:=first|assumption|omega) only[S0,rA,rQ,rB,rT,rE,lQ,dY,Oat,hlt]
 ·intro hlt
  simp (disch:=first|assumption|omega) only[S0,rA,rQ,rB,rT,rE,hlt];rfl
 simp (disch:=first|assumption|omega) only[S0,rA,rQ,rB,rT,rE,h0,Cab,e0];rw[gW G.length (fun k=>[rL (Cbw G k),i64 k]) (.yield 3,[rL (jM G)]) rfl (by simp)]
 rotate_left
 ·intro k hk hlt
  have hb:InB G (k:Int):=aM.2 hk;have dm:=Gae hb;have eA:=Na4 hb;have lg:=xG G (k:Int);have eV:=Taw G k;simp (disch:=first|assumption|omega) only[S0,rA,rQ,rB,rT,rE,hlt,h0];rw[gW G.length (fun m=>[rL (Dbs G (k:Int) m),i64 m]) (.yield 5,[rL (uN G (k:Int))]) rfl (by simp)]
  ·have hs:=vZ hg hb
   have hgp:=Tbt hs;have wu:InB (uN G (k:Int)) 0:=by unfold InB;omega
   have a1:(Cbw G k).length+([uN G (k:Int)]:List (List Int)).length<=100000000000:=by simp only[Rbe,Rbk];omega
   rw[Pas];cases c1:(atI (uN G (k:Int)) 0==(k:Int))
   ·simp (disch:=first|assumption|omega) only[S0,rA,rQ,rB,rT,rE,aN,c1,Qb4,Rbs]
   ·simp (disch:=first|assumption|omega) only[S0,rA,rQ,rB,rT,rE,aN,lQ,dY,c1]
  ·intro m hm ao
   have hj:InB G (m:Int):=aM.2 hm;have pb:=Gae hj;have p0:=Na4 hj;have fN:=xG G (m:Int);have om:=Raf hg (j:=(k:Int)) hj;have pc:=Raf hg (j:=(m:Int)) hb;have cP:=Bb6 G (k:Int) m;have a1:(Dbs G (k:Int) m).length+([(m:Int)]:List Int).length<=100000000000:=by simp only[Rbe,Rbk];omega
   have b1:(lW G (m:Int)).length<=1099511627776:=by omega
   rw[Yac];cases c1:Eaq G (k:Int) (m:Int)
   ·simp (disch:=first|assumption|omega) only[S0,rA,rQ,rB,rT,rE,aN,slices_Contains_int,ao,eA,pc,c1,Bool.false_and,Qb4,Rbs]
   ·cases c2:Eaq G (m:Int) (k:Int)
    ·simp (disch:=first|assumption|omega) only[S0,rA,rQ,rB,rT,rE,aN,slices_Contains_int,ao,eA,p0,om,pc,c1,c2,Ubh,Qb4,Rbs]
    ·simp (disch:=first|assumption|omega) only[S0,rA,rQ,rB,rT,rE,aN,lQ,dY,slices_Contains_int,ao,eA,p0,om,pc,c1,c2,Ubh]
  ·intro ao
   rw[Bb7];simp (disch:=first|assumption|omega) only[S0,rA,rQ,rB,rT,rE,ao]
 ·intro hlt
  simp (disch:=first|assumption|omega) only[S0,rA,rQ,rB,rT,rE,hlt];rfl
 simp (disch:=first|assumption|omega) only[S0,rA,rQ,rB,rT,rE,h0];generalize hE:Er T (Tm.loop _ _) _=E
 obtain⟨r,h1,q,h3⟩:∃ r,E=some r/\∃ q,r=(.yield 7,[rL (bL G),q]):=by
  rw[<- hE];refine uC (γ:=CSt) (fun s=>s.rest.length) (fun s=>Ea1 G s/\cM G s.rest.length s=bL G) (fun s=>[rL s.rest,rL s.out,rL (qV G.length s.out)]) (fun r=>∃ q,r=(.yield 7,[rL (bL G),q])) ⟨jM G,[]⟩ ?_ ⟨Ea1.start G,rfl⟩ ?_
  ·rw[Ya0]
   rfl
  rintro s ⟨hinv,cj⟩
  have hlen:=hinv.len;by_cases hw:s.rest=[]
  ·have hd:decide ((0:Int)<(s.rest.length:Nat))=false:=by rw[hw];rfl
   refine .inr ⟨(.yield 7,[rL s.out,rL (qV G.length s.out)]),by simp (disch:=first|assumption|omega) only[S0,rA,rQ,rB,rT,rE,hd],by simp,rL (qV G.length s.out),?_⟩;rw[hw]at cj;rw[<- cj];rfl
  ·have ew:0<s.rest.length:=List.length_pos_iff.2 hw
   obtain⟨aj,tp⟩:=hinv.step hg hw;obtain⟨t1,t2,t3,t4⟩:=hinv.top hg hw
   have pZ:cM G (cO G s).rest.length (cO G s)=bL G:=by
    rw[<- cj,<- tp];rfl
   refine .inl ⟨cO G s,?_,⟨aj,pZ⟩,by omega⟩;have hd:decide ((0:Int)<(s.rest.length:Nat))=true:=decide_eq_true (by omega);have lg:0<(rsM G).length:=by rw[Wat];omega
   have mi:0<(qV G.length s.out).length:=by rw[Paf];omega
   have hx:∀ C∈s.rest,C.length<=1000/\InB C 0/\InB G (atI C 0):=fun C hC=>by
    obtain⟨k1,k2,k3,k4,k5⟩:=hinv.grp hg hC;exact⟨by omega,k4,k5⟩
   have hb:InB s.rest (Fav G s:Int):=aM.2 t1;obtain⟨g1,g2,g3,g4,g5⟩:=hinv.grp hg (at_mem t1);simp (disch:=first|assumption|omega) only[S0,rA,rQ,rB,rT,rE,aN,Qby,Ga0,t2,hd];unfold cO;generalize Fav G s=i at t1 t2 t3 t4 hb g1 g2 g3 g4 g5 ⊢;rw[gW (atI s.rest (i:Int)).length (fun m=>[i64 m,rL ((nums G.length).map fun j=>lV s.out j||kQ ((atI s.rest (i:Int)).take m) j)]) (.yield 9,[rL (qV G.length (s.out++[atI s.rest (i:Int)]))]) (by rw[Raq];rfl) (by simp)]
   ·have a1:s.out.length+([atI s.rest (i:Int)]:List (List Int)).length<=100000000000:=by simp only[Rbe,Rbk];omega
    simp (disch:=first|assumption|omega) only[S0,rA,rQ,rB,rT,rE,aN,Eao,lQ,dY,Cbn]
   ·intro m hm ao
    have hbm:InB (atI s.rest (i:Int)) (m:Int):=aM.2 hm;have wA:=g3 _ (at_mem hm);have pb:InB ((nums G.length).map fun j=>lV s.out j||kQ ((atI s.rest (i:Int)).take m) j) (atI (atI s.rest (i:Int)) (m:Int)):=by unfold InB at wA ⊢;rw[Rbh,cZ];exact wA
    rw[<- Yaz hm wA];simp (disch:=first|assumption|omega) only[S0,rA,rQ,rB,rT,rE,aN,Cab,ao]
   ·intro ao
    rw[Ya1];simp (disch:=first|assumption|omega) only[S0,rA,rQ,rB,rT,rE,ao]
 subst h3;rw[h1];simp (disch:=first|assumption|omega) only[S0,rA,rQ,rB,rT,rE]
theorem Nao (C ks:List Int)(hC:C.length<=1000)(fx:∀ x∈C,InB ks x)(hi:∀ x∈C,∀ y∈C,atI ks x=atI ks y->x=y):Fun T 128 [rL C,rL ks]=some [rL (jK (fZ ks) C)]:=by
 rw[aS (t:=Abe) rfl];unfold Abe
 simp (disch:=first|assumption|omega) only[S0,rA,rQ,rB,rT,rE];rw[<- Xas hi];rw[(Yak 1 C (fun i (out:List Int)=>[rL out,i64 i]) [] (Za3 ks) (fun i out=>out.length=i/\i<=C.length/\∀ x∈out,InB ks x) (fun out=>[rL out]) rfl ⟨rfl,Sbq _,fun x hx=>by cases hx⟩ ?_ ?_).1]
 ·simp (disch:=first|assumption|omega) only[S0,rA,rQ,rB,rT,rE]
 ·rintro i out kr hb hlt ⟨o1,o2,o3⟩
  have hxb:=fx _ (at_mem kr);have ju:=(Gaz ks out (atI C (i:Int))).length_eq;refine⟨?_,?_⟩
  ·simp (disch:=first|assumption|omega) only[S0,rA,rQ,rB,rT,rE,aN,hlt]
   generalize atI C (i:Int)=x at hxb ju ⊢;have hk:=Qa9 ks out x out.length;rw[Ia2 (γ:=Nat) (.yield 3,[i64 ((Da5 ks out x out.length:Nat):Int),.undef,.undef,.undef,.undef,.undef,.undef,.undef]) (fun k=>k) (fun k=>k<=out.length/\Da5 ks out x k=Da5 ks out x out.length) (fun k=>[i64 (k:Int)]) out.length rfl ⟨Rbg _,rfl⟩ (by simp)]
   ·unfold Za3
    generalize Da5 ks out x out.length=k at hk ⊢;have e0:(out.take ((k:Nat):Int).toNat).drop (0:Int).toNat=out.take k:=rfl;have e1:(out.take ((out.length:Nat):Int).toNat).drop ((k:Nat):Int).toNat=out.drop k:=by rw[Rb8,Rb8,Rb5]
    have t1:(out.take k).length<=1000:=by rw[Rbq];omega
    have t2:(out.drop k).length<=1000:=by rw[Sbf];omega
    have a3:(out.take k).length+([x]:List Int).length<=100000000000:=by simp only[Rbe,Rbk];omega
    have a4:((out.take k)++[x]).length+(out.drop k).length<=100000000000:=by simp only[Qb6,Rbe,Rbk];omega
    have b1:(0:Int)<=((k:Nat):Int):=by omega
    have b2:(out.drop k).length<=10000000000:=by omega
    simp (disch:=first|assumption|omega) only[S0,rA,rQ,rB,rT,rE,lQ,dY,Aab,Jae,e0,e1]
   ·rintro k ⟨a4f,sd⟩
    cases k with
    | zero =>
     refine .inr ?_;have e:Da5 ks out x out.length=0:=by rw[<- sd];rfl
     have vf:decide ((0:Int)<((0:Nat):Int))=false:=by decide
     rw[e];simp (disch:=first|assumption|omega) only[S0,rA,rQ,rB,rT,rE,vf]
    | succ k =>
     have n2:InB out (k:Int):=aM.2 (by omega);have hyb:=o3 _ (dE n2);have wi:decide (0<(k:Int)+1)=true:=decide_eq_true (by omega)
     have ku:(aR.bin .sub).run [i64 ((k:Int)+1),i64 1]=some [i64 (k:Int)]:=by
      have h:=Qaw (a:=(k:Int)+1) (b:=1) (by omega) (by omega);rw[show (k:Int)+1-1=k by omega]at h;exact h
     cases hg:decide (atI ks x<atI ks (atI out (k:Int)))
     ·refine .inr ?_
      have e:Da5 ks out x out.length=k+1:=by rw[<- sd];unfold Da5;rw[hg];simp
      rw[e];simp (disch:=first|assumption|omega) only[S0,rA,rQ,rB,rT,rE,aN,wi,ku,hg,Qb4]
     ·refine .inl ⟨k,?_,⟨by omega,by rw[<- sd];conv=>rhs;unfold Da5;rw[hg];simp⟩,by omega⟩
      simp (disch:=first|assumption|omega) only[S0,rA,rQ,rB,rT,rE,aN,wi,ku,hg]
  ·refine⟨by rw[ju,Rbe];omega,by omega,fun y hy=>?_⟩
   rcases List.mem_cons.1 ((Gaz ks out (atI C (i:Int))).mem_iff.1 hy) with h|h
   ·rw[h];exact hxb
   ·exact o3 y h
 ·rintro out hlt -
  simp (disch:=first|assumption|omega) only[S0,rA,rQ,rB,rT,rE,hlt]
theorem Nan (G:List (List Int))(ks:List Int)(hg:GOk G)(hl:G.length<=1000)(hr:∀ r∈G,r.length<=1000)(hk:ks.length=G.length)(hi:∀ x y,InB G x->InB G y->atI ks x=atI ks y->x=y):Fun T 124 [rL G,rL ks]=some [rL (kD G ks)]:=by
 rw[aS (t:=Abi) rfl];unfold Abi
 obtain⟨c1,c2⟩:=jS hg;have pj:(bL G).length<=G.length:=Sb3 (jL c1 fun C hC=>(c2 C).1 hC) (Dah G);simp (disch:=first|assumption|omega) only[S0,rA,rQ,rB,rT,rE,Cao];rw[gW (bL G).length (fun m=>[rL (uA G ks m),i64 m]) (.yield 1,[rL (kD G ks)]) rfl (by simp)]
 ·simp (disch:=first|assumption|omega) only[S0,rA,rQ,rB,rT,rE]
 ·intro m hm hlt
  have hb:InB (bL G) (m:Int):=aM.2 hm;obtain⟨a,ha,he,-⟩:=fP ((c2 _).1 (at_mem hm));have g1:=La5 G a;have g2:∀ x∈atI (bL G) (m:Int),InB G x:=fun x hx=>Rag (by rw[<- he];exact hx)
  rw[<- he]at g1;have hC:(atI (bL G) (m:Int)).length<=1000:=by omega
  have fx:∀ x∈atI (bL G) (m:Int),InB ks x:=fun x hx=>by have:=g2 x hx;unfold InB at this ⊢;rw[hk];exact this
  have kr:∀ x∈atI (bL G) (m:Int),∀ y∈atI (bL G) (m:Int),atI ks x=atI ks y->x=y:=fun x hx y hy=>hi x y (g2 x hx) (g2 y hy)
  have o1:=Jaw hg ks m;have a1:(uA G ks m).length+(jK (fZ ks) (atI (bL G) (m:Int))).length<=100000000000:=by rw[Naz];omega
  rw[Gao hm];simp (disch:=first|assumption|omega) only[S0,rA,rQ,rB,rT,rE,aN,dY,Nao,hlt]
 ·intro hlt
  rw[Gap];simp (disch:=first|assumption|omega) only[S0,rA,rQ,rB,rT,rE,hlt]
theorem Uat (l ks:List Int)(h:Da6 l ks=true)(hl:l.length<=1000000):Fun T 93 [rL l,rL ks]=some [rL (jK (fZ ks) l)]:=by
 rw[Mas (e:=Jah) rfl];exact Fb0 h hl
theorem Ua8 (G:List (List Int))(ks:List Int)(hg:GOk G)(hl:G.length<=1000)(hr:∀ r∈G,r.length<=1000)(hk:ks.length=G.length)(jj:∀ k∈ks,0<=k/\k<=1000000000)(hi:∀ x y,InB G x->InB G y->atI ks x=atI ks y->x=y):Fun T 84 [rL G,rL ks]=some [rL (kD G ks)]:=by
 rw[aS (t:=Jbj) rfl];unfold Jbj
 obtain⟨c1,c2⟩:=jS hg;have pj:(bL G).length<=G.length:=Sb3 (jL c1 fun C hC=>(c2 C).1 hC) (Dah G);have h0:(aR.mk 1 0).run []=some [rL ([]:List (List Int))]:=rfl;have est:rL (bL G)=nV [] (Rbf 0 [D.hole]) ((bL G).drop 0):=Ya7 (bL G) (Sbq _);simp (disch:=first|assumption|omega) only[S0,rA,rQ,rB,rT,rE,Ga7,h0];rw[gW (bL G).length (fun m=>[rL (uA G ks m),nV [] (Rbf m [D.hole]) ((bL G).drop m),i64 m]) (.yield 1,[rL (kD G ks)]) (by rw[<- est];rfl) (by simp)]
 ·simp (disch:=first|assumption|omega) only[S0,rA,rQ,rB,rT,rE]
 ·intro m hm hlt
  have hb:InB (bL G) (m:Int):=aM.2 hm;obtain⟨a,ha,he,-⟩:=fP ((c2 _).1 (at_mem hm));have g1:=La5 G a;have g2:∀ x∈atI (bL G) (m:Int),InB G x:=fun x hx=>Rag (by rw[<- he];exact hx)
  rw[<- he]at g1;have hC:(atI (bL G) (m:Int)).length<=1000000:=by omega
  have fx:∀ x∈atI (bL G) (m:Int),InB ks x:=fun x hx=>by have:=g2 x hx;unfold InB at this ⊢;rw[hk];exact this
  have kr:∀ x∈atI (bL G) (m:Int),∀ y∈atI (bL G) (m:Int),atI ks x=atI ks y->x=y:=fun x hx y hy=>hi x y (g2 x hx) (g2 y hy)
  have hko:=Xat fx jj kr;have o1:=Jaw hg ks m;have a1:(uA G ks m).length+(jK (fZ ks) (atI (bL G) (m:Int))).length<=100000000000:=by rw[Naz];omega
  have cI:(bL G).drop m=atI (bL G) (m:Int)::(bL G).drop (m+1):=by rw[Sbz hm,aV hm]
  have hJ:((Rbf m [D.hole]).length:Int)=(m:Int):=by rw[Rbw]
  have q1:aR.inb.run [nV [] (Rbf m [D.hole]) ((bL G).drop m),i64 (m:Int)]=some []:=Mad (by omega) (by rw[cI,Rbe,hJ,Rbk];omega);have q2:(aR.row 1 0 [false]).run [nV [] (Rbf m [D.hole]) ((bL G).drop m),i64 (m:Int)]=some [rL (atI (bL G) (m:Int))]:=by rw[cI];exact Tat (by rw[hJ,Rbk];omega)
  have q3:(aR.set 1 0 1).run [nV [] (Rbf m [D.hole]) ((bL G).drop m),i64 (m:Int),.hole]=some [nV [] (Rbf (m+1) [D.hole]) ((bL G).drop (m+1))]:=by rw[cI,List.replicate_succ'];exact Pak (by rw[hJ,Rbk];omega)
  rw[Gao hm];simp (disch:=first|assumption|omega) only[S0,rA,rQ,rB,rT,rE,dY,Uat,q1,q2,q3,hlt]
 ·intro hlt
  rw[Gap];simp (disch:=first|assumption|omega) only[S0,rA,rQ,rB,rT,rE,hlt]
theorem Nal (n:Int)(rows:List (List bT))(ht:bA ⟨n,rows⟩=true)(hs:iM rows):Fun T 115 [i64 n,rL rows]=some [rL (uJ ⟨n,rows⟩)]:=by
 rw[aS (t:=Abr) rfl];unfold Abr
 have hg:dK n=true:=aW ht;have hn:=bD hg;have hl:(rows.length:Int)=n:=dG ht;have eN:rows.length<=100:=by omega
 have lg:=qI ht;have c5:=La6 ⟨n,rows⟩;have hgl:=uF ⟨n,rows⟩;have zp:∀ r∈gM ⟨n,rows⟩,r.length<=1000:=fun r hr=>by have:=(Yae hr).1;omega
 have mC:(yB ⟨n,rows⟩).length=(gM ⟨n,rows⟩).length:=by rw[Oal,hgl]
 have sd:=Oam ht;have eo:∀ x∈aF ⟨n,rows⟩,x∈bO rows:=fun x hx=>fE hx
 simp (disch:=first|assumption|omega) only[S0,rA,rQ,rB,rT,rE,Nak,Jad];rw[gW rows.length (fun k=>[i64 k,rL (Pa4 (aF ⟨n,rows⟩) ⟨n,rows⟩ k).rows]) (.yield 1,[rL (Pa4 (aF ⟨n,rows⟩) ⟨n,rows⟩ rows.length).rows]) rfl (by simp)]
 rotate_left
 ·intro k hk hlt
  have hc:=Ta5.all ht eo k (by simp only;omega);have eV:(Pa4 (aF ⟨n,rows⟩) ⟨n,rows⟩ k).rows.length=rows.length:=hc.rowsLen ht;have nB:InB (Pa4 (aF ⟨n,rows⟩) ⟨n,rows⟩ k).rows (k:Int):=aM.2 (by omega);have hck:(atI (Pa4 (aF ⟨n,rows⟩) ⟨n,rows⟩ k).rows (k:Int)).length=(atI rows (k:Int)).length:=hc.len k;have h6:(atI rows (k:Int)).length<=6:=(eU ht (at_mem hk)).1;have hck2:(atI (Pa4 (aF ⟨n,rows⟩) ⟨n,rows⟩ k).rows (k:Int)).length<=1099511627776:=by omega
  simp (disch:=first|assumption|omega) only[S0,rA,rQ,rB,rT,rE,aN,hlt];rw[hck];rw[gW (atI rows (k:Int)).length (fun m=>[i64 m,rL (Dbw (aF ⟨n,rows⟩) k m (Pa4 (aF ⟨n,rows⟩) ⟨n,rows⟩ k)).rows]) (.yield 3,[rL (Pa4 (aF ⟨n,rows⟩) ⟨n,rows⟩ (k+1)).rows]) rfl (by simp)]
  ·simp (disch:=first|assumption|omega) only[S0,rA,rQ,rB,rT,rE]
  ·intro m hm ao
   have hd:=hc.stepN ht (by simp only;exact hk) m (by simp only;omega);have e:Dbw (aF ⟨n,rows⟩) k (m+1) (Pa4 (aF ⟨n,rows⟩) ⟨n,rows⟩ k)=Ibl (aF ⟨n,rows⟩) (Dbw (aF ⟨n,rows⟩) k m (Pa4 (aF ⟨n,rows⟩) ⟨n,rows⟩ k)) k m:=rfl;rw[e];generalize Dbw (aF ⟨n,rows⟩) k m (Pa4 (aF ⟨n,rows⟩) ⟨n,rows⟩ k)=u at hd ⊢;obtain⟨un,us⟩:=u;obtain rfl:un=n:=hd.n;have mi:us.length=rows.length:=hd.rowsLen ht;have hdb:InB us (k:Int):=aM.2 (by omega);have sX:(atI us (k:Int)).length=(atI rows (k:Int)).length:=hd.len k;have hdm:InB (atI us (k:Int)) (m:Int):=aM.2 (by omega);have b1:([(k:Int),(m:Int)+1]:List Int).length<=1099511627776:=by simp
   have b2:(aF ⟨un,rows⟩).length<=1099511627776:=by omega
   unfold Ibl;cases hf:decide (fM (aF ⟨un,rows⟩) [(k:Int),(m:Int)+1]<0)
   ·simp (disch:=first|assumption|omega) only[S0,rA,rQ,rB,rT,rE,lQ,eY,ao,hf,Qb4]
   ·have e1:ext un (atI us (k:Int)) ((m:Int)+1)=atI us (k:Int):=Tap (by omega)
    have e2:(m:Int)+1-1=(m:Int):=by omega
    unfold Ea4;simp (disch:=first|assumption|omega) only[S0,rA,rQ,rB,rT,rE,aN,lQ,Dan,eY,rV,ao,hf,e1,e2];rfl
  ·intro ao
   simp (disch:=first|assumption|omega) only[S0,rA,rQ,rB,rT,rE,ao];rfl
 ·intro hlt
  simp (disch:=first|assumption|omega) only[S0,rA,rQ,rB,rT,rE,hlt]
 have eW:=Cbt ht;simp only at eW;generalize Pa4 (aF ⟨n,rows⟩) ⟨n,rows⟩ rows.length=u at eW ⊢;obtain⟨un,us⟩:=u;obtain rfl:un=n:=eW.n;have jt:bA ⟨un,us⟩=true:=eW.ok;have l9:=Ea7 jt;simp only at l9;have pH:=eW.com ht;have oT:=eW.graph ht;simp only at pH oT;simp (disch:=first|assumption|omega) only[S0,rA,rQ,rB,rT,rE,Nam,pH,oT];rw[gW (aF ⟨un,rows⟩).length (fun m=>[rL (((aF ⟨un,rows⟩).take m).map (zK ⟨un,rows⟩)),i64 m]) (.yield 5,[rL (yB ⟨un,rows⟩)]) rfl (by simp)]
 rotate_left
 ·intro m hm hlt
  have hb:InB (aF ⟨un,rows⟩) (m:Int):=aM.2 hm;obtain⟨hi,aj,he,x0,x1⟩:=aY ht (at_mem hm);have kr:inst un (atI (atI (aF ⟨un,rows⟩) (m:Int)) 0) (atI (atI (aF ⟨un,rows⟩) (m:Int)) 1)=true:=hi.2;have hr:=bG kr;have hrb:InB rows (atI (atI (aF ⟨un,rows⟩) (m:Int)) 0):=dF ht kr;have hsq:=Baj ht hi;have oS:(((aF ⟨un,rows⟩).take m).map (zK ⟨un,rows⟩)).length<=30:=by rw[Rbh,Rbq];omega
  have ek:((aF ⟨un,rows⟩).take (m+1)).map (zK ⟨un,rows⟩)=((aF ⟨un,rows⟩).take m).map (zK ⟨un,rows⟩)++[zK ⟨un,rows⟩ (atI (aF ⟨un,rows⟩) (m:Int))]:=by rw[<- take_at hm,Sbr];rfl
  rw[ek];have a1:(((aF ⟨un,rows⟩).take m).map (zK ⟨un,rows⟩)).length+([zK ⟨un,rows⟩ (atI (aF ⟨un,rows⟩) (m:Int))]:List Int).length<=100000000000:=by simp only[Rbe,Rbk];omega
  have ek2:100*(fB ⟨un,rows⟩ (atI (atI (aF ⟨un,rows⟩) (m:Int)) 0) (atI (atI (aF ⟨un,rows⟩) (m:Int)) 1)).attr.seq+10*atI (atI (aF ⟨un,rows⟩) (m:Int)) 0+atI (atI (aF ⟨un,rows⟩) (m:Int)) 1=zK ⟨un,rows⟩ (atI (aF ⟨un,rows⟩) (m:Int)):=rfl;simp (disch:=first|assumption|omega) only[S0,rA,rQ,rB,rT,rE,aN,lQ,dY,Ea9,uU,ek2,hlt]
 ·intro hlt
  rw[Rb5];simp (disch:=first|assumption|omega) only[S0,rA,rQ,rB,rT,rE,hlt];rfl
 have fN:=Lab ⟨un,rows⟩;simp (disch:=first|assumption|omega) only[S0,rA,rQ,rB,rT,rE,Nan];have eJ:kD (gM ⟨un,rows⟩) (yB ⟨un,rows⟩)=pQ ⟨un,rows⟩:=rfl;rw[eJ];rw[gW (pQ ⟨un,rows⟩).length (fun m=>[rL (aF ⟨un,rows⟩),rL (((pQ ⟨un,rows⟩).take m).map fun j=>atI (aF ⟨un,rows⟩) j),i64 m]) (.yield 7,[rL (uJ ⟨un,rows⟩)]) rfl (by simp)]
 ·simp (disch:=first|assumption|omega) only[S0,rA,rQ,rB,rT,rE]
 ·intro m hm hlt
  have hb:InB (pQ ⟨un,rows⟩) (m:Int):=aM.2 hm;have pb:=Gaq (at_mem hm);have oS:(((pQ ⟨un,rows⟩).take m).map fun j=>atI (aF ⟨un,rows⟩) j).length<=30:=by rw[Rbh,Rbq];omega
  have ek:((pQ ⟨un,rows⟩).take (m+1)).map (fun j=>atI (aF ⟨un,rows⟩) j)=((pQ ⟨un,rows⟩).take m).map (fun j=>atI (aF ⟨un,rows⟩) j)++[atI (aF ⟨un,rows⟩) (atI (pQ ⟨un,rows⟩) (m:Int))]:=by rw[<- take_at hm,Sbr];rfl
  have a1:(((pQ ⟨un,rows⟩).take m).map fun j=>atI (aF ⟨un,rows⟩) j).length+([atI (aF ⟨un,rows⟩) (atI (pQ ⟨un,rows⟩) (m:Int))]:List (List Int)).length<=100000000000:=by simp only[Rbe,Rbk];omega
  rw[ek];simp (disch:=first|assumption|omega) only[S0,rA,rQ,rB,rT,rE,aN,lQ,dY,hlt]
 ·intro hlt
  rw[Rb5];simp (disch:=first|assumption|omega) only[S0,rA,rQ,rB,rT,rE,hlt];rfl
theorem Eav (n:Int)(rows:List (List bT))(ht:bA ⟨n,rows⟩=true)(hs:iM rows):Fun T 71 [i64 n,rL rows]=some [rL (uJ ⟨n,rows⟩)]:=by
 rw[aS (t:=Jbv) rfl];unfold Jbv
 have hg:dK n=true:=aW ht;have hn:=bD hg;have hl:(rows.length:Int)=n:=dG ht;have eN:rows.length<=100:=by omega
 have lg:=qI ht;have c5:=La6 ⟨n,rows⟩;have hgl:=uF ⟨n,rows⟩;have zp:∀ r∈gM ⟨n,rows⟩,r.length<=1000:=fun r hr=>by have:=(Yae hr).1;omega
 have mC:(yB ⟨n,rows⟩).length=(gM ⟨n,rows⟩).length:=by rw[Oal,hgl]
 have sd:=Oam ht;have kc:=Xau ht;have h0:(aR.mk 1 0).run []=some [rL ([]:List (List Int))]:=rfl;simp (disch:=first|assumption|omega) only[S0,rA,rQ,rB,rT,rE,Bal,Eau];rw[gW (aF ⟨n,rows⟩).length (fun m=>[i64 m,i64 n,rL (Va2 ⟨n,rows⟩ m).rows]) (.yield 1,[i64 n,rL (Va2 ⟨n,rows⟩ (aF ⟨n,rows⟩).length).rows]) rfl (by simp)]
 rotate_left
 ·intro m hm hlt
  have hb:InB (aF ⟨n,rows⟩) (m:Int):=aM.2 hm;obtain⟨hi,aj,he,x0,x1⟩:=aY ht (at_mem hm);have kr:inst n (atI (atI (aF ⟨n,rows⟩) (m:Int)) 0) (atI (atI (aF ⟨n,rows⟩) (m:Int)) 1)=true:=hi.2;have hr:=bG kr;have hrb:InB rows (atI (atI (aF ⟨n,rows⟩) (m:Int)) 0):=dF ht kr;have eW:=Maq ht m (by omega);have mi:=iN ht kr;simp only at mi;have e:Va2 ⟨n,rows⟩ (m+1)=Ea4 (Va2 ⟨n,rows⟩ m) (atI (atI (aF ⟨n,rows⟩) (m:Int)) 0) (atI (atI (aF ⟨n,rows⟩) (m:Int)) 1) (fB ⟨n,rows⟩ (atI (atI (aF ⟨n,rows⟩) (m:Int)) 0) (atI (atI (aF ⟨n,rows⟩) (m:Int)) 1)):=rfl;rw[e];generalize Va2 ⟨n,rows⟩ m=u at eW ⊢;obtain⟨un,us⟩:=u;obtain rfl:un=n:=eW.n;have jt:bA ⟨un,us⟩=true:=eW.ok;have l9:=Ea7 jt;simp only at l9;have hub:InB us (atI (atI (aF ⟨un,rows⟩) (m:Int)) 0):=dF jt kr;have hdl2:(fB ⟨un,rows⟩ (atI (atI (aF ⟨un,rows⟩) (m:Int)) 0) (atI (atI (aF ⟨un,rows⟩) (m:Int)) 1)).attr.deps.length<=10000000000:=by omega
  simp (disch:=first|assumption|omega) only[S0,rA,rQ,rB,rT,rE,aN,dO,yS,hlt];rfl
 ·intro hlt
  simp (disch:=first|assumption|omega) only[S0,rA,rQ,rB,rT,rE,hlt]
 have eW:=Cb9 ht;generalize Va2 ⟨n,rows⟩ (aF ⟨n,rows⟩).length=u at eW ⊢;obtain⟨un,us⟩:=u;obtain rfl:un=n:=eW.n;have jt:bA ⟨un,us⟩=true:=eW.ok;have l9:=Ea7 jt;simp only at l9;have pH:=eW.com ht;have oT:=eW.graph ht;simp only at pH oT;simp (disch:=first|assumption|omega) only[S0,rA,rQ,rB,rT,rE,Eaw,pH,oT,h0];rw[gW (aF ⟨un,rows⟩).length (fun m=>[rL (((aF ⟨un,rows⟩).take m).map (zK ⟨un,rows⟩)),i64 m]) (.yield 3,[rL (yB ⟨un,rows⟩)]) rfl (by simp)]
 rotate_left
 ·intro m hm hlt
  have hb:InB (aF ⟨un,rows⟩) (m:Int):=aM.2 hm;obtain⟨hi,aj,he,x0,x1⟩:=aY ht (at_mem hm);have kr:inst un (atI (atI (aF ⟨un,rows⟩) (m:Int)) 0) (atI (atI (aF ⟨un,rows⟩) (m:Int)) 1)=true:=hi.2;have hr:=bG kr;have hrb:InB us (atI (atI (aF ⟨un,rows⟩) (m:Int)) 0):=dF jt kr;have hsq:=Baj ht hi
  have htr:fB ⟨un,us⟩ (atI (atI (aF ⟨un,rows⟩) (m:Int)) 0) (atI (atI (aF ⟨un,rows⟩) (m:Int)) 1)=fB ⟨un,rows⟩ (atI (atI (aF ⟨un,rows⟩) (m:Int)) 0) (atI (atI (aF ⟨un,rows⟩) (m:Int)) 1):=by
   rw[eW.row _ _ kr,if_pos (by rw[<- he];exact at_mem hm)]
  have oS:(((aF ⟨un,rows⟩).take m).map (zK ⟨un,rows⟩)).length<=30:=by rw[Rbh,Rbq];omega
  have ek:((aF ⟨un,rows⟩).take (m+1)).map (zK ⟨un,rows⟩)=((aF ⟨un,rows⟩).take m).map (zK ⟨un,rows⟩)++[zK ⟨un,rows⟩ (atI (aF ⟨un,rows⟩) (m:Int))]:=by rw[<- take_at hm,Sbr];rfl
  rw[ek];have a1:(((aF ⟨un,rows⟩).take m).map (zK ⟨un,rows⟩)).length+([zK ⟨un,rows⟩ (atI (aF ⟨un,rows⟩) (m:Int))]:List Int).length<=100000000000:=by simp only[Rbe,Rbk];omega
  have ek2:100*(fB ⟨un,rows⟩ (atI (atI (aF ⟨un,rows⟩) (m:Int)) 0) (atI (atI (aF ⟨un,rows⟩) (m:Int)) 1)).attr.seq+10*atI (atI (aF ⟨un,rows⟩) (m:Int)) 0+atI (atI (aF ⟨un,rows⟩) (m:Int)) 1=zK ⟨un,rows⟩ (atI (aF ⟨un,rows⟩) (m:Int)):=rfl;simp (disch:=first|assumption|omega) only[S0,rA,rQ,rB,rT,rE,aN,lQ,dY,Ea9,dO,htr,ek2,hlt]
 ·intro hlt
  rw[Rb5];simp (disch:=first|assumption|omega) only[S0,rA,rQ,rB,rT,rE,hlt];rfl
 have fN:=Lab ⟨un,rows⟩;simp (disch:=first|assumption|omega) only[S0,rA,rQ,rB,rT,rE,Ua8,h0];have eJ:kD (gM ⟨un,rows⟩) (yB ⟨un,rows⟩)=pQ ⟨un,rows⟩:=rfl;have mT:(pQ ⟨un,rows⟩).Nodup:=vJ c5 _;have est:rL (aF ⟨un,rows⟩)=hsD (aF ⟨un,rows⟩) (fun j=>kQ ((pQ ⟨un,rows⟩).take 0) j):=(Ibg _ fun j _=>rfl).symm;rw[eJ];generalize hE:Er T (Tm.loop _ _) _=E
 obtain⟨r,h1,h3⟩:∃ r,E=some r/\r=(.yield 5,[rL (uJ ⟨un,rows⟩)]):=by
  refine⟨_,?_,rfl⟩;rw[<- hE];rw[gW (pQ ⟨un,rows⟩).length (fun m=>[hsD (aF ⟨un,rows⟩) (fun j=>kQ ((pQ ⟨un,rows⟩).take m) j),rL (((pQ ⟨un,rows⟩).take m).map fun j=>atI (aF ⟨un,rows⟩) j),i64 m]) (.yield 5,[rL (uJ ⟨un,rows⟩)]) (by rw[<- est];rfl) (by simp)]
  ·intro m hm hlt
   have hb:InB (pQ ⟨un,rows⟩) (m:Int):=aM.2 hm;have pb:=Gaq (at_mem hm);have oS:(((pQ ⟨un,rows⟩).take m).map fun j=>atI (aF ⟨un,rows⟩) j).length<=30:=by rw[Rbh,Rbq];omega
   have ek:((pQ ⟨un,rows⟩).take (m+1)).map (fun j=>atI (aF ⟨un,rows⟩) j)=((pQ ⟨un,rows⟩).take m).map (fun j=>atI (aF ⟨un,rows⟩) j)++[atI (aF ⟨un,rows⟩) (atI (pQ ⟨un,rows⟩) (m:Int))]:=by rw[<- take_at hm,Sbr];rfl
   have a1:(((pQ ⟨un,rows⟩).take m).map fun j=>atI (aF ⟨un,rows⟩) j).length+([atI (aF ⟨un,rows⟩) (atI (pQ ⟨un,rows⟩) (m:Int))]:List (List Int)).length<=100000000000:=by simp only[Rbe,Rbk];omega
   have cU:kQ ((pQ ⟨un,rows⟩).take m) (atI (pQ ⟨un,rows⟩) (m:Int))=false:=by
    rw[<- Bool.not_eq_true,mM];intro bq;obtain⟨i,hi,e⟩:=List.mem_iff_getElem.1 bq;rw[Rbq]at hi;rw[Tbx,aV hm]at e;have:=(List.getElem_inj mT).1 e;omega
   have ep:(fun j=>kQ ((pQ ⟨un,rows⟩).take (m+1)) j)=fun j=>kQ ((pQ ⟨un,rows⟩).take m) j||j==atI (pQ ⟨un,rows⟩) (m:Int):=funext fun j=>Taf hm j
   have q1:aR.inb.run [hsD (aF ⟨un,rows⟩) (fun j=>kQ ((pQ ⟨un,rows⟩).take m) j),i64 (atI (pQ ⟨un,rows⟩) (m:Int))]=some []:=Fbc pb;have q2:(aR.row 1 0 [false]).run [hsD (aF ⟨un,rows⟩) (fun j=>kQ ((pQ ⟨un,rows⟩).take m) j),i64 (atI (pQ ⟨un,rows⟩) (m:Int))]=some [rL (atI (aF ⟨un,rows⟩) (atI (pQ ⟨un,rows⟩) (m:Int)))]:=Fbb pb cU;have q3:(aR.set 1 0 1).run [hsD (aF ⟨un,rows⟩) (fun j=>kQ ((pQ ⟨un,rows⟩).take m) j),i64 (atI (pQ ⟨un,rows⟩) (m:Int)),.hole]=some [hsD (aF ⟨un,rows⟩) (fun j=>kQ ((pQ ⟨un,rows⟩).take (m+1)) j)]:=by rw[ep];exact Bb3 pb
   rw[ek];simp (disch:=first|assumption|omega) only[S0,rA,rQ,rB,rT,rE,aN,lQ,dY,q1,q2,q3,hlt]
  ·intro hlt
   rw[Rb5];simp (disch:=first|assumption|omega) only[S0,rA,rQ,rB,rT,rE,hlt];rfl
 subst h3;rw[h1];simp (disch:=first|assumption|omega) only[S0,rA,rQ,rB,rT,rE]
theorem Nap (n:Int)(rows:List (List bT))(hs:iM rows):Fun T 103 [i64 n,rL rows]=some [rL (nG ⟨n,rows⟩).1,.bool (nG ⟨n,rows⟩).2]:=by
 rw[aS (t:=Ab3) rfl];unfold Ab3;unfold nG
 cases ht:bA ⟨n,rows⟩
 ·simp (disch:=first|assumption|omega) only[S0,rA,rQ,rB,rT,rE,iF,ht,Iab,Qb4]
 ·simp (disch:=first|assumption|omega) only[S0,rA,rQ,rB,rT,rE,iF,Nal,ht]
theorem Da8 (n:Int)(rows:List (List bT))(hs:iM rows):Fun T 70 [i64 n,rL rows]=some [rL (nG ⟨n,rows⟩).1,.bool (nG ⟨n,rows⟩).2]:=by
 rw[aS (t:=Jbw) rfl];unfold Jbw;unfold nG
 cases ht:bA ⟨n,rows⟩
 ·simp (disch:=first|assumption|omega) only[S0,rA,rQ,rB,rT,rE,bC,ht,Iab,Qb4]
 ·simp (disch:=first|assumption|omega) only[S0,rA,rQ,rB,rT,rE,bC,Eav,ht]
theorem Qal (n:Int)(rows:List (List bT))(eE lh gm gw gr:Int)(rep no:Int)(tS:0<=n)(oa:n<=1000)(hl:(rows.length:Int)<=n)(hs:iM rows)(hc:pU ⟨eE,lh,gm,gw,gr⟩=true)(hr:∀ l∈rows,∀ r∈l,pU r.cmd=true/\r.attr.seq<=1000000):Fun T 10 [i64 n,rL rows,i64 eE,i64 lh,i64 gm,i64 gw,i64 gr,i64 rep,i64 no]=some [i64 (Db3 ⟨n,rows⟩ ⟨eE,lh,gm,gw,gr⟩ rep no).seq,rL (Db3 ⟨n,rows⟩ ⟨eE,lh,gm,gw,gr⟩ rep no).deps]:=by
 rw[aS (t:=Lbi) rfl];unfold Lbi;unfold Db3
 have hq:∀ l∈rows,∀ r∈l,r.attr.seq<=1000000:=fun l h r h2=>(hr l h r h2).2
 have hK:=fun k hk=>Ha6 (t:=⟨n,rows⟩) (c:=⟨eE,lh,gm,gw,gr⟩) (rep:=rep) (no:=no) (M:=1000000) (by omega) k hk hq
 have cj:=hK rows.length (Rbg _);simp only at cj hK;generalize hC:(⟨eE,lh,gm,gw,gr⟩:yY)=C at hc hK cj ⊢;have e0:=uV n tS oa;simp (disch:=first|assumption|omega) only[S0,rA,rQ,rB,rT,rE,e0];rw[gW rows.length (fun k=>[i64 k,i64 (Ra4 ⟨n,rows⟩ C rep no k).seq,rL (Ra4 ⟨n,rows⟩ C rep no k).deps]) (.yield 1,[i64 (Ra4 ⟨n,rows⟩ C rep no rows.length).seq,rL (Ra4 ⟨n,rows⟩ C rep no rows.length).deps]) rfl (by simp)]
 ·simp (disch:=first|assumption|omega) only[S0,rA,rQ,rB,rT,rE]
 ·intro k hk hlt
  have n2:InB rows (k:Int):=aM.2 hk;have hsm:=(hs.2 _ (at_mem hk)).1;have lg:=hr _ (at_mem hk);obtain⟨a1,a2,a3⟩:=hK k (by omega);have eS:Ra4 ⟨n,rows⟩ C rep no (k+1)=Ma3 C rep no k (atI rows (k:Int)) (Ra4 ⟨n,rows⟩ C rep no k) (atI rows (k:Int)).length:=rfl;rw[eS];generalize hL:atI rows (k:Int)=L at hsm lg ⊢;generalize Ra4 ⟨n,rows⟩ C rep no k=A at a1 a2 a3 ⊢;have hI:=fun i hi=>Ha7 (c:=C) (rep:=rep) (no:=no) (k:=k) (l:=L) (M:=1000000) a2 a3 i hi (fun r h=>(lg r h).2)
  simp (disch:=first|assumption|omega) only[S0,rA,rQ,rB,rT,rE,aN,hlt,hL];rw[gW L.length (fun i=>[i64 i,i64 (Ma3 C rep no k L A i).seq,rL (Ma3 C rep no k L A i).deps]) (.yield 3,[i64 (Ma3 C rep no k L A L.length).seq,rL (Ma3 C rep no k L A L.length).deps]) rfl (by simp)]
  ·simp (disch:=first|assumption|omega) only[S0,rA,rQ,rB,rT,rE]
  ·intro i hi mc
   have uo:InB L (i:Int):=aM.2 hi;have nz:=(lg _ (at_mem hi)).1;obtain⟨b1,b2,b3⟩:=hI i (by omega)
   have eI:Ma3 C rep no k L A (i+1)=if Ebh C rep no k i (atI L (i:Int)) then Ma3 C rep no k L A i
    else ⟨max (Ma3 C rep no k L A i).seq (atI L (i:Int)).attr.seq,fQ (Ma3 C rep no k L A i).deps (k:Int) ((i:Int)+1)⟩:=rfl
   rw[eI];generalize hR:atI L (i:Int)=r at nz ⊢;generalize Ma3 C rep no k L A i=B at b1 b2 b3 ⊢;have hbb:InB B.deps (k:Int):=by unfold InB;omega
   subst hC;have tM:=tX eE lh gm gw gr r.cmd.kind r.cmd.id r.cmd.src r.cmd.dst r.cmd.amt hc nz;have eR:(⟨r.cmd.kind,r.cmd.id,r.cmd.src,r.cmd.dst,r.cmd.amt⟩:yY)=r.cmd:=rfl;rw[eR]at tM;unfold Ebh;cases c1:(r.state==0)
   rotate_left
   ·simp (disch:=first|assumption|omega) only[S0,rA,rQ,rB,rT,rE,aN,mc,hR,c1,Bool.true_or]
   cases c2:oP ⟨eE,lh,gm,gw,gr⟩ r.cmd
   ·rw[c2]at tM
    simp (disch:=first|assumption|omega) only[S0,rA,rQ,rB,rT,rE,aN,mc,hR,c1,tM,Ubk,Tb4,Bool.true_or]
   rw[c2]at tM;cases c3:((k:Int)==rep)
   ·simp (disch:=first|assumption|omega) only[S0,rA,rQ,rB,rT,rE,aN,mc,hR,c1,tM,c3,Sb2,Bool.false_and,Tbl,Qb4,Dan,Fa4]
   cases c4:((i:Int)+1==no)
   ·simp (disch:=first|assumption|omega) only[S0,rA,rQ,rB,rT,rE,aN,mc,hR,c1,tM,c3,c4,Sb2,Bool.and_false,Tbl,Qb4,Dan,Fa4]
   ·simp (disch:=first|assumption|omega) only[S0,rA,rQ,rB,rT,rE,aN,mc,hR,c1,tM,c3,c4,Sb2,Sb4,Tb4,Qb4]
  ·intro mc
   simp (disch:=first|assumption|omega) only[S0,rA,rQ,rB,rT,rE,mc]
 ·intro hlt
  simp (disch:=first|assumption|omega) only[S0,rA,rQ,rB,rT,rE,hlt]
theorem Cbu (code:D)(hc:isBytes code)(a s:Int)(h0:0<=a)(h1:a<=1152921504606846976):∃ (c:yY) (a' s':Int),Fun T 8 [code,i64 a,u64 s]=some [i64 c.kind,i64 c.id,i64 c.src,i64 c.dst,i64 c.amt,code,i64 a',u64 s']/\pU c=true/\a<=a'/\a'<=a+10:=by
 rw[aS (t:=tm8) rfl];unfold tm8
 obtain⟨v1,a1,s1,e1,p1,q1,g1,k1⟩:=dA code hc 9 a s h0 (by omega);obtain⟨v2,a2,s2,e2,p2,q2,g2,k2⟩:=dA code hc 4 a1 s1 (by omega) (by omega);obtain⟨v3,a3,s3,e3,p3,q3,g3,k3⟩:=dA code hc 30 a2 s2 (by omega) (by omega);obtain⟨v4,a4,s4,e4,p4,q4,g4,k4⟩:=dA code hc 3 a3 s3 (by omega) (by omega);obtain⟨v5,a5,s5,e5,g5,k5⟩:=zV code hc 4 a4 s4 (by omega) (by omega);have r2:=xA (a:=v2+1+v4) (b:=4) (by omega) (by omega);have q1':=q1 (by omega);have q2':=q2 (by omega);have q3':=q3 (by omega);have q4':=q4 (by omega);have h1:inR (1+v1) 1 999=true:=Law.2 (by omega);have h2:inR v2 0 3=true:=Law.2 (by omega);cases v5
 ·have h3:inR ((v2+1+v4) % 4) 0 3=true:=Law.2 (by omega)
  have h4:inR (1+v3) 1 1000=true:=Law.2 (by omega);have h5:(v2==(v2+1+v4) % 4)=false:=by simp;omega
  simp (disch:=first|assumption|omega) only[S0,rA,rQ,rB,rT,rE,e1,e2,e3,e4,e5,r2];refine⟨⟨_,_,_,_,_⟩,_,_,rfl,?_,by omega,by omega⟩;unfold pU;rw[if_neg (by simp),if_pos (by simp)];simp only[h1,h2,h3,h4,h5];rfl
 ·simp (disch:=first|assumption|omega) only[S0,rA,rQ,rB,rT,rE,e1,e2,e3,e4,e5,r2]
  refine⟨⟨_,_,_,_,_⟩,_,_,rfl,?_,by omega,by omega⟩;unfold pU;rw[if_neg (by simp),if_neg (by simp)];simp only[h1,h2];rfl
theorem Haw (code:D)(hc:isBytes code)(a s:Int)(h0:0<=a)(h1:a<=144115188075855872):∃ (t:aG) (a' s':Int),Fun T 4 [code,i64 a,u64 s]=some [i64 t.n,rL t.rows,code,i64 a',u64 s']/\(0<=t.n/\t.n<=5)/\t.rows.length<=5/\(∀ l∈t.rows,l.length<=5/\∀ r∈l,r.attr.deps.length<=10)/\a<=a'/\a'<=a+4000:=by
 rw[aS (t:=tm4) rfl];unfold tm4
 have e0:=Kab 3 (by omega) (by omega);obtain⟨v1,a1,s1,e1,p1,q1,g1,k1⟩:=dA code hc 9 a s h0 (by omega);have q1':=q1 (by omega);simp (disch:=first|assumption|omega) only[S0,rA,rQ,rB,rT,rE,e0,e1];generalize hE:Er T (Tm.loop _ _) _=E
 have key:∃ q,E=some q/\∃ (rows:List (List bT)) (a' s':Int),q=(.yield 1,[code,i64 a',u64 s',i64 3,rL rows])/\rows.length=3/\(∀ l∈rows,l.length<=4/\∀ r∈l,r.attr.deps.length<=10)/\a<=a'/\a'<=a+1500:=by
  rw[<- hE]
  refine uC (γ:=Nat×Int×Int×List (List bT)) (fun c=>c.1) (fun c=>c.1<=8/\c.2.2.2.length=3/\(∀ l∈c.2.2.2,l.length<=4/\∀ r∈l,r.attr.deps.length<=10/\pU r.cmd=true/\r.attr.seq+c.1<=10)/\a1<=c.2.1/\c.2.1+100*c.1<=a1+900)
   (fun c=>[i64 c.1,code,i64 c.2.1,u64 c.2.2.1,i64 3,rL c.2.2.2]) _ (v1.toNat,a1,s1,[[],[],[]]) ?_ ⟨by simp only;omega,rfl,by intro l hl;simp at hl;rw[hl];simp,by simp only;omega,by simp only;omega⟩ ?_
  ·show [i64 v1,code,i64 a1,u64 s1,i64 3,_]=[i64 ((v1.toNat:Nat):Int),code,i64 a1,u64 s1,i64 3,_]
   rw[show ((v1.toNat:Nat):Int)=v1 by omega];rfl
  rintro⟨m,a2,s2,rows⟩ ⟨h2,h3,h4,h5,h6⟩
  simp only at h2 h3 h4 h5 h6;by_cases hm:0<m
  ·have d:decide (0<(m:Int))=true:=by simpa using hm
   obtain⟨rep,a3,s3,e3,p3,q3,g3,k3⟩:=dA code hc 3 a2 s2 (by omega) (by omega);have q3':=q3 (by omega);have hb:InB rows rep:=by unfold InB;omega
   obtain⟨jx,eN⟩:=h4 _ (dE hb);have hsm:iM rows:=⟨by omega,fun l hl=>⟨by have:=(h4 l hl).1;omega,fun r hr=>by have:=((h4 l hl).2 r hr).1;omega⟩⟩;have em:((m-1:Nat):Int)=(m:Int)-1:=by omega
   left;cases c4:decide (4<((atI rows rep).length:Int)+1)
   rotate_left
   ·refine⟨(m-1,a3,s3,rows),?_,⟨by simp only;omega,h3,fun l hl=>⟨(h4 l hl).1,fun r hr=>by obtain⟨x1,x2,x3⟩:=(h4 l hl).2 r hr;exact⟨x1,x2,by simp only;omega⟩⟩,by simp only;omega,by simp only;omega⟩,by simp only;omega⟩
    simp (disch:=first|assumption|omega) only[S0,rA,rQ,rB,rT,rE,d,e3,aN,c4,em]
   have c4':=of_decide_eq_false c4;obtain⟨c,a5,s5,e5,p5,g5,k5⟩:=Cbu code hc a3 s3 (by omega) (by omega);have e6:=Qal 3 rows c.kind c.id c.src c.dst c.amt rep ((atI rows rep).length+1) (by omega) (by omega) (by omega) hsm p5 (fun l hl r hr=>by obtain⟨x1,x2,x3⟩:=(h4 l hl).2 r hr;exact⟨x2,by omega⟩);obtain⟨z1,z2,z3⟩:=Zaq (t:=⟨3,rows⟩) (c:=c) (rep:=rep) (no:=(atI rows rep).length+1) (M:=10-m) (by omega) (fun l hl r hr=>by obtain⟨x1,x2,x3⟩:=(h4 l hl).2 r hr;omega);have ec:(⟨c.kind,c.id,c.src,c.dst,c.amt⟩:yY)=c:=rfl;rw[ec]at e6;generalize Db3 ⟨3,rows⟩ c rep ((atI rows rep).length+1)=A at e6 z1 z2 z3;simp only at z1;obtain⟨w7,a7,s7,e7,g7,k7⟩:=zV code hc 3 a5 s5 (by omega) (by omega)
   -- oe dependencies, as they may have been changed
   have z8:∃ (ds:List Int) (a8 s8:Int),ds.length=3/\a7<=a8/\a8<=a7+10/\((w7=false/\ds=A.deps/\a8=a7/\s8=s7)\/(w7=true/\∃ k a9 s9 v,Fun T 6 [i64 3,code,i64 a7,u64 s7]=some [i64 k,code,i64 a9,u64 s9]/\Fun T 6 [i64 4,code,i64 a9,u64 s9]=some [i64 v,code,i64 a8,u64 s8]/\InB A.deps k/\ds=fQ A.deps k v)):=by
    cases w7
    ·exact⟨A.deps,a7,s7,z1,by omega,by omega,.inl ⟨rfl,rfl,rfl,rfl⟩⟩
    ·obtain⟨k,a9,s9,e9,p9,q9,g9,k9⟩:=dA code hc 3 a7 s7 (by omega) (by omega)
     obtain⟨v,a8,s8,e8,p8,q8,g8,k8⟩:=dA code hc 4 a9 s9 (by omega) (by omega);have q9':=q9 (by omega);exact⟨fQ A.deps k v,a8,s8,by rw[gB];exact z1,by omega,by omega,.inr ⟨rfl,k,a9,s9,v,e9,e8,by unfold InB;omega,rfl⟩⟩
   obtain⟨ds,a8,s8,y1,y2,y3,a3g⟩:=z8;obtain⟨w10,w4,s10,e10,g10,k10⟩:=zV code hc 5 a8 s8 (by omega) (by omega)
   have rk:∀ (st r9 vA:Int) (t:Option (Kind×List D)),w4<=r9->r9<=w4+10->t=some (.cont,[i64 ((m:Int)-1),code,i64 r9,u64 vA,i64 3,rL (Ea4 ⟨3,rows⟩ rep ((atI rows rep).length+1) ⟨0,0,st,c,⟨A.seq,ds⟩⟩).rows])->∃ c':Nat×Int×Int×List (List bT),t=some (.cont,[i64 c'.1,code,i64 c'.2.1,u64 c'.2.2.1,i64 3,rL c'.2.2.2]) /\
     (c'.1<=8/\c'.2.2.2.length=3/\(∀ l∈c'.2.2.2,l.length<=4/\∀ r∈l,r.attr.deps.length<=10/\pU r.cmd=true/\r.attr.seq+c'.1<=10)/\a1<=c'.2.1/\c'.2.1+100*c'.1<=a1+900)/\c'.1<m:=by
    intro st r9 vA t g11 k11 ht;refine⟨(m-1,r9,vA,(Ea4 ⟨3,rows⟩ rep ((atI rows rep).length+1) ⟨0,0,st,c,⟨A.seq,ds⟩⟩).rows),by rw[ht,<- em],⟨by simp only;omega,by unfold Ea4;simp only[gB];exact h3,?_,by simp only;omega,by simp only;omega⟩,by simp only;omega⟩;intro l hl;unfold Ea4 at hl;simp only at hl
    rcases oN hl with hl|rfl
    ·exact⟨(h4 l hl).1,fun r hr=>by obtain⟨x1,x2,x3⟩:=(h4 l hl).2 r hr;exact⟨x1,x2,by simp only;omega⟩⟩
    ·refine⟨by rw[gB];unfold ext;rw[Qb6,Rbw];omega,fun r hr=>?_⟩
     rcases oN hr with hr|rfl
     ·unfold ext at hr
      rcases List.mem_append.1 hr with hr|hr
      ·obtain⟨x1,x2,x3⟩:=eN r hr;exact⟨x1,x2,by simp only;omega⟩
      ·rw[Sbw hr]
       exact⟨by unfold row0 none0;simp only[Rbw];omega,rfl,by show (0:Int)+((m-1:Nat):Int)<=10;omega⟩
     ·exact⟨by simp only;omega,p5,by simp only;omega⟩
   have pT:=fun st:Int=>Ual 3 rows rep ((atI rows rep).length+1) 0 0 st c.kind c.id c.src c.dst c.amt A.seq ds rfl (by omega) hsm hb (by omega) (by omega) (by omega)
   simp only[ec]at pT;have h3n:∀ r:bT,(Ea4 ⟨3,rows⟩ rep ((atI rows rep).length+1) r).n=3:=fun r=>rfl
   rcases a3g with ⟨rfl,rfl,rfl,rfl⟩|⟨rfl,k,a9,s9,v,e9,e8,n2,rfl⟩
   ·cases w10
    ·refine rk 3 w4 s10 _ (by omega) (by omega) ?_
     simp (disch:=first|assumption|omega) only[S0,rA,rQ,rB,rT,rE,d,e3,aN,c4,em,e5,e6,e7,e10,pT,h3n]
    ·obtain⟨v11,r9,vA,e11,p11,q11,g11,k11⟩:=dA code hc 2 w4 s10 (by omega) (by omega)
     refine rk (1+v11) r9 vA _ (by omega) (by omega) ?_;have a1r:=q11 (by omega);simp (disch:=first|assumption|omega) only[S0,rA,rQ,rB,rT,rE,d,e3,aN,c4,em,e5,e6,e7,e10,e11,pT,h3n]
   ·cases w10
    ·refine rk 3 w4 s10 _ (by omega) (by omega) ?_
     simp (disch:=first|assumption|omega) only[S0,rA,rQ,rB,rT,rE,d,e3,aN,c4,em,e5,e6,e7,e9,e8,Dan,e10,pT,h3n]
    ·obtain⟨v11,r9,vA,e11,p11,q11,g11,k11⟩:=dA code hc 2 w4 s10 (by omega) (by omega)
     refine rk (1+v11) r9 vA _ (by omega) (by omega) ?_;have a1r:=q11 (by omega);simp (disch:=first|assumption|omega) only[S0,rA,rQ,rB,rT,rE,d,e3,aN,c4,em,e5,e6,e7,e9,e8,Dan,e10,e11,pT,h3n]
  ·have d:decide (0<(m:Int))=false:=by simpa using hm
   refine .inr ⟨(.yield 1,[code,i64 a2,u64 s2,i64 3,rL rows]),?_,by simp,rows,a2,s2,rfl,h3,fun l hl=>⟨(h4 l hl).1,fun r hr=>((h4 l hl).2 r hr).1⟩,by omega,by omega⟩;simp (disch:=first|assumption|omega) only[S0,rA,rQ,rB,rT,rE,d]
 obtain⟨q,rfl,rows,a2,s2,rfl,h2,h3,h4,h5⟩:=key;obtain⟨w6,a6,s6,e6,g6,k6⟩:=zV code hc 20 a2 s2 (by omega) (by omega);cases w6
 ·simp (disch:=first|assumption|omega) only[S0,rA,rQ,rB,rT,rE,e6]
  exact⟨⟨_,_⟩,_,_,rfl,by simp only;omega,by simp only;omega,fun l hl=>⟨by have:=(h3 l hl).1;omega,(h3 l hl).2⟩,by omega,by omega⟩
 ·obtain⟨t,a7,s7,e7,t1,t2,t3,g7,k7⟩:=Ya9 code hc a6 s6 (by omega) (by omega)
  simp (disch:=first|assumption|omega) only[S0,rA,rQ,rB,rT,rE,e6,e7];exact⟨t,_,_,rfl,t1,t2,t3,by omega,by omega⟩
theorem Rap (code:D)(hc:isBytes code):∃ (t:aG),Fun T 3 [code]=some [i64 t.n,rL t.rows]/\t.rows.length<=5/\(∀ l∈t.rows,l.length<=5/\∀ r∈l,r.attr.deps.length<=10):=by
 rw[aS (t:=tm3) rfl];unfold tm3
 obtain⟨t,a1,s1,e1,p1,p2,p3,g1,k1⟩:=Haw code hc 0 0 (by omega) (by omega);have u0:D.int .u64 0=u64 0:=rfl;simp (disch:=first|assumption|omega) only[S0,rA,rQ,rB,rT,rE,e1,u0];exact⟨_,rfl,p2,p3⟩
theorem Lao (xs:List (List Int))(x:List Int)(hx:x.length<=1099511627776)(hl:xs.length<=10000000000):Fun T 100 [rL xs,rL x]=some [.bool (xs.any fun y=>decide (x=y))]:=by
 rw[aS (t:=Ab6) rfl];unfold Ab6
 simp (disch:=first|assumption|omega) only[S0,rA,rQ,rB,rT,rE];rw[Bas 1 xs (fun y=>decide (x=y)) (fun _=>[.bool true])]
 ·cases xs.any (fun y=>decide (x=y))<;>simp (disch:=first|assumption|omega) only[S0,rA,rQ,rB,rT,rE]
 ·intro i hi hb hlt hp
  simp (disch:=first|assumption|omega) only[S0,rA,rQ,rB,rT,rE,aN,hlt,Na2,hp]
 ·intro i hi hb hlt hp
  simp (disch:=first|assumption|omega) only[S0,rA,rQ,rB,rT,rE,aN,hlt,Na2,hp]
 ·intro hlt
  simp (disch:=first|assumption|omega) only[S0,rA,rQ,rB,rT,rE,hlt]
theorem Lan (code:D)(hc:isBytes code):∃ v,Fun T 61 [code]=some [i64 v]/\0<=v/\v<1000003:=by
 rw[aS (t:=Jb5) rfl];unfold Jb5
 obtain⟨l1,l2⟩:=Ba9 hc;simp (disch:=first|assumption|omega) only[S0,rA,rQ,rB,rT,rE,l1];generalize hE:Er T (Tm.loop _ _) _=E
 have key:∃ q,E=some q/\∃ v:Int,q=(.yield 1,[i64 v])/\0<=v/\v<1000003:=by
  rw[<- hE];refine uC (γ:=Nat×Int) (fun c=>Pa5 code-c.1) (fun c=>c.1<=Pa5 code/\0<=c.2/\c.2<1000003) (fun c=>[i64 c.2,i64 c.1]) _ (0,0) rfl ⟨Sbq _,by simp,by simp⟩ ?_
  rintro⟨i,h⟩ ⟨h1,h2,h3⟩
  simp only at h1 h2 h3;by_cases hi:i<Pa5 code
  ·obtain⟨b1,b,b2,b3,b4⟩:=bytes_at hc (k:=(i:Int)) (by omega) (by omega)
   have c8:=Waa b3 b4;have d:decide ((i:Int)<((Pa5 code:Nat):Int))=true:=by simpa using hi
   have r2:=xA (a:=31*h+b) (b:=1000003) (by omega) (by omega);have r1:(aR.bin .mul).run [i64 31,i64 h]=some [i64 (31*h)]:=Ea9 (by omega) (by omega);refine .inl ⟨(i+1,(31*h+b) % 1000003),?_,⟨by simp only;omega,by simp only;omega,by simp only;omega⟩,by simp only;omega⟩;simp (disch:=first|assumption|omega) only[S0,rA,rQ,rB,rT,rE,d,b1,b2,c8,r1,r2]
  ·have d:decide ((i:Int)<((Pa5 code:Nat):Int))=false:=by simpa using hi
   refine .inr ⟨(.yield 1,[i64 h]),?_,by simp,h,rfl,h2,h3⟩;simp (disch:=first|assumption|omega) only[S0,rA,rQ,rB,rT,rE,d]
 obtain⟨q,rfl,v,rfl,h1,h2⟩:=key;simp (disch:=first|assumption|omega) only[S0,rA,rQ,rB,rT,rE];exact⟨_,rfl,h1,h2⟩
theorem Rao (code:D)(hc:isBytes code):∃ (t:aG),Fun T 2 [code]=some [i64 t.n,rL t.rows]/\t.rows.length<=5/\(∀ l∈t.rows,l.length<=5/\∀ r∈l,r.attr.deps.length<=10):=by
 rw[aS (t:=tm2) rfl];unfold tm2
 obtain⟨t,e,h1,h2⟩:=Rap code hc;simp (disch:=first|assumption|omega) only[S0,rA,rQ,rB,rT,rE,e];exact⟨t,rfl,h1,h2⟩
theorem Iav (code:D)(hc:isBytes code):∃ (a b:List (List Int)) (t:aG),Fun T 102 [code]=some [rL a,rL b,i64 t.n,rL t.rows]/\(a.length<=30/\b.length<=30/\(∀ x∈a,x.length<=2)/\∀ x∈b,x.length<=2)/\t.rows.length<=5/\(∀ l∈t.rows,l.length<=5/\∀ r∈l,r.attr.deps.length<=10):=by
 rw[aS (t:=Ab4) rfl];unfold Ab4
 obtain⟨⟨n,rows⟩,a1,s1,e1,p1,p2,p3,g1,k1⟩:=Haw code hc 0 0 (by omega) (by omega);simp only at e1 p1 p2 p3;have hs:iM rows:=⟨by omega,fun l hl=>⟨by have:=(p3 l hl).1;omega,fun r hr=>by have:=(p3 l hl).2 r hr;omega⟩⟩;have e2:=Nap n rows hs
 have q2:(nG ⟨n,rows⟩).1.length<=30/\∀ x∈(nG ⟨n,rows⟩).1,x.length<=2:=by
  unfold nG;split
  ·rename_i h
   exact⟨Sb3 (Lac _) (qI h),fun x hx=>by have:=(aY h (sI hx)).1.1;omega⟩
  ·simp
 generalize (nG ⟨n,rows⟩).1=a at e2 q2;generalize (nG ⟨n,rows⟩).2=ok at e2;obtain⟨q1,q2⟩:=q2;have u0:D.int .u64 0=u64 0:=rfl;have z0:(aR.mk 1 0).run []=some [.rows 1 []]:=rfl;cases hl:decide ((1:Int)<(a.length:Int))
 ·simp (disch:=first|assumption|omega) only[S0,rA,rQ,rB,rT,rE,u0,z0,dY,e1,e2,hl]
  exact⟨a,a,⟨n,rows⟩,rfl,⟨q1,q1,q2,q2⟩,p2,p3⟩
 have fq:1<a.length:=by have:=of_decide_eq_true hl;omega
 obtain⟨w,a3,s3,e3,g3,k3⟩:=zV code hc 2 a1 s1 (by omega) (by omega);cases w
 ·simp (disch:=first|assumption|omega) only[S0,rA,rQ,rB,rT,rE,u0,z0,dY,e1,e2,hl,e3]
  exact⟨a,a,⟨n,rows⟩,rfl,⟨q1,q1,q2,q2⟩,p2,p3⟩
 obtain⟨k,a4,s4,e4,j1,j2,g4,k4⟩:=dA code hc ((a.length:Int)-1) a3 s3 (by omega) (by omega);have j2':=j2 (by omega);have hb:InB a k:=by unfold InB;omega
 have dm:InB a (k+1):=by unfold InB;omega
 have pB:InB (fQ a k (atI a (k+1))) (k+1):=by unfold InB;rw[gB];omega
 simp (disch:=first|assumption|omega) only[S0,rA,rQ,rB,rT,rE,u0,z0,dY,e1,e2,hl,e3,e4,aN,Dan];refine⟨a,_,⟨n,rows⟩,rfl,⟨q1,by rw[gB,gB];exact q1,q2,fun x hx=>?_⟩,p2,p3⟩
 rcases oN hx with hx|rfl
 ·rcases oN hx with hx|rfl
  ·exact q2 x hx
  ·exact q2 _ (dE dm)
 ·exact q2 _ (dE hb)
theorem law (code more:D)(hc:isBytes code)(hm:isBytes more):Fun T 0 [code,more]=some [.bool true]:=by
 rw[aS (t:=tm0) rfl];unfold tm0
 obtain⟨b,eb⟩:=Bby code more hc hm;cases b
 rotate_left
 ·simp (disch:=first|assumption|omega) only[S0,rA,rQ,rB,rT,rE,eb]
 have yk:∀ rows:List (List bT),rows.length<=5->(∀ l∈rows,l.length<=5/\∀ r∈l,r.attr.deps.length<=10)->iM rows:=fun rows h1 h2=>⟨by omega,fun l hl=>⟨by have:=(h2 l hl).1;omega,fun r hr=>by have:=(h2 l hl).2 r hr;omega⟩⟩
 obtain⟨⟨n,rows⟩,e1,t1,t2⟩:=Rao code hc;simp only at e1 t1 t2;have hs:=yk _ t1 t2;obtain⟨A,B,⟨un,oy⟩,e2,⟨A1,B1,A2,B2⟩,u1,u2⟩:=Iav more hm;simp only at e2 u1 u2;have l9:=yk _ u1 u2;have f1:=vW A B un oy l9 (by omega) (by omega) (fun x hx=>by have:=A2 x hx;omega) (fun x hx=>by have:=B2 x hx;omega);have f2:=Fa5 A B un oy l9 (by omega) (by omega) (fun x hx=>by have:=A2 x hx;omega) (fun x hx=>by have:=B2 x hx;omega);have rj:∀ z:Bool,(aR.eqb false).run [.bool z,.bool z]=some [.bool true]:=by intro z;cases z<;>rfl
 generalize Bbp A B ⟨un,oy⟩=R at f1 f2;have i1:=La3 n rows hs;have i2:=Ias n rows hs;cases ht:bA ⟨n,rows⟩
 ·have r1:Rae ⟨n,rows⟩=(false,false):=by unfold Rae;rw[ht];rfl
  have r2:Fbp ⟨n,rows⟩=([],false):=by unfold Fbp;rw[ht];rfl
  rw[r1]at i1;rw[r2]at i2;simp only at i1 i2;simp (disch:=first|assumption|omega) only[S0,rA,rQ,rB,rT,rE,eb,e1,i1,i2,e2,f1,f2,rj]
 have r1:Rae ⟨n,rows⟩=(La4 ⟨n,rows⟩,true):=by unfold Rae;rw[ht];rfl
 have r2:Fbp ⟨n,rows⟩=(bO rows,true):=by unfold Fbp;rw[ht];rfl
 rw[r1]at i1;rw[r2]at i2;simp only at i1 i2;cases hh:La4 ⟨n,rows⟩
 ·rw[hh]at i1
  simp (disch:=first|assumption|omega) only[S0,rA,rQ,rB,rT,rE,eb,e1,i1,i2,e2,f1,f2,rj]
 rw[hh]at i1;have cl:=xX ht;simp only at cl;cases hl:decide ((0:Int)<((bO rows).length:Int))
 ·simp (disch:=first|assumption|omega) only[S0,rA,rQ,rB,rT,rE,eb,e1,i1,i2,hl,e2,f1,f2,rj]
 have fq:0<(bO rows).length:=by have:=of_decide_eq_true hl;omega
 obtain⟨v,en,v1,v2⟩:=Lan more hm;have rr:=xA (a:=v) (b:=((bO rows).length:Int)) (by omega) (by omega)
 have hb:InB (bO rows) (v % ((bO rows).length:Int)):=by
  have h1:=Int.emod_nonneg v (show ((bO rows).length:Int)≠0 by omega);have h2:=Int.emod_lt_of_pos v (show (0:Int)<((bO rows).length:Int) by omega);unfold InB;omega
 obtain⟨hx,hxc⟩:=iE ht (dE hb);generalize hX:atI (bO rows) (v % ((bO rows).length:Int))=x at hx hxc;have gg:x.length=2:=hx.1;have hb0:InB x 0:=by unfold InB;omega
 have kf:InB x 1:=by unfold InB;omega
 have l2:(aR.bin .neq).run [i64 ((x.length:Nat):Int),i64 2]=some [.bool false]:=by rw[gg];rfl
 have hg:dK n=true:=aW ht;have j1:=La1 n;have r3:Gbh n=(⟨n,Rbf n.toNat []⟩,true):=by unfold Gbh;rw[hg];rfl
 rw[r3]at j1;simp only at j1;have j2:=Ua9 n (Rbf n.toNat []) 0 1 (Wap n hg);rw[Eb1 hg]at j2
 have j3:=Rad n rows (atI x 0) (atI x 1) (row0 n).ballot (row0 n).vote (row0 n).state (row0 n).cmd.kind (row0 n).cmd.id (row0 n).cmd.src (row0 n).cmd.dst (row0 n).cmd.amt (row0 n).attr.seq (row0 n).attr.deps hs (by
  have:=Cat (Gaf hg) hg;have:=bD hg
  omega)
 have eta:(⟨(row0 n).ballot,(row0 n).vote,(row0 n).state,⟨(row0 n).cmd.kind,(row0 n).cmd.id,(row0 n).cmd.src,(row0 n).cmd.dst,(row0 n).cmd.amt⟩,⟨(row0 n).attr.seq,(row0 n).attr.deps⟩⟩:bT)=row0 n:=rfl;have ls:=Bbx ht hx;simp only at ls;rw[eta,ls]at j3;have hu:=xN ht hx;have hsu:=Ea7 hu;have nu:=Caz ⟨n,rows⟩ x;have same:=Was ht hh hx;have len:=Xan ht hx;have a3r:=Xam ht hx;have oi:=fun y (hy:y∈uJ (kM ⟨n,rows⟩ x))=>(aY hu (sI hy)).1.1
 have ol:=Sb3 (Lac (kM ⟨n,rows⟩ x)) (qI hu);have r5:nG (kM ⟨n,rows⟩ x)=(uJ (kM ⟨n,rows⟩ x),true):=by unfold nG;rw[hu];rfl
 generalize kM ⟨n,rows⟩ x=U at *;obtain⟨m,rws⟩:=U;simp only at nu j3 hsu;subst nu;have j4:=Da8 m rows hs;have r4:nG ⟨m,rows⟩=(uJ ⟨m,rows⟩,true):=by unfold nG;rw[ht];rfl
 rw[r4]at j4;have j5:=Da8 m rws hsu;rw[r5]at j5;simp only at j4 j5;have ol2:=Sb3 (Lac ⟨m,rows⟩) (qI ht);have j6:=vW (uJ ⟨m,rows⟩) (uJ ⟨m,rws⟩) m rows hs (by omega) (by omega) (fun y hy=>by have:=(aY ht (sI hy)).1.1;omega) (fun y hy=>by have:=oi y hy;omega);rw[same]at j6;have j7:=Lao (uJ ⟨m,rws⟩) x (by omega) (by omega);rw[Fal a3r]at j7;have l3:decide (((uJ ⟨m,rows⟩).length:Int)<((uJ ⟨m,rws⟩).length:Int))=false:=by simp;omega
 simp only at j2 j3 j6;simp (disch:=first|assumption|omega) only[S0,rA,rQ,rB,rT,rE,eb,e1,i1,i2,hl,en,rr,aN,hX,l2,j1,j2,j3,j4,j5,j6,j7,l3,e2,f1,f2,rj]
theorem hpure:∀ ds,WTs [.sl 1 [.int .u8],.sl 1 [.int .u8]] ds->∃ n,jJ T n 0 ds=some [.bool true]:=by
 intro ds h;simp only[WTs]at h;obtain⟨d0,r0,rfl,w0,d1,r1,rfl,w1,rfl⟩:=h;exact Ebw (law d0 d1 w0 w1)
end FnSameOrders
end Go.Proofs.YtpgnlmfmlffjcaaGreat
