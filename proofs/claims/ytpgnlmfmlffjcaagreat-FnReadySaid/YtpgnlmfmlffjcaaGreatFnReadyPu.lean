/- What the terms of FnReady come to. -/
import Derived.Test.YtpgnlmfmlffjcaaGreatFnReadyTab
open Bool renaming and_eq_true → Sbu, false_eq_true → Sbv, not_eq_true' → Tbm, beq_eq_decide_eq → Tb1, or_eq_true → Uba, and_assoc → Ubv, true_and → Ubw, or_false → Ubz, not_true → Ub0, and_true → Ub8, eq_iff_iff → Vba, false_and → Vbh, or_true → Vbk, and_eq_false_iff → Vbm, or_eq_false_iff → Vbt, not_false → Vb1, not_eq_false' → Vb6, true_or → Wbc
open Int renaming toNat_natCast → Tbk, toNat_zero → Vbd
open List renaming length_cons → Sbw, length_nil → Sbx, length_append → Sby, replicate → Sb1, append_assoc → Sb3, length_map → Sb5, mem_singleton → Sb9, append_nil → Tbb, length_take → Tbc, take_length → Tbh, length_replicate → Tbq, filter_append → Tbu, length_drop → Tbx, map_append → Tby, filter_nil → Tbz, filter_cons_of_neg → Tb0, nil_append → Tb2, drop_eq_getElem_cons → Tb6, length_filter_le → Ubb, filter_cons_of_pos → Ubc, length_set → Ubn, not_all_eq_any_not → Ubr, length_pos_of_mem → Ubu, replicate_succ' → Vbf, eq_of_mem_replicate → Vbn, mem_of_mem_take → Vbq, mem_append → Vbs, replicate_zero → Vbx, getElem_take → Vby, filter_eq_self → Vb0, drop_zero → Vb3
open Nat renaming le_refl → Sb7, lt_or_ge → Tbi, le_trans → Tbr, zero_le → Ubo, reduceEqDiff → Vbz, reduceAdd → Wbi
namespace Go.Proofs.YtpgnlmfmlffjcaaGreat
namespace FnReady
open Go Go.Proofs.YtpgnlmfmlffjcaaGreat.Rf
open Nat renaming reduceAdd → rA, reduceEqDiff → rQ
open Int renaming reduceBEq → rB, reduceLT → rT, reduceLE → rE
set_option linter.unusedSimpArgs false
set_option linter.unusedVariables false
set_option linter.unnecessarySimpa false
set_option maxHeartbeats 4000000
set_option maxRecDepth 10000
theorem dC (x lo up:Int):Fun T 35 [i64 x,i64 lo,i64 up]=some [.bool (inR x lo up)]:=by
 rw[aJ (t:=Zak) rfl];unfold Zak;unfold inR
 (refine aB ?_;repeat' (refine aA ?_ ?_<;>intro _<;>try simp (disch:=first|assumption|omega) only[S0,rA,rQ,rB,rT,rE, *]))
theorem dR (x lo up:Int):Fun T 67 [i64 x,i64 lo,i64 up]=some [.bool (inR x lo up)]:=by
 rw[aJ (t:=Yas) rfl];unfold Yas;unfold inR
 (refine aB ?_;repeat' (refine aA ?_ ?_<;>intro _<;>try simp (disch:=first|assumption|omega) only[S0,rA,rQ,rB,rT,rE, *]))
theorem fG (n:Int):Fun T 27 [i64 n]=some [.bool (bK n)]:=by
 rw[aJ (t:=Zas) rfl];unfold Zas;unfold bK
 (refine aB ?_;repeat' (refine aA ?_ ?_<;>intro _<;>try simp (disch:=first|assumption|omega) only[S0,rA,rQ,rB,rT,rE, *]))
theorem gG (n:Int):Fun T 65 [i64 n]=some [.bool (bK n)]:=by
 rw[aJ (t:=Yau) rfl];unfold Yau;unfold bK
 (refine aB ?_;repeat' (refine aA ?_ ?_<;>intro _<;>try simp (disch:=first|assumption|omega) only[S0,rA,rQ,rB,rT,rE, *]))
theorem nU (n:Int):Fun T 37 [i64 n]=some [.bool (inR n 0 3)]:=by
 rw[aJ (t:=Zai) rfl];unfold Zai
 (refine aB ?_;repeat' (refine aA ?_ ?_<;>intro _<;>try simp (disch:=first|assumption|omega) only[S0,rA,rQ,rB,rT,rE,dC, *]))
theorem nR (n:Int):Fun T 72 [i64 n]=some [.bool (inR n 0 3)]:=by
 rw[aJ (t:=Yan) rfl];unfold Yan
 (refine aB ?_;repeat' (refine aA ?_ ?_<;>intro _<;>try simp (disch:=first|assumption|omega) only[S0,rA,rQ,rB,rT,rE,dR, *]))
theorem uN (k i f t a:Int):Fun T 71 [i64 k,i64 i,i64 f,i64 t,i64 a]=some [i64 (Bax ⟨k,i,f,t,a⟩)]:=by
 rw[aJ (t:=Yao) rfl];unfold Yao;unfold Bax
 (refine aB ?_;repeat' (refine aA ?_ ?_<;>intro _<;>try simp (disch:=first|assumption|omega) only[S0,rA,rQ,rB,rT,rE,nR,dR, *]))
theorem rX (k i f t a:Int):Fun T 70 [i64 k,i64 i,i64 f,i64 t,i64 a]=some [.bool (kX ⟨k,i,f,t,a⟩)]:=by
 rw[aJ (t:=Yap) rfl];unfold Yap;unfold kX
 (refine aB ?_;repeat' (refine aA ?_ ?_<;>intro _<;>try simp (disch:=first|assumption|omega) only[S0,rA,rQ,rB,rT,rE,uN,Jau,Rao, *]))
 all_goals (refine Ca4 ?_;simp only[Sbu,Uba,Tbm,Vb6,Vbm,Vbt,Sbv,beq_iff_eq,beq_eq_false_iff_ne,decide_eq_true_eq,decide_eq_false_iff_not,ne_eq]at *;grind)
theorem sG (k i f t a:Int):Fun T 36 [i64 k,i64 i,i64 f,i64 t,i64 a]=some [.bool (kX ⟨k,i,f,t,a⟩)]:=by
 rw[aJ (t:=Zaj) rfl];unfold Zaj;unfold kX
 (refine aB ?_;repeat' (refine aA ?_ ?_<;>intro _<;>try simp (disch:=first|assumption|omega) only[S0,rA,rQ,rB,rT,rE,dC,nU,Jau, *]))
theorem Daw (n rep no:Int)(hg:bK n=true):Fun T 120 [i64 n,i64 rep,i64 no]=some [.bool (inst n rep no)]:=by
 rw[aJ (t:=Ea3) rfl];unfold Ea3;unfold inst
 have hn:=aT hg
 (refine aB ?_;repeat' (refine aA ?_ ?_<;>intro _<;>try simp (disch:=first|assumption|omega) only[S0,rA,rQ,rB,rT,rE,dR, *]))
theorem gK (n rep no:Int):Fun T 113 [i64 n,i64 rep,i64 no]=some [.bool (bK n&&inst n rep no)]:=by
 rw[aJ (t:=Naj) rfl];unfold Naj;unfold inst
 cases hg:bK n
 ·(refine aB ?_;repeat' (refine aA ?_ ?_<;>intro _<;>try simp (disch:=first|assumption|omega) only[S0,rA,rQ,rB,rT,rE,fG, *]))
 have hn:=aT hg
 (refine aB ?_;repeat' (refine aA ?_ ?_<;>intro _<;>try simp (disch:=first|assumption|omega) only[S0,rA,rQ,rB,rT,rE,fG,dC, *]))
theorem wV (xs:List Int)(lo up:Int)(hx:xs.length<=1099511627776):Fun T 74 [rL xs,i64 lo,i64 up]=some [.bool (xs.all fun x=>inR x lo up)]:=by
 rw[aJ (t:=Gbw) rfl];unfold Gbw
 simp (disch:=first|assumption|omega) only[S0,rA,rQ,rB,rT,rE,aI, *]
 rw[Qb0 1 xs (fun x=>inR x lo up) [.bool false]]
 ·(refine aB ?_;repeat' (refine aA ?_ ?_<;>intro _<;>try simp (disch:=first|assumption|omega) only[S0,rA,rQ,rB,rT,rE, *]))
 ·intro i hi hb hl hp
  (refine aB ?_;repeat' (refine aA ?_ ?_<;>intro _<;>try simp (disch:=first|assumption|omega) only[S0,rA,rQ,rB,rT,rE,aI,dR, *]))
 ·intro i hi hb hl hp
  (refine aB ?_;repeat' (refine aA ?_ ?_<;>intro _<;>try simp (disch:=first|assumption|omega) only[S0,rA,rQ,rB,rT,rE,aI,dR, *]))
 ·intro hl
  (refine aB ?_;repeat' (refine aA ?_ ?_<;>intro _<;>try simp (disch:=first|assumption|omega) only[S0,rA,rQ,rB,rT,rE, *]))
theorem uM (n s:Int)(xs:List Int)(hx:xs.length<=1099511627776):Fun T 73 [i64 n,i64 s,rL xs]=some [.bool (nL n ⟨s,xs⟩)]:=by
 rw[aJ (t:=Cb4) rfl];unfold Cb4;unfold nL
 (refine aB ?_;repeat' (refine aA ?_ ?_<;>intro _<;>try simp (disch:=first|assumption|omega) only[S0,rA,rQ,rB,rT,rE,dR,wV, *]))
theorem gN (x:Int):Fun T 41 [i64 x]=some [.bool (!inR x 0 6)]:=by
 rw[aJ (t:=Zae) rfl];unfold Zae
 (refine aB ?_;repeat' (refine aA ?_ ?_<;>intro _<;>try simp (disch:=first|assumption|omega) only[S0,rA,rQ,rB,rT,rE,dC, *]))
theorem pX  (xs:List Int)(hx:xs.length<=1099511627776):Fun T 40 [rL xs]=some [i64 (ixF (fun x=>!inR x 0 6) xs)]:=by
 rw[aJ (t:=Zaf) rfl];unfold Zaf
 simp (disch:=first|assumption|omega) only[S0,rA,rQ,rB,rT,rE,aI, *]
 rw[mP 1 xs (fun x=>!inR x 0 6) (fun i=>[i64 i])]
 ·cases h:xs.any (fun x=>!inR x 0 6)
  ·have e:ixF (fun x=>!inR x 0 6) xs=-1:=by
    have h2:=bJ (fun x=>!inR x 0 6) xs
    rw[h]at h2
    unfold ixF at h2 ⊢
    split at h2<;>simp_all
   rw[e];simp (disch:=first|assumption|omega) only[S0,rA,rQ,rB,rT,rE]
  ·simp (disch:=first|assumption|omega) only[S0,rA,rQ,rB,rT,rE]
 ·intro i hi hb hl hp
  (refine aB ?_;repeat' (refine aA ?_ ?_<;>intro _<;>try simp (disch:=first|assumption|omega) only[S0,rA,rQ,rB,rT,rE,aI,gN, *]))
 ·intro i hi hb hl hp
  (refine aB ?_;repeat' (refine aA ?_ ?_<;>intro _<;>try simp (disch:=first|assumption|omega) only[S0,rA,rQ,rB,rT,rE,aI,gN, *]))
 ·intro hl
  (refine aB ?_;repeat' (refine aA ?_ ?_<;>intro _<;>try simp (disch:=first|assumption|omega) only[S0,rA,rQ,rB,rT,rE, *]))
theorem qG  (xs:List Int)(hx:xs.length<=1099511627776):Fun T 39 [rL xs]=some [.bool (xs.any (fun x=>!inR x 0 6))]:=by
 rw[aJ (t:=Zag) rfl];unfold Zag
 (refine aB ?_;repeat' (refine aA ?_ ?_<;>intro _<;>try simp (disch:=first|assumption|omega) only[S0,rA,rQ,rB,rT,rE,pX,bJ, *]))
theorem qD (n s:Int)(xs:List Int)(hx:xs.length<=1099511627776):Fun T 38 [i64 n,i64 s,rL xs]=some [.bool (bK n&&nL n ⟨s,xs⟩)]:=by
 rw[aJ (t:=Zah) rfl];unfold Zah;unfold nL
 have e:xs.any (fun x=>!inR x 0 6)=!xs.all fun x=>inR x 0 6:=by rw[Ubr]
 (refine aB ?_;repeat' (refine aA ?_ ?_<;>intro _<;>try simp (disch:=first|assumption|omega) only[S0,rA,rQ,rB,rT,rE,fG,dC,qG,e,Bool.not_not, *]))
theorem iO (xs ys:List Int)(hx:xs.length<=1099511627776):Fun T 69 [rL xs,rL ys]=some [.bool (decide (xs=ys))]:=by
 rw[aJ (t:=Yaq) rfl];unfold Yaq
 by_cases hl:ys.length=xs.length
 ·simp (disch:=first|assumption|omega) only[S0,rA,rQ,rB,rT,rE, *]
  rw[Day 1 xs.length (fun i=>decide (atI xs i=atI ys i)) [.bool false],oM hl.symm]
  ·(refine aB ?_;repeat' (refine aA ?_ ?_<;>intro _<;>try simp (disch:=first|assumption|omega) only[S0,rA,rQ,rB,rT,rE, *]))
  ·intro i hi hp
   have hb:InB xs (i:Int):=aG.2 hi
   have hb':InB ys (i:Int):=aG.2 (by omega)
   have h2:decide ((i:Int)<xs.length)=true:=by simp;omega
   have h3:(atI xs i==atI ys i)=true:=by simpa using hp
   (refine aB ?_;repeat' (refine aA ?_ ?_<;>intro _<;>try simp (disch:=first|assumption|omega) only[S0,rA,rQ,rB,rT,rE,aI, *]))
  ·intro i hi hp
   have hb:InB xs (i:Int):=aG.2 hi
   have hb':InB ys (i:Int):=aG.2 (by omega)
   have h2:decide ((i:Int)<xs.length)=true:=by simp;omega
   have h3:(atI xs i==atI ys i)=false:=by simpa using hp
   (refine aB ?_;repeat' (refine aA ?_ ?_<;>intro _<;>try simp (disch:=first|assumption|omega) only[S0,rA,rQ,rB,rT,rE,aI, *]))
  ·have h2:decide ((xs.length:Int)<xs.length)=false:=by simp
   (refine aB ?_;repeat' (refine aA ?_ ?_<;>intro _<;>try simp (disch:=first|assumption|omega) only[S0,rA,rQ,rB,rT,rE, *]))
 ·have hl':((xs.length:Int)==(ys.length:Int))=false:=by simp;omega
  have e:=vF (fun h=>hl h.symm)
  (refine aB ?_;repeat' (refine aA ?_ ?_<;>intro _<;>try simp (disch:=first|assumption|omega) only[S0,rA,rQ,rB,rT,rE, *]))
theorem slices_Equal_int (xs ys:List Int)(hx:xs.length<=1099511627776):Fun T 44 [rL xs,rL ys]=some [.bool (decide (xs=ys))]:=by
 rw[aJ (t:=Zab) rfl];unfold Zab
 by_cases hl:ys.length=xs.length
 ·simp (disch:=first|assumption|omega) only[S0,rA,rQ,rB,rT,rE, *]
  rw[Day 1 xs.length (fun i=>decide (atI xs i=atI ys i)) [.bool false],oM hl.symm]
  ·(refine aB ?_;repeat' (refine aA ?_ ?_<;>intro _<;>try simp (disch:=first|assumption|omega) only[S0,rA,rQ,rB,rT,rE, *]))
  ·intro i hi hp
   have hb:InB xs (i:Int):=aG.2 hi
   have hb':InB ys (i:Int):=aG.2 (by omega)
   have h2:decide ((i:Int)<xs.length)=true:=by simp;omega
   have h3:(atI xs i==atI ys i)=true:=by simpa using hp
   (refine aB ?_;repeat' (refine aA ?_ ?_<;>intro _<;>try simp (disch:=first|assumption|omega) only[S0,rA,rQ,rB,rT,rE,aI, *]))
  ·intro i hi hp
   have hb:InB xs (i:Int):=aG.2 hi
   have hb':InB ys (i:Int):=aG.2 (by omega)
   have h2:decide ((i:Int)<xs.length)=true:=by simp;omega
   have h3:(atI xs i==atI ys i)=false:=by simpa using hp
   (refine aB ?_;repeat' (refine aA ?_ ?_<;>intro _<;>try simp (disch:=first|assumption|omega) only[S0,rA,rQ,rB,rT,rE,aI, *]))
  ·have h2:decide ((xs.length:Int)<xs.length)=false:=by simp
   (refine aB ?_;repeat' (refine aA ?_ ?_<;>intro _<;>try simp (disch:=first|assumption|omega) only[S0,rA,rQ,rB,rT,rE, *]))
 ·have hl':((xs.length:Int)==(ys.length:Int))=false:=by simp;omega
  have e:=vF (fun h=>hl h.symm)
  (refine aB ?_;repeat' (refine aA ?_ ?_<;>intro _<;>try simp (disch:=first|assumption|omega) only[S0,rA,rQ,rB,rT,rE, *]))
theorem pQ (s s':Int)(xs ys:List Int)(hx:xs.length<=1099511627776):Fun T 68 [i64 s,rL xs,i64 s',rL ys]=some [.bool (decide ((⟨s,xs⟩:iN)=⟨s',ys⟩))]:=by
 rw[aJ (t:=Yar) rfl];unfold Yar
 have e:decide ((⟨s,xs⟩:iN)=⟨s',ys⟩)=(s==s'&&decide (xs=ys)):=by simp[iN.mk.injEq,Tb1]
 (refine aB ?_;repeat' (refine aA ?_ ?_<;>intro _<;>try simp (disch:=first|assumption|omega) only[S0,rA,rQ,rB,rT,rE,iO,e, *]))
theorem qB (s s':Int)(xs ys:List Int)(hx:xs.length<=1099511627776):Fun T 43 [i64 s,rL xs,i64 s',rL ys]=some [.bool (decide ((⟨s,xs⟩:iN)=⟨s',ys⟩))]:=by
 rw[aJ (t:=Zac) rfl];unfold Zac
 have e:decide ((⟨s,xs⟩:iN)=⟨s',ys⟩)=(s==s'&&decide (xs=ys)):=by simp[iN.mk.injEq,Tb1]
 (refine aB ?_;repeat' (refine aA ?_ ?_<;>intro _<;>try simp (disch:=first|assumption|omega) only[S0,rA,rQ,rB,rT,rE,slices_Equal_int,e, *]))
theorem gV (n:Int)(hg:bK n=true):Fun T 11 [i64 n]=some [i64 (none0 n).seq,rL (none0 n).deps]:=by
 rw[aJ (t:=Vay) rfl];unfold Vay;unfold none0
 have hn:=aT hg
 (refine aB ?_;repeat' (refine aA ?_ ?_<;>intro _<;>try simp (disch:=first|assumption|omega) only[S0,rA,rQ,rB,rT,rE,pI, *]))
theorem eZ (n:Int)(hg:bK n=true):Fun T 42 [i64 n]=some [i64 (none0 n).seq,rL (none0 n).deps]:=by
 rw[aJ (t:=Zad) rfl];unfold Zad;unfold none0
 have hn:=aT hg
 (refine aB ?_;repeat' (refine aA ?_ ?_<;>intro _<;>try simp (disch:=first|assumption|omega) only[S0,rA,rQ,rB,rT,rE,pI, *]))
theorem wT (n bal vot sta k i f t a sq:Int)(xs:List Int)(hg:bK n=true)(hx:xs.length<=1099511627776) :
  Fun T 66 [i64 n,i64 bal,i64 vot,i64 sta,i64 k,i64 i,i64 f,i64 t,i64 a,i64 sq,rL xs]=some [.bool (rowOk n ⟨bal,vot,sta,⟨k,i,f,t,a⟩,⟨sq,xs⟩⟩)]:=by
 rw[aJ (t:=Yat) rfl];unfold Yat;unfold rowOk
 (refine aB ?_;repeat' (refine aA ?_ ?_<;>intro _<;>try simp (disch:=first|assumption|omega) only[S0,rA,rQ,rB,rT,rE,dR,Jau,gV,pQ,rX,uM, *]))
theorem sF (n bal vot sta k i f t a sq:Int)(xs:List Int)(hg:bK n=true)(hx:xs.length<=1099511627776) :
  Fun T 34 [i64 n,i64 bal,i64 vot,i64 sta,i64 k,i64 i,i64 f,i64 t,i64 a,i64 sq,rL xs]=some [.bool (rowOk n ⟨bal,vot,sta,⟨k,i,f,t,a⟩,⟨sq,xs⟩⟩)]:=by
 rw[aJ (t:=Zal) rfl];unfold Zal;unfold rowOk
 have h1:=@Ran ⟨k,i,f,t,a⟩
 have h2:=Gac hg
 have h3:decide ((⟨sq,xs⟩:iN)=none0 n)=true->nL n ⟨sq,xs⟩=true:=fun h=>by rw[of_decide_eq_true h];exact h2
 (refine aB ?_;repeat' (refine aA ?_ ?_<;>intro _<;>try simp (disch:=first|assumption|omega) only[S0,rA,rQ,rB,rT,rE,dC,Jau,eZ,qB,sG,qD, *]))
 all_goals (refine Ca4 ?_;simp only[Sbu,Uba,Tbm,Vb6,Vbm,Vbt,Sbv,beq_iff_eq,beq_eq_false_iff_ne,decide_eq_true_eq,decide_eq_false_iff_not,ne_eq]at *;grind)
theorem slices_Clone_int (xs:List Int)(hx:xs.length<=10000000000):Fun T 56 [rL xs]=some [rL xs]:=by
 rw[sW (e:=Sba) rfl]
 cases xs with
 |nil=>rfl
 | cons x xs =>
  show Fun (xV [(56,.tm Vax)]) 56 [rL (x::xs)]=_
  rw[aJ (t:=Vax) rfl]
  unfold Vax
  have hx':(x::xs).length<=100000000000:=by omega
  have h0:(aN.mk 1 0).run []=some [.rows 1 []]:=rfl
  have h1:(x::xs).isEmpty=false:=rfl
  simp (disch:=first|assumption|omega) only[SA,SB,SC,SP,SQ,SZ,reduceIte,reduceCtorEq,Wbi,Vbz,Mbx,Eba,h0,h1,bD]
theorem lJ (s:Int)(xs:List Int)(hx:xs.length<=10000000000):Fun T 55 [i64 s,rL xs]=some [i64 s,rL xs]:=by
 rw[aJ (t:=Ya2) rfl];unfold Ya2
 (refine aB ?_;repeat' (refine aA ?_ ?_<;>intro _<;>try simp (disch:=first|assumption|omega) only[S0,rA,rQ,rB,rT,rE,slices_Clone_int, *]))
theorem bR (n:Int)(rows:List (List aY))(hs:bX rows):Fun T 64 [i64 n,rL rows]=some [.bool (aV ⟨n,rows⟩)]:=by
 rw[aJ (t:=Yav) rfl];unfold Yav;unfold aV
 obtain⟨hs1,hs2⟩:=hs
 cases hg:bK n
 ·(refine aB ?_;repeat' (refine aA ?_ ?_<;>intro _<;>try simp (disch:=first|assumption|omega) only[S0,rA,rQ,rB,rT,rE,gG, *]))
 cases hl:(rows.length:Int)==n
 ·(refine aB ?_;repeat' (refine aA ?_ ?_<;>intro _<;>try simp (disch:=first|assumption|omega) only[S0,rA,rQ,rB,rT,rE,gG, *]))
 simp (disch:=first|assumption|omega) only[S0,rA,rQ,rB,rT,rE,gG, *]
 rw[Lby 1 rows (fun l=>l.all (fun r=>rowOk n r)&&decide ((l.length:Int)<=6)) [.bool false]]
 ·(refine aB ?_;repeat' (refine aA ?_ ?_<;>intro _<;>try simp (disch:=first|assumption|omega) only[S0,rA,rQ,rB,rT,rE, *]))
 ·intro i hi hb hlt hm
  obtain⟨hq1,hq2⟩:=hs2 _ hm
  simp (disch:=first|assumption|omega) only[S0,rA,rQ,rB,rT,rE,aI, *]
  rw[Lby 3 (atI rows i) (fun r=>rowOk n r) [.bool false]]
  ·have e:decide (6<((atI rows (i:Int)).length:Int))=!decide (((atI rows (i:Int)).length:Int)<=6):=by
    by_cases h:((atI rows (i:Int)).length:Int)<=6
    ·simp[h]
    ·simp[h];omega
   (refine aB ?_;repeat' (refine aA ?_ ?_<;>intro _<;>try simp (disch:=first|assumption|omega) only[S0,rA,rQ,rB,rT,rE,e, *]))
  ·intro j hj hb2 hlt2 hm2
   have hq3:=hq2 _ hm2
   have hq4:(atI (atI rows (i:Int)) (j:Int)).attr.deps.length<=1099511627776:=by omega
   (refine aB ?_;repeat' (refine aA ?_ ?_<;>intro _<;>try simp (disch:=first|assumption|omega) only[S0,rA,rQ,rB,rT,rE,aI,wT, *]))
  ·intro hl2
   (refine aB ?_;repeat' (refine aA ?_ ?_<;>intro _<;>try simp (disch:=first|assumption|omega) only[S0,rA,rQ,rB,rT,rE, *]))
 ·intro hl2
  (refine aB ?_;repeat' (refine aA ?_ ?_<;>intro _<;>try simp (disch:=first|assumption|omega) only[S0,rA,rQ,rB,rT,rE, *]))
theorem dZ (r_ballot r_vote r_state r_cmd_kind r_cmd_id r_cmd_src r_cmd_dst r_cmd_amt r_attr_seq:Int)(r_attr_deps:(List Int))(n:Int)(rows:List (List aY))(hg:bK n=true)(hx:r_attr_deps.length<=1099511627776):Fun T 33 [i64 r_ballot,i64 r_vote,i64 r_state,i64 r_cmd_kind,i64 r_cmd_id,i64 r_cmd_src,i64 r_cmd_dst,i64 r_cmd_amt,i64 r_attr_seq,rL r_attr_deps,i64 n,rL rows]=some [.bool (!rowOk n ⟨r_ballot,r_vote,r_state,⟨r_cmd_kind,r_cmd_id,r_cmd_src,r_cmd_dst,r_cmd_amt⟩,⟨r_attr_seq,r_attr_deps⟩⟩)]:=by
 rw[aJ (t:=Zam) rfl];unfold Zam
 (refine aB ?_;repeat' (refine aA ?_ ?_<;>intro _<;>try simp (disch:=first|assumption|omega) only[S0,rA,rQ,rB,rT,rE,sF, *]))
theorem lH (n:Int)(rows:List (List aY))(hg:bK n=true)(xs:List aY)(hx:xs.length<=1099511627776)(hq:∀ x∈xs,x.attr.deps.length<=1099511627776):Fun T 32 [rL xs,i64 n,rL rows]=some [i64 (ixF (fun r=>!rowOk n r) xs)]:=by
 rw[aJ (t:=Zan) rfl];unfold Zan
 simp (disch:=first|assumption|omega) only[S0,rA,rQ,rB,rT,rE,aI, *]
 rw[mP 1 xs (fun r=>!rowOk n r) (fun i=>[i64 i])]
 ·cases h:xs.any (fun r=>!rowOk n r)
  ·have e:ixF (fun r=>!rowOk n r) xs=-1:=by
    have h2:=bJ (fun r=>!rowOk n r) xs
    rw[h]at h2
    unfold ixF at h2 ⊢
    split at h2<;>simp_all
   rw[e];simp (disch:=first|assumption|omega) only[S0,rA,rQ,rB,rT,rE]
  ·simp (disch:=first|assumption|omega) only[S0,rA,rQ,rB,rT,rE]
 ·intro i hi hb hl hp
  have hq':=hq _ (at_mem hi)
  try simp only at hq' hp
  (refine aB ?_;repeat' (refine aA ?_ ?_<;>intro _<;>try simp (disch:=first|assumption|omega) only[S0,rA,rQ,rB,rT,rE,aI,dZ, *]))
 ·intro i hi hb hl hp
  have hq':=hq _ (at_mem hi)
  try simp only at hq' hp
  (refine aB ?_;repeat' (refine aA ?_ ?_<;>intro _<;>try simp (disch:=first|assumption|omega) only[S0,rA,rQ,rB,rT,rE,aI,dZ, *]))
 ·intro hl
  (refine aB ?_;repeat' (refine aA ?_ ?_<;>intro _<;>try simp (disch:=first|assumption|omega) only[S0,rA,rQ,rB,rT,rE, *]))
theorem lM (n:Int)(rows:List (List aY))(hg:bK n=true)(xs:List aY)(hx:xs.length<=1099511627776)(hq:∀ x∈xs,x.attr.deps.length<=1099511627776):Fun T 31 [rL xs,i64 n,rL rows]=some [.bool (xs.any (fun r=>!rowOk n r))]:=by
 rw[aJ (t:=Zao) rfl];unfold Zao
 (refine aB ?_;repeat' (refine aA ?_ ?_<;>intro _<;>try simp (disch:=first|assumption|omega) only[S0,rA,rQ,rB,rT,rE,lH,bJ, *]))
theorem fH (l:List aY)(n:Int)(rows:List (List aY))(hg:bK n=true)(hx:l.length<=1099511627776)(hq:∀ x∈l,x.attr.deps.length<=1099511627776):Fun T 30 [rL l,i64 n,rL rows]=some [.bool (decide (6<(l.length:Int))||l.any fun r=>!rowOk n r)]:=by
 rw[aJ (t:=Zap) rfl];unfold Zap
 (refine aB ?_;repeat' (refine aA ?_ ?_<;>intro _<;>try simp (disch:=first|assumption|omega) only[S0,rA,rQ,rB,rT,rE,lM, *]))
theorem nT (n:Int)(rows:List (List aY))(hg:bK n=true)(xs:List (List aY))(hx:xs.length<=1099511627776)(hq:∀ x∈xs,x.length<=1099511627776/\∀ y∈x,y.attr.deps.length<=1099511627776):Fun T 29 [rL xs,i64 n,rL rows]=some [i64 (ixF (fun l=>decide (6<(l.length:Int))||l.any fun r=>!rowOk n r) xs)]:=by
 rw[aJ (t:=Zaq) rfl];unfold Zaq
 simp (disch:=first|assumption|omega) only[S0,rA,rQ,rB,rT,rE,aI, *]
 rw[mP 1 xs (fun l=>decide (6<(l.length:Int))||l.any fun r=>!rowOk n r) (fun i=>[i64 i])]
 ·cases h:xs.any (fun l=>decide (6<(l.length:Int))||l.any fun r=>!rowOk n r)
  ·have e:ixF (fun l=>decide (6<(l.length:Int))||l.any fun r=>!rowOk n r) xs=-1:=by
    have h2:=bJ (fun l=>decide (6<(l.length:Int))||l.any fun r=>!rowOk n r) xs
    rw[h]at h2
    unfold ixF at h2 ⊢
    split at h2<;>simp_all
   rw[e];simp (disch:=first|assumption|omega) only[S0,rA,rQ,rB,rT,rE]
  ·simp (disch:=first|assumption|omega) only[S0,rA,rQ,rB,rT,rE]
 ·intro i hi hb hl hp
  have hq':=hq _ (at_mem hi)
  try simp only at hq' hp
  obtain⟨hq1,hq2⟩:=hq'
  (refine aB ?_;repeat' (refine aA ?_ ?_<;>intro _<;>try simp (disch:=first|assumption|omega) only[S0,rA,rQ,rB,rT,rE,aI,fH, *]))
 ·intro i hi hb hl hp
  have hq':=hq _ (at_mem hi)
  try simp only at hq' hp
  obtain⟨hq1,hq2⟩:=hq'
  (refine aB ?_;repeat' (refine aA ?_ ?_<;>intro _<;>try simp (disch:=first|assumption|omega) only[S0,rA,rQ,rB,rT,rE,aI,fH, *]))
 ·intro hl
  (refine aB ?_;repeat' (refine aA ?_ ?_<;>intro _<;>try simp (disch:=first|assumption|omega) only[S0,rA,rQ,rB,rT,rE, *]))
theorem nY (n:Int)(rows:List (List aY))(hg:bK n=true)(xs:List (List aY))(hx:xs.length<=1099511627776)(hq:∀ x∈xs,x.length<=1099511627776/\∀ y∈x,y.attr.deps.length<=1099511627776):Fun T 28 [rL xs,i64 n,rL rows]=some [.bool (xs.any (fun l=>decide (6<(l.length:Int))||l.any fun r=>!rowOk n r))]:=by
 rw[aJ (t:=Zar) rfl];unfold Zar
 (refine aB ?_;repeat' (refine aA ?_ ?_<;>intro _<;>try simp (disch:=first|assumption|omega) only[S0,rA,rQ,rB,rT,rE,nT,bJ, *]))
theorem bB (n:Int)(rows:List (List aY))(hs:bX rows):Fun T 26 [i64 n,rL rows]=some [.bool (aV ⟨n,rows⟩)]:=by
 rw[aJ (t:=Zat) rfl];unfold Zat;unfold aV
 obtain⟨hs1,hs2⟩:=hs
 have hs3:∀ x∈rows,x.length<=1099511627776/\∀ y∈x,y.attr.deps.length<=1099511627776:=fun x hx=>⟨by have:=(hs2 x hx).1;omega,fun y hy=>by have:=(hs2 x hx).2 y hy;omega⟩
 have e:(rows.any fun l=>decide (6<(l.length:Int))||l.any fun r=>!rowOk n r)=!rows.all fun l=>l.all (fun r=>rowOk n r)&&decide ((l.length:Int)<=6):=by
  rw[Ubr]
  congr 1
  funext l
  rw[<- Ubr,Bool.not_and,Bool.or_comm]
  congr 1
  by_cases h:(l.length:Int)<=6
  ·simp[h]
  ·simp[h];omega
 (refine aB ?_;repeat' (refine aA ?_ ?_<;>intro _<;>try simp (disch:=first|assumption|omega) only[S0,rA,rQ,rB,rT,rE,fG,nY,e,Bool.not_not, *]))
theorem fB (xs:List Int)(hx:xs.length<=10000000000):Fun T 21 [rL xs]=some [rL xs]:=by
 rw[aJ (t:=Zay) rfl];unfold Zay
 have h0:(aN.mk 1 0).run []=some [.rows 1 []]:=rfl
 (refine aB ?_;repeat' (refine aA ?_ ?_<;>intro _<;>try simp (disch:=first|assumption|omega) only[S0,rA,rQ,rB,rT,rE,h0,bD, *]))
theorem nQ (s:Int)(xs:List Int)(hx:xs.length<=10000000000):Fun T 20 [i64 s,rL xs]=some [i64 s,rL xs]:=by
 rw[aJ (t:=Zaz) rfl];unfold Zaz
 (refine aB ?_;repeat' (refine aA ?_ ?_<;>intro _<;>try simp (disch:=first|assumption|omega) only[S0,rA,rQ,rB,rT,rE,fB, *]))
theorem iG (r_ballot r_vote r_state r_cmd_kind r_cmd_id r_cmd_src r_cmd_dst r_cmd_amt r_attr_seq:Int)(r_attr_deps:(List Int))(hx:r_attr_deps.length<=10000000000):Fun T 19 [i64 r_ballot,i64 r_vote,i64 r_state,i64 r_cmd_kind,i64 r_cmd_id,i64 r_cmd_src,i64 r_cmd_dst,i64 r_cmd_amt,i64 r_attr_seq,rL r_attr_deps]=some [i64 r_ballot,i64 r_vote,i64 r_state,i64 r_cmd_kind,i64 r_cmd_id,i64 r_cmd_src,i64 r_cmd_dst,i64 r_cmd_amt,i64 r_attr_seq,rL r_attr_deps]:=by
 rw[aJ (t:=Za0) rfl];unfold Za0
 (refine aB ?_;repeat' (refine aA ?_ ?_<;>intro _<;>try simp (disch:=first|assumption|omega) only[S0,rA,rQ,rB,rT,rE,nQ, *]))
theorem gL (r_ballot r_vote r_state r_cmd_kind r_cmd_id r_cmd_src r_cmd_dst r_cmd_amt r_attr_seq:Int)(r_attr_deps:(List Int))(hx:r_attr_deps.length<=10000000000):Fun T 54 [i64 r_ballot,i64 r_vote,i64 r_state,i64 r_cmd_kind,i64 r_cmd_id,i64 r_cmd_src,i64 r_cmd_dst,i64 r_cmd_amt,i64 r_attr_seq,rL r_attr_deps]=some [i64 r_ballot,i64 r_vote,i64 r_state,i64 r_cmd_kind,i64 r_cmd_id,i64 r_cmd_src,i64 r_cmd_dst,i64 r_cmd_amt,i64 r_attr_seq,rL r_attr_deps]:=by
 rw[aJ (t:=Ya3) rfl];unfold Ya3
 (refine aB ?_;repeat' (refine aA ?_ ?_<;>intro _<;>try simp (disch:=first|assumption|omega) only[S0,rA,rQ,rB,rT,rE,lJ, *]))
theorem fJ (n:Int)(rows:List (List aY))(rep no:Int)(hg:bK n=true)(hs:bX rows)(hb:InB rows rep)(h1:1<=no)(h2:no<=1000):Fun T 79 [i64 n,rL rows,i64 rep,i64 no]=some [i64 (cK ⟨n,rows⟩ rep no).ballot,i64 (cK ⟨n,rows⟩ rep no).vote,i64 (cK ⟨n,rows⟩ rep no).state,i64 (cK ⟨n,rows⟩ rep no).cmd.kind,i64 (cK ⟨n,rows⟩ rep no).cmd.id,i64 (cK ⟨n,rows⟩ rep no).cmd.src,i64 (cK ⟨n,rows⟩ rep no).cmd.dst,i64 (cK ⟨n,rows⟩ rep no).cmd.amt,i64 (cK ⟨n,rows⟩ rep no).attr.seq,rL (cK ⟨n,rows⟩ rep no).attr.deps]:=by
 rw[aJ (t:=Gb1) rfl];unfold Gb1;unfold cK row0
 have hq:=hs.2 _ (bL hb)
 by_cases h:no<=(atI rows rep).length
 ·have h3:decide (((atI rows rep).length:Int)<no)=false:=by simp;omega
  have hb2:InB (atI rows rep) (no-1):=by unfold InB;omega
  have hq2:=hq.2 _ (bL hb2)
  (refine aB ?_;repeat' (refine aA ?_ ?_<;>intro _<;>try simp (disch:=first|assumption|omega) only[S0,rA,rQ,rB,rT,rE,aI,iG, *]))
 ·have h3:decide (((atI rows rep).length:Int)<no)=true:=by simp;omega
  (refine aB ?_;repeat' (refine aA ?_ ?_<;>intro _<;>try simp (disch:=first|assumption|omega) only[S0,rA,rQ,rB,rT,rE,aI,gV, *]))
theorem bA (n:Int)(rows:List (List aY))(rep no:Int)(hg:bK n=true)(hs:bX rows)(hb:InB rows rep)(h1:1<=no)(h2:no<=1000):Fun T 53 [i64 n,rL rows,i64 rep,i64 no]=some [i64 (cK ⟨n,rows⟩ rep no).ballot,i64 (cK ⟨n,rows⟩ rep no).vote,i64 (cK ⟨n,rows⟩ rep no).state,i64 (cK ⟨n,rows⟩ rep no).cmd.kind,i64 (cK ⟨n,rows⟩ rep no).cmd.id,i64 (cK ⟨n,rows⟩ rep no).cmd.src,i64 (cK ⟨n,rows⟩ rep no).cmd.dst,i64 (cK ⟨n,rows⟩ rep no).cmd.amt,i64 (cK ⟨n,rows⟩ rep no).attr.seq,rL (cK ⟨n,rows⟩ rep no).attr.deps]:=by
 rw[aJ (t:=Ya4) rfl];unfold Ya4;unfold cK row0
 have hq:=hs.2 _ (bL hb)
 by_cases h:no<=(atI rows rep).length
 ·have h3:decide (no<=((atI rows rep).length:Int))=true:=by simp;omega
  have hb2:InB (atI rows rep) (no-1):=by unfold InB;omega
  have hq2:=hq.2 _ (bL hb2)
  (refine aB ?_;repeat' (refine aA ?_ ?_<;>intro _<;>try simp (disch:=first|assumption|omega) only[S0,rA,rQ,rB,rT,rE,aI,gL, *]))
 ·have h3:decide (no<=((atI rows rep).length:Int))=false:=by simp;omega
  (refine aB ?_;repeat' (refine aA ?_ ?_<;>intro _<;>try simp (disch:=first|assumption|omega) only[S0,rA,rQ,rB,rT,rE,aI,eZ, *]))
theorem mF (n:Int)(rows:List (List aY))(rep no:Int)(hs:bX rows):Fun T 119 [i64 n,rL rows,i64 rep,i64 no]=some [.bool (aV ⟨n,rows⟩&&inst n rep no)]:=by
 rw[aJ (t:=Ea4) rfl];unfold Ea4
 cases ht:aV ⟨n,rows⟩
 ·(refine aB ?_;repeat' (refine aA ?_ ?_<;>intro _<;>try simp (disch:=first|assumption|omega) only[S0,rA,rQ,rB,rT,rE,bR, *]))
 ·have hg:bK n=true:=aQ ht
  (refine aB ?_;repeat' (refine aA ?_ ?_<;>intro _<;>try simp (disch:=first|assumption|omega) only[S0,rA,rQ,rB,rT,rE,bR,Daw, *]))
theorem Cbh (n:Int)(rows:List (List aY))(rep no:Int)(hs:bX rows):Fun T 115 [i64 n,rL rows,i64 rep,i64 no]=some [i64 (vU ⟨n,rows⟩ rep no).1.ballot,i64 (vU ⟨n,rows⟩ rep no).1.vote,i64 (vU ⟨n,rows⟩ rep no).1.state,i64 (vU ⟨n,rows⟩ rep no).1.cmd.kind,i64 (vU ⟨n,rows⟩ rep no).1.cmd.id,i64 (vU ⟨n,rows⟩ rep no).1.cmd.src,i64 (vU ⟨n,rows⟩ rep no).1.cmd.dst,i64 (vU ⟨n,rows⟩ rep no).1.cmd.amt,i64 (vU ⟨n,rows⟩ rep no).1.attr.seq,rL (vU ⟨n,rows⟩ rep no).1.attr.deps,.bool (vU ⟨n,rows⟩ rep no).2]:=by
 rw[aJ (t:=Ea8) rfl];unfold Ea8;unfold vU Rb1
 cases ht:aV ⟨n,rows⟩
 ·(refine aB ?_;repeat' (refine aA ?_ ?_<;>intro _<;>try simp (disch:=first|assumption|omega) only[S0,rA,rQ,rB,rT,rE,bB,Aam, *]))
 have hg:bK n=true:=aQ ht
 cases hi:inst n rep no
 ·(refine aB ?_;repeat' (refine aA ?_ ?_<;>intro _<;>try simp (disch:=first|assumption|omega) only[S0,rA,rQ,rB,rT,rE,bB,gK,Aam, *]))
 have hb:InB rows rep:=bN ht hi
 have hr:=bE hi
 (refine aB ?_;repeat' (refine aA ?_ ?_<;>intro _<;>try simp (disch:=first|assumption|omega) only[S0,rA,rQ,rB,rT,rE,bB,gK,bA, *]))
theorem wU (n:Int)(hg:bK n=true):Fun T 5 [i64 n]=some [i64 n,rL (Sb1 n.toNat ([]:List aY))]:=by
 rw[aJ (t:=tm5) rfl];unfold tm5
 have hn:=aT hg
 (refine aB ?_;repeat' (refine aA ?_ ?_<;>intro _<;>try simp (disch:=first|assumption|omega) only[S0,rA,rQ,rB,rT,rE,pI, *]))
theorem uC (n:Int)(rows:List (List aY))(hg:bK n=true)(hl:(rows.length:Int)=n)(hs:bX rows):Fun T 18 [i64 n,rL rows]=some [i64 n,rL rows]:=by
 rw[aJ (t:=Za1) rfl];unfold Za1
 obtain⟨hs1,hs2⟩:=hs
 have hn:=aT hg
 have e0:Sb1 n.toNat ([]:List aY)=upto [] rows 0:=by rw[Eav];congr 1;omega
 simp (disch:=first|assumption|omega) only[SA,SB,SC,SP,SQ,SZ,reduceIte,reduceCtorEq,Wbi,Vbz,wU]
 rw[bH rows.length (fun i=>[i64 i,rL (upto [] rows i)]) (.yield 1,[rL rows]) (by rw[e0];rfl) (by simp)]
 ·(refine aB ?_;repeat' (refine aA ?_ ?_<;>intro _<;>try simp (disch:=first|assumption|omega) only[S0,rA,rQ,rB,rT,rE, *]))
 ·intro i hi hlt
  have hb:InB rows (i:Int):=aG.2 hi
  have hq:=hs2 _ (at_mem hi)
  have hu:(upto [] rows i).length=rows.length:=Jaw [] rows (Nat.le_of_lt hi)
  have hbu:InB (upto [] rows i) (i:Int):=aG.2 (by rw[hu];exact hi)
  have hu0:upto [] rows i=dB (upto [] rows i) i ((atI rows (i:Int)).take 0):=by
   have:atI (upto [] rows i) (i:Int)=[]:=by
    unfold upto
    rw[wM,List.getD_eq_getElem?_getD,List.getElem?_append_right (by rw[Tbc];omega),List.getElem?_replicate]
    split<;>rfl
   have h3:=Aay hbu
   rw[this]at h3
   rw[List.take_zero];exact h3.symm
  have hu1:dB (upto [] rows i) i (atI rows (i:Int))=upto [] rows (i+1):=by
   rw[dB]
   exact Jav [] rows (by rw[bC hi];exact List.getElem?_eq_getElem hi)
  obtain⟨hq1,hq2⟩:=hq
  have hr:rows.length<=10:=by omega
  simp (disch:=first|assumption|omega) only[S0,rA,rQ,rB,rT,rE,aI,hlt]
  rw[bH (atI rows (i:Int)).length (fun j=>[i64 j,rL (dB (upto [] rows i) i ((atI rows (i:Int)).take j))]) (.yield 3,[rL (upto [] rows (i+1))]) (by rw[<- hu0];rfl) (by simp)]
  ·clear hu hu0 hu1
   simp (disch:=first|assumption|omega) only[S0,rA,rQ,rB,rT,rE]
  ·intro j hj hlt2
   have hb2:InB (atI rows (i:Int)) (j:Int):=aG.2 hj
   have hq3:=hq2 _ (at_mem hj)
   have ha:atI (dB (upto [] rows i) (i:Int) ((atI rows (i:Int)).take j)) (i:Int)=(atI rows (i:Int)).take j:=by
    have:=iV
    exact this.1 hbu
   have hbs:InB (dB (upto [] rows i) (i:Int) ((atI rows (i:Int)).take j)) (i:Int):=aG.2 (by rw[dB,Ubn,hu];exact hi)
   have hta:=take_at hj
   have hll:((atI rows (i:Int)).take j).length+1<=100000000000:=by rw[Tbc];omega
   have hll2:((atI rows (i:Int)).take j).length+([atI (atI rows (i:Int)) (j:Int)]:List aY).length<=100000000000:=hll
   clear hu hu0 hu1
   simp (disch:=first|assumption|omega) only[S0,rA,rQ,rB,rT,rE,aI,lZ,dK,bD,tJ,iV,iG,hlt2,ha,hta]
  ·intro hlt2
   rw[Tbh]
   clear hu hu0
   (refine aB ?_;repeat' (refine aA ?_ ?_<;>intro _<;>try simp (disch:=first|assumption|omega) only[S0,rA,rQ,rB,rT,rE, *]))
 ·intro hlt
  rw[Jax]
  simp (disch:=first|assumption|omega) only[S0,rA,rQ,rB,rT,rE,hlt]
theorem Bb2 (n:Int)(rows:List (List aY))(rep no:Int)(r_ballot r_vote r_state r_cmd_kind r_cmd_id r_cmd_src r_cmd_dst r_cmd_amt r_attr_seq:Int)(r_attr_deps:(List Int))(hg:bK n=true)(hl:(rows.length:Int)=n)(hs:bX rows)(hb:InB rows rep)(h1:1<=no)(h2:no<=1000)(hx:r_attr_deps.length<=10000000000) :
  Fun T 17 [i64 n,rL rows,i64 rep,i64 no,i64 r_ballot,i64 r_vote,i64 r_state,i64 r_cmd_kind,i64 r_cmd_id,i64 r_cmd_src,i64 r_cmd_dst,i64 r_cmd_amt,i64 r_attr_seq,rL r_attr_deps]=some [i64 (Daa ⟨n,rows⟩ rep no ⟨r_ballot,r_vote,r_state,⟨r_cmd_kind,r_cmd_id,r_cmd_src,r_cmd_dst,r_cmd_amt⟩,⟨r_attr_seq,r_attr_deps⟩⟩).n,rL (Daa ⟨n,rows⟩ rep no ⟨r_ballot,r_vote,r_state,⟨r_cmd_kind,r_cmd_id,r_cmd_src,r_cmd_dst,r_cmd_amt⟩,⟨r_attr_seq,r_attr_deps⟩⟩).rows]:=by
 rw[aJ (t:=Za2) rfl];unfold Za2;unfold Daa
 have hq:=hs.2 _ (bL hb)
 have hq1:=hq.1
 simp (maxSteps:=2000000) (disch:=first|assumption|omega) only[SA,SB,SC,SP,SQ,SZ,reduceIte,reduceCtorEq,Wbi,Vbz,uC,hg,hl]
 rw[sZ (T:=T) (.yield 1,[rL (dB rows rep (ext n (atI rows rep) no))]) (fun j:Nat=>(no-(atI rows rep).length).toNat-j) (fun j=>j<=(no-(atI rows rep).length).toNat) (fun j=>[rL (dB rows rep (atI rows rep++Sb1 j (row0 n)))]) 0 (by rw[Vbx,Tbb,Aay hb];rfl) (by omega) (by simp)]
 ·have hb2:InB (dB rows rep (ext n (atI rows rep) no)) rep:=by unfold InB;rw[dB,Ubn];exact hb
  have ha:atI (dB rows rep (ext n (atI rows rep) no)) rep=ext n (atI rows rep) no:=iV.1 hb
  have hb3:InB (ext n (atI rows rep) no) (no-1):=by unfold InB;rw[Iad (by omega)];omega
  simp (disch:=first|assumption|omega) only[S0,rA,rQ,rB,rT,rE,aI,lZ,iV,iG,ha]
 ·intro j hj
  have hb2:InB (dB rows rep (atI rows rep++Sb1 j (row0 n))) rep:=by unfold InB;rw[dB,Ubn];exact hb
  have ha:atI (dB rows rep (atI rows rep++Sb1 j (row0 n))) rep=atI rows rep++Sb1 j (row0 n):=iV.1 hb
  have hlen:((atI rows rep++Sb1 j (row0 n)).length:Int)=(atI rows rep).length+j:=by simp
  have hrep:(atI rows rep++Sb1 j (row0 n))++[row0 n]=atI rows rep++Sb1 (j+1) (row0 n):=by rw[Sb3,<- Vbf]
  have hll:(atI rows rep++Sb1 j (row0 n)).length+([row0 n]:List aY).length<=100000000000:=by simp only[Sby,Tbq,Sbw,Sbx];omega
  unfold row0 at hrep hll ha hb2 hlen ⊢
  by_cases hc:(atI rows rep).length+j<no
  ·have hc':decide (((atI rows rep).length:Int)+j<no)=true:=by simpa using hc
   refine .inl ⟨j+1,?_,by omega,by omega⟩
   simp (disch:=first|assumption|omega) only[S0,rA,rQ,rB,rT,rE,aI,lZ,dK,bD,tJ,iV,gV,ha,hlen,hc',hrep]
  ·have hc':decide (((atI rows rep).length:Int)+j<no)=false:=by simpa using hc
   have hj2:j=(no-(atI rows rep).length).toNat:=by omega
   refine .inr ?_
   simp (disch:=first|assumption|omega) only[S0,rA,rQ,rB,rT,rE,aI,lZ,dK,bD,tJ,iV,ha,hlen,hc']
   rw[hj2];rfl
theorem nV (n:Int)(rows:List (List aY))(rep no:Int)(r_ballot r_vote r_state r_cmd_kind r_cmd_id r_cmd_src r_cmd_dst r_cmd_amt r_attr_seq:Int)(r_attr_deps:(List Int))(hg:bK n=true)(hs:bX rows)(hb:InB rows rep)(h1:1<=no)(h2:no<=1000)(hx:r_attr_deps.length<=10000000000) :
  Fun T 85 [i64 rep,i64 no,i64 r_ballot,i64 r_vote,i64 r_state,i64 r_cmd_kind,i64 r_cmd_id,i64 r_cmd_src,i64 r_cmd_dst,i64 r_cmd_amt,i64 r_attr_seq,rL r_attr_deps,i64 n,rL rows]=some [i64 (Daa ⟨n,rows⟩ rep no ⟨r_ballot,r_vote,r_state,⟨r_cmd_kind,r_cmd_id,r_cmd_src,r_cmd_dst,r_cmd_amt⟩,⟨r_attr_seq,r_attr_deps⟩⟩).n,rL (Daa ⟨n,rows⟩ rep no ⟨r_ballot,r_vote,r_state,⟨r_cmd_kind,r_cmd_id,r_cmd_src,r_cmd_dst,r_cmd_amt⟩,⟨r_attr_seq,r_attr_deps⟩⟩).rows]:=by
 rw[aJ (t:=Yah) rfl];unfold Yah;unfold Daa
 have hq:=hs.2 _ (bL hb)
 have hq1:=hq.1
 simp (disch:=first|assumption|omega) only[S0,rA,rQ,rB,rT,rE]
 rw[sZ (T:=T) (.yield 1,[rL (dB rows rep (ext n (atI rows rep) no))]) (fun j:Nat=>(no-(atI rows rep).length).toNat-j) (fun j=>j<=(no-(atI rows rep).length).toNat) (fun j=>[rL (dB rows rep (atI rows rep++Sb1 j (row0 n)))]) 0 (by rw[Vbx,Tbb,Aay hb];rfl) (by omega) (by simp)]
 ·have hb2:InB (dB rows rep (ext n (atI rows rep) no)) rep:=by unfold InB;rw[dB,Ubn];exact hb
  have ha:atI (dB rows rep (ext n (atI rows rep) no)) rep=ext n (atI rows rep) no:=iV.1 hb
  have hb3:InB (ext n (atI rows rep) no) (no-1):=by unfold InB;rw[Iad (by omega)];omega
  simp (disch:=first|assumption|omega) only[S0,rA,rQ,rB,rT,rE,aI,lZ,iV,gL,ha]
 ·intro j hj
  have hb2:InB (dB rows rep (atI rows rep++Sb1 j (row0 n))) rep:=by unfold InB;rw[dB,Ubn];exact hb
  have ha:atI (dB rows rep (atI rows rep++Sb1 j (row0 n))) rep=atI rows rep++Sb1 j (row0 n):=iV.1 hb
  have hlen:((atI rows rep++Sb1 j (row0 n)).length:Int)=(atI rows rep).length+j:=by simp
  have hrep:(atI rows rep++Sb1 j (row0 n))++[row0 n]=atI rows rep++Sb1 (j+1) (row0 n):=by rw[Sb3,<- Vbf]
  have hll:(atI rows rep++Sb1 j (row0 n)).length+([row0 n]:List aY).length<=100000000000:=by simp only[Sby,Tbq,Sbw,Sbx];omega
  unfold row0 at hrep hll ha hb2 hlen ⊢
  by_cases hc:(atI rows rep).length+j<no
  ·have hc':decide (((atI rows rep).length:Int)+j<no)=true:=by simpa using hc
   refine .inl ⟨j+1,?_,by omega,by omega⟩
   simp (disch:=first|assumption|omega) only[S0,rA,rQ,rB,rT,rE,aI,lZ,dK,bD,tJ,iV,eZ,ha,hlen,hc',hrep]
  ·have hc':decide (((atI rows rep).length:Int)+j<no)=false:=by simpa using hc
   have hj2:j=(no-(atI rows rep).length).toNat:=by omega
   refine .inr ?_
   simp (disch:=first|assumption|omega) only[S0,rA,rQ,rB,rT,rE,aI,lZ,dK,bD,tJ,iV,ha,hlen,hc']
   rw[hj2];rfl
theorem dN (xs:List Int)(n:Int)(hx:xs.length<=1099511627776):Fun T 15 [rL xs,i64 n]=some [.bool (fE xs n)]:=by
 rw[aJ (t:=Za4) rfl];unfold Za4;unfold fE
 simp (disch:=first|assumption|omega) only[S0,rA,rQ,rB,rT,rE]
 rw[mP 1 xs (fun x=>x==n) (fun _=>[.bool true])]
 ·(refine aB ?_;repeat' (refine aA ?_ ?_<;>intro _<;>try simp (disch:=first|assumption|omega) only[S0,rA,rQ,rB,rT,rE, *]))
 ·intro i hi hb hl hp
  (refine aB ?_;repeat' (refine aA ?_ ?_<;>intro _<;>try simp (disch:=first|assumption|omega) only[S0,rA,rQ,rB,rT,rE,aI, *]))
 ·intro i hi hb hl hp
  (refine aB ?_;repeat' (refine aA ?_ ?_<;>intro _<;>try simp (disch:=first|assumption|omega) only[S0,rA,rQ,rB,rT,rE,aI, *]))
 ·intro hl
  simp (disch:=first|assumption|omega) only[S0,rA,rQ,rB,rT,rE,hl]
theorem slices_Index_int (xs:List Int)(n:Int)(hx:xs.length<=1099511627776):Fun T 91 [rL xs,i64 n]=some [i64 (ixF (fun x=>n==x) xs)]:=by
 rw[aJ (t:=Yac) rfl];unfold Yac
 simp (disch:=first|assumption|omega) only[S0,rA,rQ,rB,rT,rE]
 rw[mP 1 xs (fun x=>n==x) (fun i=>[i64 i])]
 ·cases h:xs.any (fun x=>n==x)
  ·have e:ixF (fun x=>n==x) xs=-1:=by
    have h2:=bJ (fun x=>n==x) xs
    rw[h]at h2
    unfold ixF at h2 ⊢
    split at h2<;>simp_all
   rw[e];simp (disch:=first|assumption|omega) only[S0,rA,rQ,rB,rT,rE]
  ·simp (disch:=first|assumption|omega) only[S0,rA,rQ,rB,rT,rE]
 ·intro i hi hb hl hp
  (refine aB ?_;repeat' (refine aA ?_ ?_<;>intro _<;>try simp (disch:=first|assumption|omega) only[S0,rA,rQ,rB,rT,rE,aI, *]))
 ·intro i hi hb hl hp
  (refine aB ?_;repeat' (refine aA ?_ ?_<;>intro _<;>try simp (disch:=first|assumption|omega) only[S0,rA,rQ,rB,rT,rE,aI, *]))
 ·intro hl
  simp (disch:=first|assumption|omega) only[S0,rA,rQ,rB,rT,rE,hl]
theorem slices_Contains_int (xs:List Int)(n:Int)(hx:xs.length<=1099511627776):Fun T 90 [rL xs,i64 n]=some [.bool (fE xs n)]:=by
 rw[aJ (t:=Vaw) rfl];unfold Vaw
 have e:fE xs n=xs.any fun x=>n==x:=by
  unfold fE
  congr 1
  funext x
  rw[Vba,beq_iff_eq,beq_iff_eq]
  exact eq_comm
 simp (disch:=first|assumption|omega) only[S0,rA,rQ,rB,rT,rE,slices_Index_int,bJ,e]
theorem nC (xs:List Int)(n:Int)(hx:xs.length<=10000000000):Fun T 14 [rL xs,i64 n]=some [rL (Nag xs n)]:=by
 rw[aJ (t:=Za5) rfl];unfold Za5;unfold Nag
 have hk:=Waz xs n
 have h0:(aN.mk 1 0).run []=some [.rows 1 []]:=rfl
 simp (disch:=first|assumption|omega) only[S0,rA,rQ,rB,rT,rE]
 rw[sZ (T:=T) (.yield 1,[i64 (jT xs n:Nat)]) (fun k:Nat=>jT xs n-k) (fun k=>k<=jT xs n) (fun k=>[i64 k]) 0 rfl (by omega) (by simp)]
 ·have l1:(xs.take (jT xs n)).length<=10000000000:=by rw[Tbc];omega
  have l2:(xs.take (jT xs n)).length+([n]:List Int).length<=100000000000:=by simp only[Sbw,Sbx];omega
  have l3:(xs.take (jT xs n)++[n]).length+(xs.drop (jT xs n)).length<=100000000000:=by simp only[Sby,Sbw,Sbx,Tbx];omega
  by_cases h:jT xs n<xs.length
  ·have hb:InB xs (jT xs n:Nat):=aG.2 h
   have h2:decide ((jT xs n:Int)<xs.length)=true:=by simp;omega
   cases h3:atI xs (jT xs n:Nat)==n
   ·simp (disch:=first|assumption|omega) only[S0,rA,rQ,rB,rT,rE,aI,dK,bD,sN,h0,h2,h3,hb,Tbk,Vbd,Vb3,Tbh]
   ·simp (disch:=first|assumption|omega) only[S0,rA,rQ,rB,rT,rE,aI,dK,bD,sN,h0,h2,h3,hb]
  ·have h2:decide ((jT xs n:Int)<xs.length)=false:=by simp;omega
   simp (disch:=first|assumption|omega) only[S0,rA,rQ,rB,rT,rE,aI,dK,bD,sN,h0,h2,Tbk,Vbd,Vb3,Tbh]
 ·intro k hk2
  by_cases h:k<jT xs n
  ·have hb:InB xs (k:Int):=aG.2 (by omega)
   have h2:decide ((k:Int)<xs.length)=true:=by simp;omega
   have h3:decide (atI xs (k:Int)<n)=true:=by simpa using Pa9 h
   refine .inl ⟨k+1,?_,by omega,by omega⟩
   simp (disch:=first|assumption|omega) only[S0,rA,rQ,rB,rT,rE,aI,h2,h3,hb]
  ·obtain rfl:k=jT xs n:=by omega
   refine .inr ?_
   by_cases h4:jT xs n<xs.length
   ·have hb:InB xs (jT xs n:Nat):=aG.2 h4
    have h2:decide ((jT xs n:Int)<xs.length)=true:=by simp;omega
    have h3:decide (atI xs (jT xs n:Nat)<n)=false:=by simpa using Qaa h4
    simp (disch:=first|assumption|omega) only[S0,rA,rQ,rB,rT,rE,aI,h2,h3,hb]
   ·have h2:decide ((jT xs n:Int)<xs.length)=false:=by simp;omega
    simp (disch:=first|assumption|omega) only[S0,rA,rQ,rB,rT,rE,aI,h2]
theorem wI (k i f t a:Int)(hc:kX ⟨k,i,f,t,a⟩=true):Fun T 13 [i64 k,i64 i,i64 f,i64 t,i64 a]=some [rL (oP ⟨k,i,f,t,a⟩)]:=by
 rw[aJ (t:=Za6) rfl];unfold Za6;unfold oP
 obtain⟨hk,hm,hr⟩:=yG hc
 simp only at hk hm hr
 rcases hk with rfl|rfl|rfl
 ·simp (disch:=first|assumption|omega) only[S0,rA,rQ,rB,rT,rE,Aam]
 ·have hne:=(hm rfl).2.2.1
  have l1:([f]:List Int).length<=10000000000:=by simp
  simp (disch:=first|assumption|omega) only[S0,rA,rQ,rB,rT,rE,dK,nC,Sbi hne]
 ·simp (disch:=first|assumption|omega) only[S0,rA,rQ,rB,rT,rE,dK]
theorem Ia7 (k i f t a:Int):Fun T 125 [i64 k,i64 i,i64 f,i64 t,i64 a]=some [rL (oP ⟨k,i,f,t,a⟩)]:=by
 rw[aJ (t:=Eay) rfl];unfold Eay;unfold oP
 have h0:(aN.mk 1 0).run []=some [.rows 1 []]:=rfl
 (refine aB ?_;repeat' (refine aA ?_ ?_<;>intro _<;>try simp (disch:=first|assumption|omega) only[S0,rA,rQ,rB,rT,rE,dK,h0,Aam, *]))
theorem Aac (a_kind a_id a_src a_dst a_amt:Int)(b_kind b_id b_src b_dst b_amt:Int)(ha:kX ⟨a_kind,a_id,a_src,a_dst,a_amt⟩=true)(hb:kX ⟨b_kind,b_id,b_src,b_dst,b_amt⟩=true):Fun T 12 [i64 a_kind,i64 a_id,i64 a_src,i64 a_dst,i64 a_amt,i64 b_kind,i64 b_id,i64 b_src,i64 b_dst,i64 b_amt]=some [.bool (Dal ⟨a_kind,a_id,a_src,a_dst,a_amt⟩ ⟨b_kind,b_id,b_src,b_dst,b_amt⟩)]:=by
 rw[aJ (t:=Za7) rfl];unfold Za7;unfold Dal
 have la:=Cab ⟨a_kind,a_id,a_src,a_dst,a_amt⟩
 have lb:=Cab ⟨b_kind,b_id,b_src,b_dst,b_amt⟩
 have lb':(oP ⟨b_kind,b_id,b_src,b_dst,b_amt⟩).length<=1099511627776:=by omega
 simp (disch:=first|assumption|omega) only[S0,rA,rQ,rB,rT,rE,wI,ha]
 rw[mP 1 (oP ⟨a_kind,a_id,a_src,a_dst,a_amt⟩) (fun k=>fE (oP ⟨b_kind,b_id,b_src,b_dst,b_amt⟩) k) (fun _=>[.bool true])]
 ·(refine aB ?_;repeat' (refine aA ?_ ?_<;>intro _<;>try simp (disch:=first|assumption|omega) only[S0,rA,rQ,rB,rT,rE, *]))
 ·intro i hi hb2 hl hp
  simp (disch:=first|assumption|omega) only[S0,rA,rQ,rB,rT,rE,aI,wI,dN,hb,hb2,hl,hp]
 ·intro i hi hb2 hl hp
  simp (disch:=first|assumption|omega) only[S0,rA,rQ,rB,rT,rE,aI,wI,dN,hb,hb2,hl,hp]
 ·intro hl
  simp (disch:=first|assumption|omega) only[S0,rA,rQ,rB,rT,rE,hl]
theorem Aag (n:Int)(b_kind b_id b_src b_dst b_amt:Int):Fun T 128 [i64 n,i64 b_kind,i64 b_id,i64 b_src,i64 b_dst,i64 b_amt]=some [.bool (fE (oP ⟨b_kind,b_id,b_src,b_dst,b_amt⟩) n)]:=by
 rw[aJ (t:=Pat) rfl];unfold Pat
 have lb:=Cab ⟨b_kind,b_id,b_src,b_dst,b_amt⟩
 have lb':(oP ⟨b_kind,b_id,b_src,b_dst,b_amt⟩).length<=1099511627776:=by omega
 simp (disch:=first|assumption|omega) only[S0,rA,rQ,rB,rT,rE,Ia7,slices_Contains_int]
theorem Nau (b_kind b_id b_src b_dst b_amt:Int)(xs:List Int)(hx:xs.length<=1099511627776):Fun T 127 [rL xs,i64 b_kind,i64 b_id,i64 b_src,i64 b_dst,i64 b_amt]=some [i64 (ixF (fun x=>fE (oP ⟨b_kind,b_id,b_src,b_dst,b_amt⟩) x) xs)]:=by
 rw[aJ (t:=Pau) rfl];unfold Pau
 simp (disch:=first|assumption|omega) only[S0,rA,rQ,rB,rT,rE,aI, *]
 rw[mP 1 xs (fun x=>fE (oP ⟨b_kind,b_id,b_src,b_dst,b_amt⟩) x) (fun i=>[i64 i])]
 ·cases h:xs.any (fun x=>fE (oP ⟨b_kind,b_id,b_src,b_dst,b_amt⟩) x)
  ·have e:ixF (fun x=>fE (oP ⟨b_kind,b_id,b_src,b_dst,b_amt⟩) x) xs=-1:=by
    have h2:=bJ (fun x=>fE (oP ⟨b_kind,b_id,b_src,b_dst,b_amt⟩) x) xs
    rw[h]at h2
    unfold ixF at h2 ⊢
    split at h2<;>simp_all
   rw[e];simp (disch:=first|assumption|omega) only[S0,rA,rQ,rB,rT,rE]
  ·simp (disch:=first|assumption|omega) only[S0,rA,rQ,rB,rT,rE]
 ·intro i hi hb hl hp
  (refine aB ?_;repeat' (refine aA ?_ ?_<;>intro _<;>try simp (disch:=first|assumption|omega) only[S0,rA,rQ,rB,rT,rE,aI,Aag, *]))
 ·intro i hi hb hl hp
  (refine aB ?_;repeat' (refine aA ?_ ?_<;>intro _<;>try simp (disch:=first|assumption|omega) only[S0,rA,rQ,rB,rT,rE,aI,Aag, *]))
 ·intro hl
  (refine aB ?_;repeat' (refine aA ?_ ?_<;>intro _<;>try simp (disch:=first|assumption|omega) only[S0,rA,rQ,rB,rT,rE, *]))
theorem Naz (b_kind b_id b_src b_dst b_amt:Int)(xs:List Int)(hx:xs.length<=1099511627776):Fun T 126 [rL xs,i64 b_kind,i64 b_id,i64 b_src,i64 b_dst,i64 b_amt]=some [.bool (xs.any (fun x=>fE (oP ⟨b_kind,b_id,b_src,b_dst,b_amt⟩) x))]:=by
 rw[aJ (t:=Eax) rfl];unfold Eax
 (refine aB ?_;repeat' (refine aA ?_ ?_<;>intro _<;>try simp (disch:=first|assumption|omega) only[S0,rA,rQ,rB,rT,rE,Nau,bJ, *]))
theorem Naw (a_kind a_id a_src a_dst a_amt:Int)(b_kind b_id b_src b_dst b_amt:Int):Fun T 124 [i64 a_kind,i64 a_id,i64 a_src,i64 a_dst,i64 a_amt,i64 b_kind,i64 b_id,i64 b_src,i64 b_dst,i64 b_amt]=some [.bool (Dal ⟨a_kind,a_id,a_src,a_dst,a_amt⟩ ⟨b_kind,b_id,b_src,b_dst,b_amt⟩)]:=by
 rw[aJ (t:=Eaz) rfl];unfold Eaz;unfold Dal
 have la:=Cab ⟨a_kind,a_id,a_src,a_dst,a_amt⟩
 have la':(oP ⟨a_kind,a_id,a_src,a_dst,a_amt⟩).length<=1099511627776:=by omega
 simp (disch:=first|assumption|omega) only[S0,rA,rQ,rB,rT,rE,Ia7,Naz]
theorem eF (n:Int)(rows:List (List aY))(hs:∀ l∈rows,l.length<=6)(hl:rows.length<=100):Fun T 76 [i64 n,rL rows]=some [rL (aU rows)]:=by
 rw[aJ (t:=Lb5) rfl];unfold Lb5;unfold aU
 simp (disch:=first|assumption|omega) only[S0,rA,rQ,rB,rT,rE]
 rw[bH rows.length (fun k=>[rL (uG rows k),i64 k]) (.yield 1,[rL (uG rows rows.length)]) rfl (by simp)]
 ·simp (disch:=first|assumption|omega) only[S0,rA,rQ,rB,rT,rE]
 ·intro k hk hlt
  have hb:InB rows (k:Int):=aG.2 hk
  have h6:=hs _ (at_mem hk)
  have hln:=kW hs (m:=k) (by omega)
  simp (disch:=first|assumption|omega) only[S0,rA,rQ,rB,rT,rE,aI,hlt]
  rw[bH (atI rows (k:Int)).length (fun i=>[rL (uG rows k++dV (atI rows (k:Int)) k i),i64 i]) (.yield 3,[rL (uG rows (k+1))]) (by show [rL (uG rows k),_]=_;simp[dV,aO.val]) (by simp)]
  ·simp (disch:=first|assumption|omega) only[S0,rA,rQ,rB,rT,rE]
  ·intro i hi hlt2
   have hb2:InB (atI rows (k:Int)) (i:Int):=aG.2 hi
   have hlc:=mU (atI rows (k:Int)) k i
   have hll:(uG rows k++dV (atI rows (k:Int)) k i).length+([[(k:Int),(i:Int)+1]]:List (List Int)).length<=100000000000:=by
    rw[Sby];simp only[Sbw,Sbx];omega
   have e:=kM (atI rows (k:Int)) k i
   cases hst:(atI (atI rows (k:Int)) (i:Int)).state==3
   ·rw[hst]at e
    simp only[Sbv,if_false,Tbb]at e
    simp (disch:=first|assumption|omega) only[S0,rA,rQ,rB,rT,rE,aI,hlt2,hst,e]
   ·rw[hst]at e
    simp only[if_true]at e
    simp (disch:=first|assumption|omega) only[S0,rA,rQ,rB,rT,rE,aI,dK,bD,hlt2,hst,e,<- Sb3]
  ·intro hlt2
   rw[<- sK]
   simp (disch:=first|assumption|omega) only[S0,rA,rQ,rB,rT,rE,hlt2]
 ·intro hlt
  simp (disch:=first|assumption|omega) only[S0,rA,rQ,rB,rT,rE,hlt]
theorem fM (k m:Int)(r_ballot r_vote r_state r_cmd_kind r_cmd_id r_cmd_src r_cmd_dst r_cmd_amt r_attr_seq:Int)(r_attr_deps:(List Int))(out:List (List Int))(hl:out.length<=10000000000):Fun T 48 [i64 k,i64 m,i64 r_ballot,i64 r_vote,i64 r_state,i64 r_cmd_kind,i64 r_cmd_id,i64 r_cmd_src,i64 r_cmd_dst,i64 r_cmd_amt,i64 r_attr_seq,rL r_attr_deps,rL out]=some [rL (out++if r_state==3 then [[k,m]] else [])]:=by
 rw[aJ (t:=Ya7) rfl];unfold Ya7
 have hll:out.length+([[k,m]]:List (List Int)).length<=100000000000:=by simp only[Sbw,Sbx];omega
 cases hst:r_state==3
 ·simp (disch:=first|assumption|omega) only[S0,rA,rQ,rB,rT,rE,hst,Tbb,Sbv]
 ·simp (disch:=first|assumption|omega) only[S0,rA,rQ,rB,rT,rE,dK,bD,hst]
theorem nX (n:Int)(rows:List (List aY))(hs:∀ l∈rows,l.length<=6)(hl:rows.length<=100):Fun T 47 [i64 n,rL rows,.rows 1 []]=some [rL (aU rows)]:=by
 rw[aJ (t:=Ya8) rfl];unfold Ya8;unfold aU
 simp (disch:=first|assumption|omega) only[S0,rA,rQ,rB,rT,rE]
 rw[bH rows.length (fun k=>[i64 k,rL (uG rows k)]) (.yield 1,[rL (uG rows rows.length)]) rfl (by simp)]
 ·simp (disch:=first|assumption|omega) only[S0,rA,rQ,rB,rT,rE]
 ·intro k hk hlt
  have hb:InB rows (k:Int):=aG.2 hk
  have h6:=hs _ (at_mem hk)
  have hln:=kW hs (m:=k) (by omega)
  simp (disch:=first|assumption|omega) only[S0,rA,rQ,rB,rT,rE,aI,hlt]
  rw[bH (atI rows (k:Int)).length (fun i=>[i64 i,rL (uG rows k++dV (atI rows (k:Int)) k i)]) (.yield 3,[rL (uG rows (k+1))]) (by show [_,rL (uG rows k)]=_;simp[dV,aO.val]) (by simp)]
  ·simp (disch:=first|assumption|omega) only[S0,rA,rQ,rB,rT,rE]
  ·intro i hi hlt2
   have hb2:InB (atI rows (k:Int)) (i:Int):=aG.2 hi
   have hlc:=mU (atI rows (k:Int)) k i
   have hll:(uG rows k++dV (atI rows (k:Int)) k i).length<=10000000000:=by
    rw[Sby];omega
   have e:=kM (atI rows (k:Int)) k i
   simp (disch:=first|assumption|omega) only[S0,rA,rQ,rB,rT,rE,aI,fM,hlt2,e,Sb3]
  ·intro hlt2
   rw[<- sK]
   simp (disch:=first|assumption|omega) only[S0,rA,rQ,rB,rT,rE,hlt2]
 ·intro hlt
  simp (disch:=first|assumption|omega) only[S0,rA,rQ,rB,rT,rE,hlt]
theorem bT (n:Int)(rows:List (List aY))(hs:∀ l∈rows,l.length<=6)(hl:rows.length<=100):Fun T 46 [i64 n,rL rows]=some [rL (aU rows)]:=by
 rw[aJ (t:=Ya9) rfl];unfold Ya9
 have h0:(aN.mk 1 0).run []=some [.rows 1 []]:=rfl
 simp (disch:=first|assumption|omega) only[S0,rA,rQ,rB,rT,rE,h0,nX]
theorem Waf (n:Int)(rows:List (List aY))(ht:aV ⟨n,rows⟩=true)(hs:bX rows):Fun T 130 [i64 n,rL rows]=some [.bool (Fba ⟨n,rows⟩)]:=by
 rw[aJ (t:=Gb4) rfl];unfold Gb4;unfold Fba
 have hg:bK n=true:=aQ ht
 have hn:=aT hg
 have hl:(rows.length:Int)=n:=bU ht
 have h6:∀ l∈rows,l.length<=6:=fun l hl=>(bY ht hl).1
 have hl2:rows.length<=100:=by omega
 have hcl:(aU rows).length<=6*rows.length:=kW h6 (Sb7 _)
 simp (disch:=first|assumption|omega) only[S0,rA,rQ,rB,rT,rE,eF]
 rw[Gb9 1 (aU rows).length (fun i=>((aU rows).take i).all fun y=>!Nbq ⟨n,rows⟩ (atI (aU rows) (i:Int)) y) [.bool false]]
 ·(refine aB ?_;repeat' (refine aA ?_ ?_<;>intro _<;>try simp (disch:=first|assumption|omega) only[S0,rA,rQ,rB,rT,rE, *]))
 ·intro i hi hlt
  have hb:InB (aU rows) (i:Int):=aG.2 hi
  obtain⟨x0,x1,-,xi,-⟩:=eQ ht (at_mem hi)
  simp only at xi
  have xr:=bE xi
  have xb:=bN ht xi
  simp only at xb
  have xo:=jX ht xi
  have xc:kX (cK ⟨n,rows⟩ (atI (atI (aU rows) (i:Int)) 0) (atI (atI (aU rows) (i:Int)) 1)).cmd=true:=Ka9 xo
  simp (disch:=first|assumption|omega) only[S0,rA,rQ,rB,rT,rE,aI,sN,hlt,Tbk,Vbd,Vb3]
  rw[Lby 3 ((aU rows).take i) (fun y=>!Nbq ⟨n,rows⟩ (atI (aU rows) (i:Int)) y) [.bool false]]
  ·(refine aB ?_;repeat' (refine aA ?_ ?_<;>intro _<;>try simp (disch:=first|assumption|omega) only[S0,rA,rQ,rB,rT,rE, *]))
  ·intro j hj hb2 hlt2 hm
   have hj3:j<1000:=by rw[Tbc]at hj;omega
   obtain⟨y0,y1,-,yi,-⟩:=eQ ht (Vbq hm)
   simp only at yi
   have yr:=bE yi
   have yb:=bN ht yi
   simp only at yb
   have yo:=jX ht yi
   have yc:kX (cK ⟨n,rows⟩ (atI (atI ((aU rows).take i) (j:Int)) 0) (atI (atI ((aU rows).take i) (j:Int)) 1)).cmd=true:=Ka9 yo
   have d1:=Dau ht xi yi
   have d2:=Dau ht yi xi
   unfold Nbq
   rw[Xaa]
   simp (disch:=first|assumption|omega) only[S0,rA,rQ,rB,rT,rE,aI,fJ,Aac,hlt2]<;>repeat' (refine aA (fun _=>?_) (fun _=>?_)<;>try simp (disch:=first|assumption|omega) only[S0,rA,rQ,rB,rT,rE,aI, *])
  ·intro hlt2
   simp (disch:=first|assumption|omega) only[S0,rA,rQ,rB,rT,rE,hlt2]
 ·intro hlt
  simp (disch:=first|assumption|omega) only[S0,rA,rQ,rB,rT,rE,hlt]
theorem Da7 (n:Int)(rows:List (List aY))(ht:aV ⟨n,rows⟩=true)(hs:bX rows):Fun T 123 [i64 n,rL rows]=some [.bool (Fba ⟨n,rows⟩)]:=by
 rw[aJ (t:=Ea0) rfl];unfold Ea0;unfold Fba
 have hg:bK n=true:=aQ ht
 have hn:=aT hg
 have hl:(rows.length:Int)=n:=bU ht
 have h6:∀ l∈rows,l.length<=6:=fun l hl=>(bY ht hl).1
 have hl2:rows.length<=100:=by omega
 have hcl:(aU rows).length<=6*rows.length:=kW h6 (Sb7 _)
 simp (disch:=first|assumption|omega) only[S0,rA,rQ,rB,rT,rE,bT]
 rw[Gb9 1 (aU rows).length (fun i=>((aU rows).take i).all fun y=>!Nbq ⟨n,rows⟩ (atI (aU rows) (i:Int)) y) [.bool false]]
 ·(refine aB ?_;repeat' (refine aA ?_ ?_<;>intro _<;>try simp (disch:=first|assumption|omega) only[S0,rA,rQ,rB,rT,rE, *]))
 ·intro i hi hlt
  have hb:InB (aU rows) (i:Int):=aG.2 hi
  obtain⟨x0,x1,-,xi,-⟩:=eQ ht (at_mem hi)
  simp only at xi
  have xr:=bE xi
  have xb:=bN ht xi
  simp only at xb
  simp (disch:=first|assumption|omega) only[S0,rA,rQ,rB,rT,rE,aI,sN,hlt,Tbk,Vbd,Vb3]
  rw[Lby 3 ((aU rows).take i) (fun y=>!Nbq ⟨n,rows⟩ (atI (aU rows) (i:Int)) y) [.bool false]]
  ·(refine aB ?_;repeat' (refine aA ?_ ?_<;>intro _<;>try simp (disch:=first|assumption|omega) only[S0,rA,rQ,rB,rT,rE, *]))
  ·intro j hj hb2 hlt2 hm
   have hj3:j<1000:=by rw[Tbc]at hj;omega
   obtain⟨y0,y1,-,yi,-⟩:=eQ ht (Vbq hm)
   simp only at yi
   have yr:=bE yi
   have yb:=bN ht yi
   simp only at yb
   have d1:=Dau ht xi yi
   have d2:=Dau ht yi xi
   unfold Nbq
   simp (disch:=first|assumption|omega) only[S0,rA,rQ,rB,rT,rE,aI,bA,Naw,hlt2]<;>repeat' (refine aA (fun _=>?_) (fun _=>?_)<;>try simp (disch:=first|assumption|omega) only[S0,rA,rQ,rB,rT,rE,aI, *])
  ·intro hlt2
   simp (disch:=first|assumption|omega) only[S0,rA,rQ,rB,rT,rE,hlt2]
 ·intro hlt
  simp (disch:=first|assumption|omega) only[S0,rA,rQ,rB,rT,rE,hlt]
theorem Paz (n:Int)(rows:List (List aY))(hs:bX rows):Fun T 129 [i64 n,rL rows]=some [.bool (Xaf ⟨n,rows⟩).1,.bool (Xaf ⟨n,rows⟩).2]:=by
 rw[aJ (t:=Pas) rfl];unfold Pas;unfold Xaf
 cases ht:aV ⟨n,rows⟩
 ·simp (disch:=first|assumption|omega) only[S0,rA,rQ,rB,rT,rE,bR,ht,Sbv]
 ·simp (disch:=first|assumption|omega) only[S0,rA,rQ,rB,rT,rE,bR,Waf,ht]
theorem Qav (n:Int)(rows:List (List aY))(hs:bX rows):Fun T 122 [i64 n,rL rows]=some [.bool (Xaf ⟨n,rows⟩).1,.bool (Xaf ⟨n,rows⟩).2]:=by
 rw[aJ (t:=Ea1) rfl];unfold Ea1;unfold Xaf
 cases ht:aV ⟨n,rows⟩
 ·simp (disch:=first|assumption|omega) only[S0,rA,rQ,rB,rT,rE,bB,ht,Sbv]
 ·simp (disch:=first|assumption|omega) only[S0,rA,rQ,rB,rT,rE,bB,Da7,ht]
theorem Kay (a b:Int):Fun T 16 [i64 a,i64 b]=some [i64 (max a b)]:=by
 rw[aJ (t:=Za3) rfl];unfold Za3
 by_cases h:b<a
 ·have h2:decide (b<a)=true:=by simpa using h
  rw[Int.max_eq_left (by omega)]
  simp (disch:=first|assumption|omega) only[S0,rA,rQ,rB,rT,rE,h2]
 ·have h2:decide (b<a)=false:=by simpa using h
  rw[Int.max_eq_right (by omega)]
  simp (disch:=first|assumption|omega) only[S0,rA,rQ,rB,rT,rE,h2]
theorem bO (l:List (List Int))(x:List Int)(hl:l.length<=1099511627776)(hx:x.length<=1099511627776):Fun T 80 [rL l,rL x]=some [i64 (iQ l x)]:=by
 rw[aJ (t:=Yam) rfl];unfold Yam;unfold iQ
 simp (disch:=first|assumption|omega) only[S0,rA,rQ,rB,rT,rE]
 rw[mP 1 l (fun y=>decide (x=y)) (fun i=>[i64 i])]
 ·cases h:l.any (fun y=>decide (x=y))
  ·have e:ixF (fun y=>decide (x=y)) l=-1:=by
    have h2:=bJ (fun y=>decide (x=y)) l
    rw[h]at h2
    unfold ixF at h2 ⊢
    split at h2<;>simp_all
   rw[e];simp (disch:=first|assumption|omega) only[S0,rA,rQ,rB,rT,rE]
  ·simp (disch:=first|assumption|omega) only[S0,rA,rQ,rB,rT,rE]
 ·intro i hi hb hlt hp
  simp (disch:=first|assumption|omega) only[S0,rA,rQ,rB,rT,rE,aI,iO,hlt,hp]
 ·intro i hi hb hlt hp
  simp (disch:=first|assumption|omega) only[S0,rA,rQ,rB,rT,rE,aI,iO,hlt,hp]
 ·intro hlt
  simp (disch:=first|assumption|omega) only[S0,rA,rQ,rB,rT,rE,hlt]
theorem dY (y x:List Int)(hx:x.length<=1099511627776):Fun T 61 [rL y,rL x]=some [.bool (decide (x=y))]:=by
 rw[aJ (t:=Yax) rfl];unfold Yax
 simp (disch:=first|assumption|omega) only[S0,rA,rQ,rB,rT,rE,slices_Equal_int]
theorem lG (x:List Int)(hx2:x.length<=1099511627776)(xs:List (List Int))(hx:xs.length<=1099511627776):Fun T 60 [rL xs,rL x]=some [i64 (ixF (fun y=>decide (x=y)) xs)]:=by
 rw[aJ (t:=Yay) rfl];unfold Yay
 simp (disch:=first|assumption|omega) only[S0,rA,rQ,rB,rT,rE,aI, *]
 rw[mP 1 xs (fun y=>decide (x=y)) (fun i=>[i64 i])]
 ·cases h:xs.any (fun y=>decide (x=y))
  ·have e:ixF (fun y=>decide (x=y)) xs=-1:=by
    have h2:=bJ (fun y=>decide (x=y)) xs
    rw[h]at h2
    unfold ixF at h2 ⊢
    split at h2<;>simp_all
   rw[e];simp (disch:=first|assumption|omega) only[S0,rA,rQ,rB,rT,rE]
  ·simp (disch:=first|assumption|omega) only[S0,rA,rQ,rB,rT,rE]
 ·intro i hi hb hl hp
  (refine aB ?_;repeat' (refine aA ?_ ?_<;>intro _<;>try simp (disch:=first|assumption|omega) only[S0,rA,rQ,rB,rT,rE,aI,dY, *]))
 ·intro i hi hb hl hp
  (refine aB ?_;repeat' (refine aA ?_ ?_<;>intro _<;>try simp (disch:=first|assumption|omega) only[S0,rA,rQ,rB,rT,rE,aI,dY, *]))
 ·intro hl
  (refine aB ?_;repeat' (refine aA ?_ ?_<;>intro _<;>try simp (disch:=first|assumption|omega) only[S0,rA,rQ,rB,rT,rE, *]))
theorem lL (x:List Int)(hx2:x.length<=1099511627776)(xs:List (List Int))(hx:xs.length<=1099511627776):Fun T 59 [rL xs,rL x]=some [.bool (xs.any (fun y=>decide (x=y)))]:=by
 rw[aJ (t:=Yaz) rfl];unfold Yaz
 (refine aB ?_;repeat' (refine aA ?_ ?_<;>intro _<;>try simp (disch:=first|assumption|omega) only[S0,rA,rQ,rB,rT,rE,lG,bJ, *]))
theorem dE (l:List (List Int))(x:List Int)(hl:l.length<=1099511627776)(hx:x.length<=1099511627776):Fun T 58 [rL l,rL x]=some [.bool (l.any fun y=>decide (x=y))]:=by
 rw[aJ (t:=Ya0) rfl];unfold Ya0
 simp (disch:=first|assumption|omega) only[S0,rA,rQ,rB,rT,rE,lL]
theorem mE (n:Int)(rows:List (List aY))(rep no:Int)(ht:aV ⟨n,rows⟩=true)(hi:inst n rep no=true)(hs:bX rows):Fun T 78 [i64 n,rL rows,i64 rep,i64 no]=some [rL (xZ ⟨n,rows⟩ rep no)]:=by
 rw[aJ (t:=Gb2) rfl];unfold Gb2;unfold xZ
 have hg:bK n=true:=aQ ht
 have hn:=aT hg
 have hb:InB rows rep:=bN ht hi
 have hr:=bE hi
 have hd:=dQ ht hi
 have h6:=gT (jX ht hi) hg
 simp only at hd
 simp (disch:=first|assumption|omega) only[S0,rA,rQ,rB,rT,rE,fJ]
 generalize (cK ⟨n,rows⟩ rep no).attr.deps=deps at hd h6 ⊢
 have hdl:deps.length<=5:=by omega
 rw[bH deps.length (fun k=>[rL (Jal deps rep no k),i64 k]) (.yield 1,[rL (Jal deps rep no deps.length)]) rfl (by simp)]
 ·simp (disch:=first|assumption|omega) only[S0,rA,rQ,rB,rT,rE]
 ·intro k hk hlt
  have hbk:InB deps (k:Int):=aG.2 hk
  have hq:=h6 _ (at_mem hk)
  have hln:=rR (deps:=deps) (rep:=rep) (no:=no) (fun d hd=>(h6 d hd).2) (m:=k) (by omega)
  simp (disch:=first|assumption|omega) only[S0,rA,rQ,rB,rT,rE,aI,hlt]
  rw[bH (atI deps (k:Int)).toNat (fun i=>[rL (Jal deps rep no k++sJ k rep no i),i64 ((i:Int)+1)]) (.yield 3,[rL (Jal deps rep no (k+1))]) (by show [rL (Jal deps rep no k),_]=_;simp[sJ,aO.val]) (by simp)]
  ·simp (disch:=first|assumption|omega) only[S0,rA,rQ,rB,rT,rE]
  ·intro i hi2 hlt2
   have hlc:=xY (k:Int) rep no i
   have hll:(Jal deps rep no k++sJ (k:Int) rep no i).length+([[(k:Int),(i:Int)+1]]:List (List Int)).length<=100000000000:=by
    rw[Sby];simp only[Sbw,Sbx];omega
   have hle:decide ((i:Int)+1<=atI deps (k:Int))=true:=by simp;omega
   have e:=zS (k:Int) rep no i
   cases h1:(k:Int)==rep
   ·rw[h1]at e
    simp only[Vb1,Wbc,if_true]at e
    simp (disch:=first|assumption|omega) only[S0,rA,rQ,rB,rT,rE,dK,bD,hle,h1,e,<- Sb3]
   ·cases h2:(i:Int)+1==no
    ·rw[h1,h2]at e
     simp only[Vb1,Ub0,Vbk,if_true]at e
     simp (disch:=first|assumption|omega) only[S0,rA,rQ,rB,rT,rE,dK,bD,hle,h1,h2,e,<- Sb3]
    ·rw[h1,h2]at e
     simp only[Ub0,Ubz,Sbv,if_false,Tbb]at e
     simp (disch:=first|assumption|omega) only[S0,rA,rQ,rB,rT,rE,dK,bD,hle,h1,h2,e]
  ·intro hlt2
   have hle:decide ((((atI deps (k:Int)).toNat:Nat):Int)+1<=atI deps (k:Int))=false:=by simp;omega
   rw[<- Ga1]
   simp (disch:=first|assumption|omega) only[S0,rA,rQ,rB,rT,rE,hle]
 ·intro hlt
  simp (disch:=first|assumption|omega) only[S0,rA,rQ,rB,rT,rE,hlt]
theorem mD (n:Int)(rows:List (List aY))(ht:aV ⟨n,rows⟩=true)(hs:bX rows):Fun T 101 [i64 n,rL rows]=some [rL (aU rows),rL (sI ⟨n,rows⟩)]:=by
 rw[aJ (t:=Fai) rfl];unfold Fai;unfold sI
 have hg:bK n=true:=aQ ht
 have hn:=aT hg
 have hl:(rows.length:Int)=n:=bU ht
 have h6:∀ l∈rows,l.length<=6:=fun l hl=>(bY ht hl).1
 have hl2:rows.length<=100:=by omega
 have hcl:(aU rows).length<=6*rows.length:=kW h6 (Sb7 _)
 have hcl2:(aU rows).length<=1099511627776:=by omega
 simp (disch:=first|assumption|omega) only[S0,rA,rQ,rB,rT,rE,eF]
 rw[bH (aU rows).length (fun k=>[rL (iL ⟨n,rows⟩ k),i64 k]) (.yield 1,[rL (iL ⟨n,rows⟩ (aU rows).length)]) rfl (by simp)]
 ·simp (disch:=first|assumption|omega) only[S0,rA,rQ,rB,rT,rE]
 ·intro k hk hlt
  have hb:InB (aU rows) (k:Int):=aG.2 hk
  have hmem:=at_mem hk
  obtain⟨x0,x1,hx2,xi,-⟩:=eQ ht hmem
  simp only at xi
  have hgr:=La3 ht hmem
  simp only at hgr
  have hgs:=rD ⟨n,rows⟩ k
  simp only at hgs
  rw[<- hgr]at hgs
  have hd6:=gT (jX ht xi) hg
  have hdl:=dQ ht xi
  simp only at hdl
  have hdep:(xZ ⟨n,rows⟩ (atI (atI (aU rows) (k:Int)) 0) (atI (atI (aU rows) (k:Int)) 1)).length<=30:=by
   have:=rR (rep:=atI (atI (aU rows) (k:Int)) 0) (no:=atI (atI (aU rows) (k:Int)) 1) (fun d hd=>(hd6 d hd).2) (Sb7 _)
   unfold xZ
   omega
  have hll:(iL ⟨n,rows⟩ k).length+1<=100000000000:=by rw[rF];omega
  simp (disch:=first|assumption|omega) only[S0,rA,rQ,rB,rT,rE,aI,mE,hlt]
  have hys:∀ y∈xZ ⟨n,rows⟩ (atI (atI (aU rows) (k:Int)) 0) (atI (atI (aU rows) (k:Int)) 1),y.length<=1099511627776:=fun y hy=>by
   obtain⟨_,_,_,_,_,rfl⟩:=Caz.1 hy
   simp
  generalize xZ ⟨n,rows⟩ (atI (atI (aU rows) (k:Int)) 0) (atI (atI (aU rows) (k:Int)) 1)=ys at hdep hgs hgr hys ⊢
  rw[bH ys.length (fun i=>[rL (Ja9 (aU rows) ys i),i64 i]) (.yield 3,[rL (Ja9 (aU rows) ys ys.length)]) rfl (by simp)]
  ·have hll2:(iL ⟨n,rows⟩ k).length+([Ja9 (aU rows) ys ys.length]:List (List Int)).length<=100000000000:=hll
   simp (disch:=first|assumption|omega) only[S0,rA,rQ,rB,rT,rE,dK,bD,hgs]
  ·intro i hi hlt2
   have hby:InB ys (i:Int):=aG.2 hi
   have hyl:=hys _ (at_mem hi)
   have hpl:=Ja8 (aU rows) ys i
   have hpl2:(Ja9 (aU rows) ys i).length<=10000000000:=by omega
   rw[xE]
   cases hf:decide (0<=iQ (aU rows) (atI ys (i:Int)))
   ·simp (disch:=first|assumption|omega) only[S0,rA,rQ,rB,rT,rE,aI,bO,hlt2,hf,Sbv]
   ·simp (disch:=first|assumption|omega) only[S0,rA,rQ,rB,rT,rE,aI,bO,nC,hlt2,hf]
  ·intro hlt2
   simp (disch:=first|assumption|omega) only[S0,rA,rQ,rB,rT,rE,hlt2]
 ·intro hlt
  simp (disch:=first|assumption|omega) only[S0,rA,rQ,rB,rT,rE,hlt]
theorem gX (n:Int)(rows:List (List aY))(ht:aV ⟨n,rows⟩=true)(hs:bX rows):Fun T 86 [i64 n,rL rows]=some [rL (aU rows),rL (sI ⟨n,rows⟩)]:=by
 rw[aJ (t:=Yag) rfl];unfold Yag;unfold sI
 have hg:bK n=true:=aQ ht
 have hn:=aT hg
 have hl:(rows.length:Int)=n:=bU ht
 have h6:∀ l∈rows,l.length<=6:=fun l hl=>(bY ht hl).1
 have hl2:rows.length<=100:=by omega
 have hcl:(aU rows).length<=6*rows.length:=kW h6 (Sb7 _)
 have h0:(aN.mk 1 0).run []=some [.rows 1 []]:=rfl
 simp (disch:=first|assumption|omega) only[S0,rA,rQ,rB,rT,rE,bT,h0]
 rw[bH (aU rows).length (fun k=>[rL (iL ⟨n,rows⟩ k),i64 k]) (.yield 1,[rL (iL ⟨n,rows⟩ (aU rows).length)]) rfl (by simp)]
 ·simp (disch:=first|assumption|omega) only[S0,rA,rQ,rB,rT,rE]
 ·intro k hk hlt
  have hb:InB (aU rows) (k:Int):=aG.2 hk
  have hmem:=at_mem hk
  obtain⟨x0,x1,hx2,xi,-⟩:=eQ ht hmem
  simp only at xi
  have xr:=bE xi
  have xb:=bN ht xi
  simp only at xb
  have hxl:(atI (aU rows) (k:Int)).length<=1099511627776:=by omega
  have hgs:=rD ⟨n,rows⟩ k
  simp only at hgs
  have hd:=dQ ht xi
  simp only at hd
  simp (disch:=first|assumption|omega) only[S0,rA,rQ,rB,rT,rE,aI,bA,hlt,h0]
  rw[bH (aU rows).length (fun i=>[rL (sS (aU rows) (cK ⟨n,rows⟩ (atI (atI (aU rows) (k:Int)) 0) (atI (atI (aU rows) (k:Int)) 1)).attr.deps (atI (aU rows) (k:Int)) i),i64 i]) (.yield 3,[rL (sS (aU rows) (cK ⟨n,rows⟩ (atI (atI (aU rows) (k:Int)) 0) (atI (atI (aU rows) (k:Int)) 1)).attr.deps (atI (aU rows) (k:Int)) (aU rows).length)]) rfl (by simp)]
  ·have hll:(iL ⟨n,rows⟩ k).length+1<=100000000000:=by rw[rF];omega
   have hll2:(iL ⟨n,rows⟩ k).length+([sS (aU rows) (cK ⟨n,rows⟩ (atI (atI (aU rows) (k:Int)) 0) (atI (atI (aU rows) (k:Int)) 1)).attr.deps (atI (aU rows) (k:Int)) (aU rows).length]:List (List Int)).length<=100000000000:=hll
   simp (disch:=first|assumption|omega) only[S0,rA,rQ,rB,rT,rE,dK,bD,hgs]
  ·intro i hi hlt2
   have hbi:InB (aU rows) (i:Int):=aG.2 hi
   obtain⟨y0,y1,-,yi,-⟩:=eQ ht (at_mem hi)
   simp only at yi
   have yr:=bE yi
   have hbd:=Dau ht xi yi
   rw[xR]
   unfold Uau
   generalize (cK ⟨n,rows⟩ (atI (atI (aU rows) (k:Int)) 0) (atI (atI (aU rows) (k:Int)) 1)).attr.deps=deps at hbd ⊢
   have hhl:=xS (aU rows) deps (atI (aU rows) (k:Int)) i
   have hll:(sS (aU rows) deps (atI (aU rows) (k:Int)) i).length+([(i:Int)]:List Int).length<=100000000000:=by simp only[Sbw,Sbx];omega
   cases h1:decide (atI (aU rows) (k:Int)=atI (aU rows) (i:Int))
   ·cases h2:decide (atI (atI (aU rows) (i:Int)) 1<=atI deps (atI (atI (aU rows) (i:Int)) 0))
    ·simp (disch:=first|assumption|omega) only[S0,rA,rQ,rB,rT,rE,aI,slices_Equal_int,hlt2,h1,h2,Sbv,Tbb]
    ·simp (disch:=first|assumption|omega) only[S0,rA,rQ,rB,rT,rE,aI,dK,bD,slices_Equal_int,hlt2,h1,h2]
   ·simp (disch:=first|assumption|omega) only[S0,rA,rQ,rB,rT,rE,aI,slices_Equal_int,hlt2,h1,Sbv,Tbb]
  ·intro hlt2
   simp (disch:=first|assumption|omega) only[S0,rA,rQ,rB,rT,rE,hlt2]
 ·intro hlt
  simp (disch:=first|assumption|omega) only[S0,rA,rQ,rB,rT,rE,hlt]
theorem Sas (n:Int)(rows:List (List aY))(hs:bX rows):Fun T 108 [i64 n,rL rows]=some [rL (nK ⟨n,rows⟩).1,rL (nK ⟨n,rows⟩).2.1,.bool (nK ⟨n,rows⟩).2.2]:=by
 rw[aJ (t:=Fab) rfl];unfold Fab;unfold nK
 cases ht:aV ⟨n,rows⟩
 ·simp (disch:=first|assumption|omega) only[S0,rA,rQ,rB,rT,rE,bR,ht,Aam,Sbv]
 by_cases h:((aU rows).length:Int)<=40
 ·have h2:decide (40<((aU rows).length:Int))=false:=by simp;omega
  have h3:decide (((aU rows).length:Int)<=40)=true:=by simpa using h
  simp (disch:=first|assumption|omega) only[S0,rA,rQ,rB,rT,rE,bR,mD,ht,h2,h3]
 ·have h2:decide (40<((aU rows).length:Int))=true:=by simp;omega
  have h3:decide (((aU rows).length:Int)<=40)=false:=by simpa using h
  simp (disch:=first|assumption|omega) only[S0,rA,rQ,rB,rT,rE,bR,mD,ht,h2,h3,Aam,Sbv]
theorem Uap (n:Int)(rows:List (List aY))(hs:bX rows):Fun T 107 [i64 n,rL rows]=some [rL (nK ⟨n,rows⟩).1,rL (nK ⟨n,rows⟩).2.1,.bool (nK ⟨n,rows⟩).2.2]:=by
 rw[aJ (t:=Fac) rfl];unfold Fac;unfold nK
 cases ht:aV ⟨n,rows⟩
 ·simp (disch:=first|assumption|omega) only[S0,rA,rQ,rB,rT,rE,bB,ht,Aam,Sbv]
 by_cases h:((aU rows).length:Int)<=40
 ·have h2:decide (40<((aU rows).length:Int))=false:=by simp;omega
  have h3:decide (((aU rows).length:Int)<=40)=true:=by simpa using h
  simp (disch:=first|assumption|omega) only[S0,rA,rQ,rB,rT,rE,bB,gX,ht,h2,h3]
 ·have h2:decide (40<((aU rows).length:Int))=true:=by simp;omega
  have h3:decide (((aU rows).length:Int)<=40)=false:=by simpa using h
  simp (disch:=first|assumption|omega) only[S0,rA,rQ,rB,rT,rE,bB,gX,ht,h2,h3,Aam,Sbv]
theorem pY (n:Int)(hg:bK n=true):Fun T 84 [i64 n]=some [i64 n,rL (Sb1 n.toNat ([]:List aY))]:=by
 rw[aJ (t:=Yai) rfl];unfold Yai
 have hn:=aT hg
 simp (disch:=first|assumption|omega) only[S0,rA,rQ,rB,rT,rE,pI]
theorem Bbc (code:D)(hc:isBytes code)(a s:Int)(h0:0<=a)(h1:a<=4611686018427387904):∃ v s',Fun T 7 [code,i64 a,u64 s]=some [i64 v,code,i64 (a+1),u64 s']/\0<=v/\v<=255:=by
 rw[aJ (t:=tm7) rfl];unfold tm7
 obtain⟨l1,l2⟩:=Ma1 hc
 by_cases hlt:a<(Gbh code:Nat)
 ·obtain⟨b1,b,b2,b3,b4⟩:=bytes_at hc h0 hlt
  have c8:=Lb4 b3 b4
  have d:decide (a<((Gbh code:Nat):Int))=true:=by simpa using hlt
  have e:decide (a+1<=((Gbh code:Nat):Int))=true:=by simp;omega
  simp (disch:=first|assumption|omega) only[S0,rA,rQ,rB,rT,rE,l1,b1,b2,c8,d,e,Qbe]
  exact⟨_,_,rfl,b3,b4⟩
 ·have d:decide (a<((Gbh code:Nat):Int))=false:=by simpa using hlt
  have e:decide (a+1<=((Gbh code:Nat):Int))=false:=by simp;omega
  simp (disch:=first|assumption|omega) only[S0,rA,rQ,rB,rT,rE,l1,d,e,Qbe]
  exact⟨_,_,rfl,(Abv _).1,(Abv _).2⟩
theorem eT (code:D)(hc:isBytes code)(n a s:Int)(h0:0<=a)(h1:a<=2305843009213693952):∃ v a' s',Fun T 6 [i64 n,code,i64 a,u64 s]=some [i64 v,code,i64 a',u64 s']/\0<=v/\(1<=n->v<n)/\a<=a'/\a'<=a+2:=by
 rw[aJ (t:=tm6) rfl];unfold tm6
 by_cases hn:n<=1
 ·have d:decide (n<=1)=true:=by simpa using hn
  simp (disch:=first|assumption|omega) only[S0,rA,rQ,rB,rT,rE,d]
  exact⟨_,_,_,rfl,by omega,by omega,by omega,by omega⟩
 ·have d:decide (n<=1)=false:=by simpa using hn
  obtain⟨v,s',e,v1,v2⟩:=Bbc code hc a s h0 (by omega)
  by_cases hn2:200<n
  ·have d2:decide (200<n)=true:=by simpa using hn2
   obtain⟨w,s2,e2,w1,w2⟩:=Bbc code hc (a+1) s' (by omega) (by omega)
   have r1:(aN.bin .mul).run [i64 v,i64 256]=some [i64 (v*256)]:=yS (by omega) (by omega)
   have r2:=Ja3 (a:=v*256+w) (b:=n) (by omega) (by omega)
   simp (disch:=first|assumption|omega) only[S0,rA,rQ,rB,rT,rE,d,d2,e,e2,r1,r2]
   exact⟨_,_,_,rfl,Int.emod_nonneg _ (by omega),fun _=>Int.emod_lt_of_pos _ (by omega),by omega,by omega⟩
  ·have d2:decide (200<n)=false:=by simpa using hn2
   have r2:=Ja3 (a:=v) (b:=n) (by omega) (by omega)
   simp (disch:=first|assumption|omega) only[S0,rA,rQ,rB,rT,rE,d,d2,e,r2]
   exact⟨_,_,_,rfl,Int.emod_nonneg _ (by omega),fun _=>Int.emod_lt_of_pos _ (by omega),by omega,by omega⟩
theorem Iaj (code:D)(hc:isBytes code)(n a s:Int)(h0:0<=a)(h1:a<=2305843009213693952):∃ v a' s',Fun T 9 [i64 n,code,i64 a,u64 s]=some [.bool v,code,i64 a',u64 s']/\a<=a'/\a'<=a+2:=by
 rw[aJ (t:=tm9) rfl];unfold tm9
 obtain⟨v,a',s',e,v1,v2,v3,v4⟩:=eT code hc n a s h0 h1
 simp (disch:=first|assumption|omega) only[S0,rA,rQ,rB,rT,rE,e]
 exact⟨_,_,_,rfl,v3,v4⟩
theorem Mas (code:D)(hc:isBytes code)(xs:List Int)(a s:Int)(hx:0<xs.length)(hx2:xs.length<=10000000000)(h0:0<=a)(h1:a<=2305843009213693952):∃ v a' s',Fun T 23 [rL xs,code,i64 a,u64 s]=some [i64 v,code,i64 a',u64 s']/\v∈xs/\a<=a'/\a'<=a+2:=by
 rw[aJ (t:=Zaw) rfl];unfold Zaw
 obtain⟨v,a',s',e,v1,v2,v3,v4⟩:=eT code hc xs.length a s h0 h1
 have hb:InB xs v:=by unfold InB;omega
 simp (disch:=first|assumption|omega) only[S0,rA,rQ,rB,rT,rE,e,aI]
 exact⟨_,_,_,rfl,bL hb,v3,v4⟩
theorem Nbk (code:D)(hc:isBytes code)(a s:Int)(h0:0<=a)(h1:a<=1152921504606846976):∃ (c:oN) (a' s':Int),Fun T 8 [code,i64 a,u64 s]=some [i64 c.kind,i64 c.id,i64 c.src,i64 c.dst,i64 c.amt,code,i64 a',u64 s']/\(1<=c.amt->c.kind=1)/\(0<=c.amt/\c.amt<=30)/\a<=a'/\a'<=a+10:=by
 rw[aJ (t:=tm8) rfl];unfold tm8
 obtain⟨v1,a1,s1,e1,p1,q1,g1,k1⟩:=eT code hc 9 a s h0 (by omega)
 obtain⟨v2,a2,s2,e2,p2,q2,g2,k2⟩:=eT code hc 4 a1 s1 (by omega) (by omega)
 obtain⟨v3,a3,s3,e3,p3,q3,g3,k3⟩:=eT code hc 30 a2 s2 (by omega) (by omega)
 obtain⟨v4,a4,s4,e4,p4,q4,g4,k4⟩:=eT code hc 3 a3 s3 (by omega) (by omega)
 obtain⟨v5,a5,s5,e5,g5,k5⟩:=Iaj code hc 4 a4 s4 (by omega) (by omega)
 have r2:=Ja3 (a:=v2+1+v4) (b:=4) (by omega) (by omega)
 have q1':=q1 (by omega)
 have q2':=q2 (by omega)
 have q3':=q3 (by omega)
 have q4':=q4 (by omega)
 cases v5
 ·simp (disch:=first|assumption|omega) only[S0,rA,rQ,rB,rT,rE,e1,e2,e3,e4,e5,r2]
  exact⟨⟨_,_,_,_,_⟩,_,_,rfl,fun _=>rfl,by simp only;omega,by omega,by omega⟩
 ·simp (disch:=first|assumption|omega) only[S0,rA,rQ,rB,rT,rE,e1,e2,e3,e4,e5,r2]
  exact⟨⟨_,_,_,_,_⟩,_,_,rfl,by simp only;omega,by simp only;omega,by omega,by omega⟩
theorem Aaq (n:Int)(h0:0<=n)(h1:n<=1000):Fun T 11 [i64 n]=some [i64 0,rL (Sb1 n.toNat (0:Int))]:=by
 rw[aJ (t:=Vay) rfl];unfold Vay
 (refine aB ?_;repeat' (refine aA ?_ ?_<;>intro _<;>try simp (disch:=first|assumption|omega) only[S0,rA,rQ,rB,rT,rE,pI, *]))
theorem Nbj (code:D)(hc:isBytes code)(n a s:Int)(hn:0<=n)(hn2:n<=10)(h0:0<=a)(h1:a<=576460752303423488):∃ (r:aY) (a' s':Int),Fun T 24 [i64 n,code,i64 a,u64 s]=some [i64 r.ballot,i64 r.vote,i64 r.state,i64 r.cmd.kind,i64 r.cmd.id,i64 r.cmd.src,i64 r.cmd.dst,i64 r.cmd.amt,i64 r.attr.seq,rL r.attr.deps,code,i64 a',u64 s']/\(r.attr.deps.length:Int)=n/\a<=a'/\a'<=a+50:=by
 rw[aJ (t:=Zav) rfl];unfold Zav
 obtain⟨v1,a1,s1,e1,p1,g1,k1⟩:=Mas code hc [0,0,8,9,17] a s (by simp) (by simp) h0 (by omega)
 obtain⟨v2,a2,s2,e2,p2,q2,g2,k2⟩:=eT code hc 4 a1 s1 (by omega) (by omega)
 obtain⟨c3,a3,s3,e3,-,-,g3,k3⟩:=Nbk code hc a2 s2 (by omega) (by omega)
 obtain⟨v4,a4,s4,e4,p4,q4,g4,k4⟩:=eT code hc 5 a3 s3 (by omega) (by omega)
 simp (disch:=first|assumption|omega) only[S0,rA,rQ,rB,rT,rE,e1,e2,e3,e4,dK]
 generalize hE:Er T (Tm.loop _ _) _=E
 have key:∃ q,E=some q/\∃ (ds:List Int) (a' s':Int),q=(.yield 1,[code,i64 a',u64 s',rL ds])/\(ds.length:Int)=n/\a<=a'/\a'<=a+40:=by
  rw[<- hE]
  refine lF (γ:=Nat×Int×Int×List Int) (fun c=>n.toNat-c.1) (fun c=>(c.1:Int)<=n/\c.2.2.2.length=c.1/\a4<=c.2.1/\c.2.1<=a4+2*c.1) (fun c=>[i64 c.1,code,i64 c.2.1,u64 c.2.2.1,rL c.2.2.2]) _ (0,a4,s4,[]) rfl (by simp;omega) ?_
  rintro⟨i,a5,s5,ds⟩ ⟨h2,h3,h4,h5⟩
  simp only at h2 h3 h4 h5
  by_cases hi:(i:Int)<n
  ·have d:decide ((i:Int)<n)=true:=by simpa using hi
   obtain⟨v6,a6,s6,e6,p6,q6,g6,k6⟩:=eT code hc 3 a5 s5 (by omega) (by omega)
   have z:ds.length+([v6]:List Int).length<=100000000000:=by simp only[Sbw,Sbx];omega
   refine .inl ⟨(i+1,a6,s6,ds++[v6]),?_,⟨by simp only;omega,by simp[h3],by simp only;omega,by simp only;omega⟩,by simp only;omega⟩
   simp (disch:=first|assumption|omega) only[S0,rA,rQ,rB,rT,rE,d,e6,dK,bD]
  ·have d:decide ((i:Int)<n)=false:=by simpa using hi
   refine .inr ⟨(.yield 1,[code,i64 a5,u64 s5,rL ds]),?_,by simp,ds,a5,s5,rfl,by omega,by omega,by omega⟩
   simp (disch:=first|assumption|omega) only[S0,rA,rQ,rB,rT,rE,d]
 obtain⟨q,rfl,ds,a5,s5,rfl,h2,h3,h4⟩:=key
 obtain⟨v6,a6,s6,e6,g6,k6⟩:=Iaj code hc 2 a5 s5 (by omega) (by omega)
 cases hz:v2==0
 ·cases v6
  ·simp (disch:=first|assumption|omega) only[S0,rA,rQ,rB,rT,rE,e6,hz]
   exact⟨⟨_,_,_,⟨_,_,_,_,_⟩,⟨_,_⟩⟩,_,_,rfl,h2,by omega,by omega⟩
  ·simp (disch:=first|assumption|omega) only[S0,rA,rQ,rB,rT,rE,e6,hz]
   exact⟨⟨_,_,_,⟨_,_,_,_,_⟩,⟨_,_⟩⟩,_,_,rfl,h2,by omega,by omega⟩
 ·have e7:=Aaq n (by omega) (by omega)
  cases v6
  ·simp (disch:=first|assumption|omega) only[S0,rA,rQ,rB,rT,rE,e6,e7,hz]
   exact⟨⟨_,_,_,⟨_,_,_,_,_⟩,⟨_,_⟩⟩,_,_,rfl,by simp only[Tbq];omega,by omega,by omega⟩
  ·simp (disch:=first|assumption|omega) only[S0,rA,rQ,rB,rT,rE,e6,e7,hz]
   exact⟨⟨_,_,_,⟨_,_,_,_,_⟩,⟨_,_⟩⟩,_,_,rfl,by simp only[Tbq];omega,by omega,by omega⟩
theorem Oa8 (n:Int)(h0:0<=n)(h1:n<=1000):Fun T 5 [i64 n]=some [i64 n,rL (Sb1 n.toNat ([]:List aY))]:=by
 rw[aJ (t:=tm5) rfl];unfold tm5
 have e:(aN.make 24 [(.rows 10 [])]).run [i64 n]=some [rL (Sb1 n.toNat ([]:List aY))]:=pI.2.2.2.1 h0 (by omega)
 simp (disch:=first|assumption|omega) only[S0,rA,rQ,rB,rT,rE,e]
theorem Ibf (code:D)(hc:isBytes code)(a s:Int)(h0:0<=a)(h1:a<=1152921504606846976):∃ (k i a' s':Int),Fun T 117 [code,i64 a,u64 s]=some [i64 k,i64 i,code,i64 a',u64 s']/\a<=a'/\a'<=a+10:=by
 rw[aJ (t:=Ea6) rfl];unfold Ea6
 obtain⟨v1,a1,s1,e1,p1,q1,g1,k1⟩:=eT code hc 4 a s h0 (by omega)
 obtain⟨v2,a2,s2,e2,p2,q2,g2,k2⟩:=eT code hc 12 a1 s1 (by omega) (by omega)
 obtain⟨v3,a3,s3,e3,p3,g3,k3⟩:=Mas code hc [1,1,2,2,3,4,6,7,0] a2 s2 (by simp) (by simp) (by omega) (by omega)
 have q1':=q1 (by omega)
 have q2':=q2 (by omega)
 have b1:0<=v2 / 11/\v2 / 11<=1:=by omega
 have z:(aN.mk 1 9).run [i64 1,i64 1,i64 2,i64 2,i64 3,i64 4,i64 6,i64 7,i64 0]=some [rL ([1,1,2,2,3,4,6,7,0]:List Int)]:=rfl
 simp (disch:=first|assumption|omega) only[S0,rA,rQ,rB,rT,rE,e1,e2,e3,z]
 exact⟨_,_,_,_,rfl,by omega,by omega⟩
theorem Fb0 (code:D)(hc:isBytes code)(a s:Int)(h0:0<=a)(h1:a<=288230376151711744):∃ (t:aM) (a' s':Int),Fun T 22 [code,i64 a,u64 s]=some [i64 t.n,rL t.rows,code,i64 a',u64 s']/\(0<=t.n/\t.n<=5)/\t.rows.length<=5/\(∀ l∈t.rows,l.length<=5/\∀ r∈l,r.attr.deps.length<=10)/\a<=a'/\a'<=a+2000:=by
 rw[aJ (t:=Zax) rfl];unfold Zax
 obtain⟨n,a1,s1,e1,p1,g1,k1⟩:=Mas code hc [3,3,3,5] a s (by simp) (by simp) h0 (by omega)
 have hn:3<=n/\n<=5:=by simp at p1;omega
 have e2:=Oa8 n (by omega) (by omega)
 have eL:((Sb1 n.toNat ([]:List aY)).length:Int)=n:=by rw[Tbq];omega
 simp (disch:=first|assumption|omega) only[S0,rA,rQ,rB,rT,rE,e1,e2,dK,eL]
 generalize hE:Er T (Tm.loop _ _) _=E
 have key:∃ q,E=some q/\∃ (rows:List (List aY)) (a' s':Int),q=(.yield 1,[code,i64 a',u64 s',rL rows])/\(rows.length:Int)=n/\(∀ l∈rows,l.length<=4/\∀ r∈l,r.attr.deps.length<=10)/\a<=a'/\a'<=a+1500:=by
  rw[<- hE]
  refine lF (γ:=Nat×Int×Int×List (List aY)) (fun c=>n.toNat-c.1) (fun c=>(c.1:Int)<=n/\(c.2.2.2.length:Int)=n/\(∀ l∈c.2.2.2,l.length<=4/\∀ r∈l,r.attr.deps.length<=10)/\(∀ k:Nat,c.1<=k->k<n.toNat->(atI c.2.2.2 (k:Int)).length=0)/\a1<=c.2.1/\c.2.1<=a1+250*c.1)
   (fun c=>[i64 c.1,code,i64 c.2.1,u64 c.2.2.1,rL c.2.2.2]) _ (0,a1,s1,Sb1 n.toNat []) rfl
   ⟨by simp only;omega,by simp only[Tbq];omega,by intro l hl;rw[Vbn hl];simp,by intro k hk1 hk2;rw[bC (by simpa using hk2)];simp,by simp only;omega,by simp only;omega⟩ ?_
  rintro⟨i,a2,s2,rows⟩ ⟨h2,h3,h4,h7,h5,h6⟩
  simp only at h2 h3 h4 h5 h6 h7
  by_cases hi:(i:Int)<n
  ·have d:decide ((i:Int)<n)=true:=by simpa using hi
   obtain⟨v3,a3,s3,e3,p3,q3,g3,k3⟩:=eT code hc 4 a2 s2 (by omega) (by omega)
   have q3':=q3 (by omega)
   have hb:InB rows (i:Int):=by unfold InB;omega
   have hz:=h7 i (Sb7 _) (by omega)
   left
   simp (disch:=first|assumption|omega) only[S0,rA,rQ,rB,rT,rE,d,e3]
   generalize hE2:Er T (Tm.loop _ _) _=E2
   have key2:∃ q,E2=some q/\∃ (l:List aY) (a' s':Int),q=(.yield 3,[code,i64 a',u64 s',rL (dB rows (i:Int) l)])/\l.length<=4/\(∀ r∈l,r.attr.deps.length<=10)/\a3<=a'/\a'<=a3+240:=by
    rw[<- hE2]
    refine lF (γ:=Nat×Int×Int×List aY) (fun c=>c.1) (fun c=>c.1<=4/\c.2.2.2.length+c.1<=4/\(∀ r∈c.2.2.2,r.attr.deps.length<=10)/\a3<=c.2.1/\c.2.1+60*c.1<=a3+240)
     (fun c=>[i64 c.1,code,i64 c.2.1,u64 c.2.2.1,rL (dB rows (i:Int) c.2.2.2)]) _ (v3.toNat,a3,s3,atI rows (i:Int)) ?_
     ⟨by simp only;omega,by simp only;omega,fun r hr=>(h4 _ (bL hb)).2 r hr,by simp only;omega,by simp only;omega⟩ ?_
    ·show [i64 v3,code,i64 a3,u64 s3,rL rows]=[i64 ((v3.toNat:Nat):Int),code,i64 a3,u64 s3,rL (dB rows (i:Int) (atI rows (i:Int)))]
     rw[Aay hb,show ((v3.toNat:Nat):Int)=v3 by omega]
    rintro⟨m,a4,s4,l⟩ ⟨j2,j3,j4,j5,j6⟩
    simp only at j2 j3 j4 j5 j6
    by_cases hm:0<m
    ·have d2:decide (0<(m:Int))=true:=by simpa using hm
     obtain⟨r,a5,s5,e5,p5,g5,k5⟩:=Nbj code hc n a4 s4 (by omega) (by omega) (by omega) (by omega)
     have hbl:InB (dB rows (i:Int) l) (i:Int):=by unfold InB;rw[jU];omega
     have z:l.length+([r]:List aY).length<=100000000000:=by simp only[Sbw,Sbx];omega
     have eat:atI (dB rows (i:Int) l) (i:Int)=l:=iV.1 hb
     refine .inl ⟨(m-1,a5,s5,l++[r]),?_,⟨by simp only;omega,by simp;omega,?_,by simp only;omega,by simp only;omega⟩,by simp only;omega⟩
     ·have em:((m-1:Nat):Int)=(m:Int)-1:=by omega
      have es:∀ x:List aY,dB (dB rows (i:Int) l) (i:Int) x=dB rows (i:Int) x:=fun x=>iV.2.1
      simp (disch:=first|assumption|omega) only[S0,rA,rQ,rB,rT,rE,d2,e5,aI,eat,dK,bD,tJ,es,em]
     ·intro y hy
      simp only[Vbs,Sb9]at hy
      rcases hy with hy|rfl
      ·exact j4 y hy
      ·omega
    ·have d2:decide (0<(m:Int))=false:=by simpa using hm
     refine .inr ⟨(.yield 3,[code,i64 a4,u64 s4,rL (dB rows (i:Int) l)]),?_,by simp,l,a4,s4,rfl,by omega,j4,by omega,by omega⟩
     simp (disch:=first|assumption|omega) only[S0,rA,rQ,rB,rT,rE,d2]
   obtain⟨q,rfl,l,a4,s4,rfl,y1,y2,y3,y4⟩:=key2
   simp (disch:=first|assumption|omega) only[S0,rA,rQ,rB,rT,rE]
   refine⟨(i+1,a4,s4,dB rows (i:Int) l),rfl,⟨by simp only;omega,by simp only[jU];omega,?_,?_,by simp only;omega,by simp only;omega⟩,by simp only;omega⟩
   ·intro x hx
    rcases wB hx with hx|rfl
    ·exact h4 x hx
    ·exact⟨y1,y2⟩
   ·intro k hk1 hk2
    simp only
    rw[Jaq (by omega) (by omega) (by omega)]
    exact h7 k (by simp only at hk1;omega) hk2
  ·have d:decide ((i:Int)<n)=false:=by simpa using hi
   refine .inr ⟨(.yield 1,[code,i64 a2,u64 s2,rL rows]),?_,by simp,rows,a2,s2,rfl,h3,h4,by omega,by omega⟩
   simp (disch:=first|assumption|omega) only[S0,rA,rQ,rB,rT,rE,d]
 obtain⟨q,rfl,rows,a2,s2,rfl,h2,h3,h4,h5⟩:=key
 obtain⟨v6,a6,s6,e6,p6,q6,g6,k6⟩:=eT code hc 40 a2 s2 (by omega) (by omega)
 have h3':∀ l∈rows,l.length<=5/\∀ r∈l,r.attr.deps.length<=10:=fun l hl=>⟨by have:=(h3 l hl).1;omega,(h3 l hl).2⟩
 cases c1:v6==0
 ·cases c2:v6==1
  ·simp (disch:=first|assumption|omega) only[S0,rA,rQ,rB,rT,rE,e6,c1,c2]
   exact⟨⟨_,_⟩,_,_,rfl,by simp only;omega,by simp only;omega,h3',by omega,by omega⟩
  ·have hb:InB rows 0:=by unfold InB;omega
   have z:(aN.mk 10 1).run [i64 0,i64 1,i64 0,i64 0,i64 0,i64 0,i64 0,i64 0,i64 0,.rows 1 []]=some [rL ([⟨0,1,0,⟨0,0,0,0,0⟩,⟨0,[]⟩⟩]:List aY)]:=rfl
   have hl0:=h3 _ (bL hb)
   have z2:(atI rows 0).length+([⟨0,1,0,⟨0,0,0,0,0⟩,⟨0,[]⟩⟩]:List aY).length<=100000000000:=by simp only[Sbw,Sbx];omega
   simp (disch:=first|assumption|omega) only[S0,rA,rQ,rB,rT,rE,e6,c1,c2,aI,z,bD,tJ]
   refine⟨⟨_,_⟩,_,_,rfl,by simp only;omega,?_,?_,by omega,by omega⟩
   ·show (dB rows 0 _).length<=5
    rw[jU]
    omega
   intro l hl
   rcases wB hl with hl|rfl
   ·exact h3' l hl
   ·refine⟨by rw[Sby];have:=hl0.1;simp only[Sbw,Sbx];omega,fun r hr=>?_⟩
    simp only[Vbs,Sb9]at hr
    rcases hr with hr|rfl
    ·exact hl0.2 r hr
    ·simp
 ·obtain⟨v7,a7,s7,e7,p7,q7,g7,k7⟩:=eT code hc 6 a6 s6 (by omega) (by omega)
  have q7':=q7 (by omega)
  simp (disch:=first|assumption|omega) only[S0,rA,rQ,rB,rT,rE,e6,c1,e7]
  exact⟨⟨_,_⟩,_,_,rfl,by simp only;omega,by simp only;omega,h3',by omega,by omega⟩
theorem Nax (n:Int)(rows:List (List aY))(hs:bX rows):Fun T 111 [i64 n,rL rows]=some [rL (Nbm ⟨n,rows⟩).1,.bool (Nbm ⟨n,rows⟩).2]:=by
 rw[aJ (t:=Faa) rfl];unfold Faa;unfold Nbm
 cases ht:aV ⟨n,rows⟩
 ·simp (disch:=first|assumption|omega) only[S0,rA,rQ,rB,rT,rE,bB,ht,Aam,Sbv]
 ·have hg:=aT (aQ ht)
  have hl:=bU ht
  simp only at hg hl
  have h6:∀ l∈rows,l.length<=6:=fun l hl=>(bY ht hl).1
  have hl2:rows.length<=100:=by omega
  simp (disch:=first|assumption|omega) only[S0,rA,rQ,rB,rT,rE,bB,bT,ht]
theorem Hbq (code more:D)(hc:isBytes code)(hm:isBytes more):∃ b,Fun T 1 [code,more]=some [.bool b]:=by
 rw[aJ (t:=tm1) rfl];unfold tm1
 obtain⟨l1,l2⟩:=Ma1 hc
 obtain⟨l3,l4⟩:=Ma1 hm
 cases d:decide (1048576<((Gbh code:Nat):Int))
 ·simp (disch:=first|assumption|omega) only[S0,rA,rQ,rB,rT,rE,l1,l3,d]
  exact⟨_,rfl⟩
 ·simp (disch:=first|assumption|omega) only[S0,rA,rQ,rB,rT,rE,l1,l3,d]
  exact⟨_,rfl⟩
theorem Ka7 (xs ys:List Int)(hx:xs.length<=1099511627776):Fun T 110 [rL xs,rL ys]=some [.bool (decide (xs=ys))]:=by
 rw[aJ (t:=Nal) rfl];unfold Nal
 by_cases hl:ys.length=xs.length
 ·have e1:((xs.length:Int)==ys.length)=true:=by simp[hl]
  simp (disch:=first|assumption|omega) only[S0,rA,rQ,rB,rT,rE,e1]
  rw[Gb9 1 xs.length (fun i=>decide (atI xs (i:Int)=atI ys (i:Int))) [.bool false],oM hl.symm]
  ·cases decide (xs=ys)<;>simp (disch:=first|assumption|omega) only[S0,rA,rQ,rB,rT,rE]
  ·intro i hi hlt
   have hb:InB xs (i:Int):=aG.2 hi
   have hb2:InB ys (i:Int):=aG.2 (by omega)
   have e:(!(atI xs (i:Int)==atI ys (i:Int)))=!decide (atI xs (i:Int)=atI ys (i:Int)):=by rw[Tb1]
   (refine aB ?_;repeat' (refine aA ?_ ?_<;>intro _<;>try simp (disch:=first|assumption|omega) only[S0,rA,rQ,rB,rT,rE,aI,hlt,e, *]))
  ·intro hlt
   simp (disch:=first|assumption|omega) only[S0,rA,rQ,rB,rT,rE,hlt]
 ·have e1:((xs.length:Int)==ys.length)=false:=by simp;omega
  rw[vF (fun e=>hl e.symm)]
  simp (disch:=first|assumption|omega) only[S0,rA,rQ,rB,rT,rE,e1]
theorem xA (xs ys:List (List Int))(hx:xs.length<=10000000000)(hq:∀ l∈xs,l.length<=10000000000):Fun T 109 [rL xs,rL ys]=some [.bool (decide (xs=ys))]:=by
 rw[aJ (t:=Nam) rfl];unfold Nam
 by_cases hl:ys.length=xs.length
 ·have e1:((xs.length:Int)==ys.length)=true:=by simp[hl]
  simp (disch:=first|assumption|omega) only[S0,rA,rQ,rB,rT,rE,e1]
  rw[Gb9 1 xs.length (fun i=>decide (atI xs (i:Int)=atI ys (i:Int))) [.bool false],oM hl.symm]
  ·cases decide (xs=ys)<;>simp (disch:=first|assumption|omega) only[S0,rA,rQ,rB,rT,rE]
  ·intro i hi hlt
   have hb:InB xs (i:Int):=aG.2 hi
   have hb2:InB ys (i:Int):=aG.2 (by omega)
   have hq1:=hq _ (at_mem hi)
   have hq2:(atI xs (i:Int)).length<=1099511627776:=by omega
   (refine aB ?_;repeat' (refine aA ?_ ?_<;>intro _<;>try simp (disch:=first|assumption|omega) only[S0,rA,rQ,rB,rT,rE,aI,hlt,Ka7, *]))
  ·intro hlt
   simp (disch:=first|assumption|omega) only[S0,rA,rQ,rB,rT,rE,hlt]
 ·have e1:((xs.length:Int)==ys.length)=false:=by simp;omega
  rw[vF (fun e=>hl e.symm)]
  simp (disch:=first|assumption|omega) only[S0,rA,rQ,rB,rT,rE,e1]
theorem jE (l:List (List Int))(x:List Int)(hl:l.length<=1000)(h2:∀ y∈l,y.length=2)(hx:x.length=2):Fun T 81 [rL l,rL x]=some [rL (Eb5 l x)]:=by
 rw[aJ (t:=Yal) rfl];unfold Yal
 have x0:InB x 0:=by unfold InB;omega
 have x1:InB x 1:=by unfold InB;omega
 have hk:=Lax l x l.length
 have hkl:((jP l x l.length:Nat):Int)<=l.length:=by omega
 simp (disch:=first|assumption|omega) only[S0,rA,rQ,rB,rT,rE]
 rw[sZ (γ:=Nat) (.yield 1,[i64 ((jP l x l.length:Nat):Int)]) (fun k=>k) (fun k=>k<=l.length/\jP l x k=jP l x l.length) (fun k=>[i64 (k:Int)]) l.length rfl ⟨Sb7 _,rfl⟩ (by simp)]
 ·have e0:(l.take (jP l x l.length)).drop 0=l.take (jP l x l.length):=rfl
  have e1:(l.take l.length).drop (jP l x l.length)=l.drop (jP l x l.length):=by rw[Tbh]
  have t1:(l.take (jP l x l.length)).length<=1000:=by rw[Tbc];omega
  have t2:(l.drop (jP l x l.length)).length<=1000:=by rw[Tbx];omega
  have t3:((l.take (jP l x l.length))++[x]).length<=1001:=by rw[Sby];simp only[Sbw,Sbx];omega
  have a1:([]:List (List Int)).length+(l.drop (jP l x l.length)).length<=100000000000:=by simp only[Sbx];omega
  have a2:([]:List (List Int)).length+(l.take (jP l x l.length)).length<=100000000000:=by simp only[Sbx];omega
  have a3:(l.take (jP l x l.length)).length+([x]:List (List Int)).length<=100000000000:=by simp only[Sbw,Sbx];omega
  have a4:((l.take (jP l x l.length))++[x]).length+(l.drop (jP l x l.length)).length<=100000000000:=by omega
  have h0:(aN.mk 1 0).run []=some [rL ([]:List (List Int))]:=rfl
  have b1:(0:Int)<=((jP l x l.length:Nat):Int):=by omega
  unfold Eb5
  simp (disch:=first|assumption|omega) only[S0,rA,rQ,rB,rT,rE,dK,bD,sN,h0,e0,e1,Tbk,Vbd,Tb2]
 ·intro k ⟨hkle,hki⟩
  cases k with
  | zero =>
   refine .inr ?_
   have e:jP l x l.length=0:=by rw[<- hki];rfl
   have hd0:decide ((0:Int)<((0:Nat):Int))=false:=by decide
   rw[e]
   simp (disch:=first|assumption|omega) only[S0,rA,rQ,rB,rT,rE,aI,hd0]
  | succ k =>
   have hb:InB l (k:Int):=aG.2 (by omega)
   have hy:=h2 _ (at_mem (show k<l.length by omega))
   have y0:InB (atI l (k:Int)) 0:=by unfold InB;omega
   have y1:InB (atI l (k:Int)) 1:=by unfold InB;omega
   have hgt:decide (0<(k:Int)+1)=true:=decide_eq_true (by omega)
   have hsub:(aN.bin .sub).run [i64 ((k:Int)+1),i64 1]=some [i64 (k:Int)]:=by
    have h:=Daz (a:=(k:Int)+1) (b:=1) (by omega) (by omega)
    rw[show (k:Int)+1-1=k by omega]at h
    exact h
   cases hg:gtL (atI l (k:Int)) x
   ·refine .inr ?_
    have e:jP l x l.length=k+1:=by rw[<- hki];unfold jP;rw[hg];simp
    rw[e]
    have hg2:=hg
    unfold gtL at hg2
    cases c1:decide (atI x 0<atI (atI l (k:Int)) 0)<;>cases c2:(atI (atI l (k:Int)) 0==atI x 0)<;>cases c3:decide (atI x 1<atI (atI l (k:Int)) 1)<;>rw[c1,c2,c3]at hg2<;>first|(cases hg2;done)|skip
    all_goals simp (disch:=first|assumption|omega) only[S0,rA,rQ,rB,rT,rE,aI,hgt,hsub,c1,c2,c3]
   ·refine .inl ⟨k,?_,⟨by omega,by rw[<- hki];conv=>rhs;unfold jP;rw[hg];simp⟩,by omega⟩
    have hg2:=hg
    unfold gtL at hg2
    cases c1:decide (atI x 0<atI (atI l (k:Int)) 0)<;>cases c2:(atI (atI l (k:Int)) 0==atI x 0)<;>cases c3:decide (atI x 1<atI (atI l (k:Int)) 1)<;>rw[c1,c2,c3]at hg2<;>first|(cases hg2;done)|skip
    all_goals simp (disch:=first|assumption|omega) only[S0,rA,rQ,rB,rT,rE,aI,hgt,hsub,c1,c2,c3]
theorem Bak (q:Int)(deps:List Int)(hl:deps.length<=5)(h6:∀ d∈deps,0<=d/\d<=6):Fun T 57 [i64 q,rL deps]=some [rL (nW deps deps.length)]:=by
 rw[aJ (t:=Ya1) rfl];unfold Ya1
 have h0:(aN.mk 1 0).run []=some [rL ([]:List (List Int))]:=rfl
 simp (disch:=first|assumption|omega) only[S0,rA,rQ,rB,rT,rE,h0]
 rw[bH deps.length (fun k=>[rL (nW deps k),i64 k]) (.yield 1,[rL (nW deps deps.length)]) rfl (by simp)]
 ·simp (disch:=first|assumption|omega) only[S0,rA,rQ,rB,rT,rE]
 ·intro k hk hlt
  have hbk:InB deps (k:Int):=aG.2 hk
  have hq:=h6 _ (at_mem hk)
  have hln:=Bao (deps:=deps) (fun d hd=>(h6 d hd).2) (m:=k) (by omega)
  simp (disch:=first|assumption|omega) only[S0,rA,rQ,rB,rT,rE,aI,hlt]
  rw[bH (atI deps (k:Int)).toNat (fun i=>[rL (nW deps k++mO k i),i64 ((i:Int)+1)]) (.yield 3,[rL (nW deps (k+1))]) (by show [rL (nW deps k),_]=_;simp[mO,aO.val]) (by simp)]
  ·simp (disch:=first|assumption|omega) only[S0,rA,rQ,rB,rT,rE]
  ·intro i hi2 hlt2
   have hlc:=zF (k:Int) i
   have hll:(nW deps k++mO (k:Int) i).length+([[(k:Int),(i:Int)+1]]:List (List Int)).length<=100000000000:=by
    rw[Sby];simp only[Sbw,Sbx];omega
   have hle:decide ((i:Int)+1<=atI deps (k:Int))=true:=by simp;omega
   have e:=Ban (k:Int) i
   simp (disch:=first|assumption|omega) only[S0,rA,rQ,rB,rT,rE,dK,bD,hle,e,<- Sb3]
  ·intro hlt2
   have hle:decide ((((atI deps (k:Int)).toNat:Nat):Int)+1<=atI deps (k:Int))=false:=by simp;omega
   rw[Cas]
   simp (disch:=first|assumption|omega) only[S0,rA,rQ,rB,rT,rE,hle]
 ·intro hlt
  simp (disch:=first|assumption|omega) only[S0,rA,rQ,rB,rT,rE,hlt]
theorem eU (n:Int)(rows:List (List aY))(rep no:Int)(ht:aV ⟨n,rows⟩=true)(hi:inst n rep no=true)(hc:pJ ⟨n,rows⟩ [rep,no]=true)(hs:bX rows):Fun T 77 [i64 n,rL rows,i64 rep,i64 no]=some [rL (gQ ⟨n,rows⟩ [rep,no])]:=by
 rw[aJ (t:=Gbv) rfl];unfold Gbv
 have hx:dM n [rep,no]:=⟨rfl,hi⟩
 simp (disch:=first|assumption|omega) only[S0,rA,rQ,rB,rT,rE,dK]
 generalize hE:Er T (Tm.loop _ _) _=E
 obtain⟨r,h1,s,h2,h3⟩:∃ r,E=some r/\∃ s,Rau ⟨n,rows⟩ [rep,no] s.met.length s/\r=(.yield 1,[rL s.out]):=by
  rw[<- hE]
  refine lF (γ:=Nat×SSt) (fun c=>31-c.1) (fun c=>Rau ⟨n,rows⟩ [rep,no] c.1 c.2) (fun c=>[rL c.2.met,rL c.2.out,i64 (c.1:Int)]) (fun r=>∃ s,Rau ⟨n,rows⟩ [rep,no] s.met.length s/\r=(.yield 1,[rL s.out])) (0,⟨[[rep,no]],[]⟩) ?_ (Rau.start hc) ?_
  ·rfl
  rintro⟨i,s⟩ hinv
  dsimp only at hinv ⊢
  have hlen:=hinv.toSPre.len ht hx
  rcases Tbi i s.met.length with hlt|hge
  ·refine .inl ⟨(i+1,Ib4 ⟨n,rows⟩ s i),?_,hinv.step ht hx hlt,by dsimp only;omega⟩
   dsimp only
   have hb:InB s.met (i:Int):=aG.2 hlt
   have hd:decide ((i:Int)<s.met.length)=true:=by simp;omega
   obtain⟨hzr,hzc⟩:=hinv.rch _ (at_mem hlt)
   obtain⟨hz2,hzi⟩:=hzr.inst ht hx
   have z0:InB (atI s.met (i:Int)) 0:=by unfold InB;omega
   have z1:InB (atI s.met (i:Int)) 1:=by unfold InB;omega
   have hys:∀ y∈xZ ⟨n,rows⟩ (atI (atI s.met (i:Int)) 0) (atI (atI s.met (i:Int)) 1),Kai ⟨n,rows⟩ [rep,no] y:=fun y hy=>.step hzr hzc ((Bav hz2).1 hy).1
   have hyl:(xZ ⟨n,rows⟩ (atI (atI s.met (i:Int)) 0) (atI (atI s.met (i:Int)) 1)).length<=30:=by
    have hd6:=gT (jX ht hzi) (aQ ht)
    have hdl:=dQ ht hzi
    have hn:=aT (aQ ht)
    simp only at hdl hn
    have:=rR (rep:=atI (atI s.met (i:Int)) 0) (no:=atI (atI s.met (i:Int)) 1) (fun d hd=>(hd6 d hd).2) (Sb7 _)
    unfold xZ
    omega
   simp (disch:=first|assumption|omega) only[S0,rA,rQ,rB,rT,rE,aI,mE,hd]
   unfold Ib4
   generalize xZ ⟨n,rows⟩ (atI (atI s.met (i:Int)) 0) (atI (atI s.met (i:Int)) 1)=ys at hys hyl ⊢
   rw[(Eaf 3 ys (fun i (s:SSt)=>[rL s.met,rL s.out,rL ys,i64 i]) s (Ra4 ⟨n,rows⟩) (fun _ s=>SPre ⟨n,rows⟩ [rep,no] s) (fun s=>[rL s.met,rL s.out]) rfl hinv.toSPre ?_ ?_).1]
   ·simp (disch:=first|assumption|omega) only[S0,rA,rQ,rB,rT,rE]
   ·intro j u hj hbj hlt2 hu
    have hul:=hu.len ht hx
    have hyr:=hys _ (at_mem hj)
    obtain⟨hy2,hyi⟩:=hyr.inst ht hx
    obtain⟨k2,-⟩:=Far ht hx hu hyr
    refine⟨?_,k2⟩
    have y0:InB (atI ys (j:Int)) 0:=by unfold InB;omega
    have y1:InB (atI ys (j:Int)) 1:=by unfold InB;omega
    have hg:bK n=true:=aQ ht
    have yb:InB rows (atI (atI ys (j:Int)) 0):=bN ht hyi
    have yr:=bE hyi
    have ho2:∀ y∈u.out,y.length=2:=fun y hy=>((hu.och y hy).1.inst ht hx).1
    have e1:u.met.any (fun z=>decide (atI ys (j:Int)=z))=decide (0<=iQ u.met (atI ys (j:Int))):=(bJ _ _).symm
    have e2:u.out.any (fun z=>decide (atI ys (j:Int)=z))=decide (0<=iQ u.out (atI ys (j:Int))):=(bJ _ _).symm
    have a1:u.met.length+([atI ys (j:Int)]:List (List Int)).length<=100000000000:=by simp only[Sbw,Sbx];omega
    have b1:u.met.length<=1099511627776:=by omega
    have b2:u.out.length<=1099511627776:=by omega
    have b3:(atI ys (j:Int)).length<=1099511627776:=by omega
    have b4:u.out.length<=1000:=by omega
    have hcd:((cK ⟨n,rows⟩ (atI (atI ys (j:Int)) 0) (atI (atI ys (j:Int)) 1)).state==3)=pJ ⟨n,rows⟩ (atI ys (j:Int)):=rfl
    unfold Ra4
    rw[e1,e2]
    cases c1:decide (0<=iQ u.met (atI ys (j:Int)))
    ·cases c2:decide (0<=iQ u.out (atI ys (j:Int)))
     ·cases c3:pJ ⟨n,rows⟩ (atI ys (j:Int))
      ·simp (disch:=first|assumption|omega) only[S0,rA,rQ,rB,rT,rE,aI,dK,bD,bO,fJ,jE,hlt2,c1,c2,hcd,c3,Ubz,Sbv]
      ·simp (disch:=first|assumption|omega) only[S0,rA,rQ,rB,rT,rE,aI,dK,bD,bO,fJ,jE,hlt2,c1,c2,hcd,c3,Ubz,Sbv]
     ·simp (disch:=first|assumption|omega) only[S0,rA,rQ,rB,rT,rE,aI,bO,hlt2,c1,c2,Vbk]
    ·simp (disch:=first|assumption|omega) only[S0,rA,rQ,rB,rT,rE,aI,bO,hlt2,c1,Wbc]
   ·intro u hlt2 hu
    simp (disch:=first|assumption|omega) only[S0,rA,rQ,rB,rT,rE,hlt2]
  ·obtain rfl:i=s.met.length:=by have:=hinv.le;omega
   have hd:decide (((s.met.length:Nat):Int)<s.met.length)=false:=by simp
   exact .inr ⟨(.yield 1,[rL s.out]),by simp (disch:=first|assumption|omega) only[S0,rA,rQ,rB,rT,rE,hd],by simp,s,hinv,rfl⟩
 subst h3
 rw[h1,<- h2.done ht hx]
 simp (disch:=first|assumption|omega) only[S0,rA,rQ,rB,rT,rE]
theorem pR (l:List (List Int))(h2:∀ y∈l,y.length=2)(hl:l.length<=1000000):Fun T 62 [rL l]=some [rL ((lC id (l.map prL)).map toL)]:=by
 rw[sW (e:=Aav) rfl]
 exact Xa0 h2 hl
theorem fT (n:Int)(rows:List (List aY))(x:List Int)(ht:aV ⟨n,rows⟩=true)(hx:dM n x)(hc:pJ ⟨n,rows⟩ x=true)(hs:bX rows):Fun T 52 [i64 n,rL rows,rL x]=some [rL (gQ ⟨n,rows⟩ x)]:=by
 rw[aJ (t:=Cb5) rfl];unfold Cb5
 have h0:(aN.mk 1 0).run []=some [rL ([]:List (List Int))]:=rfl
 simp (disch:=first|assumption|omega) only[S0,rA,rQ,rB,rT,rE,dK,h0]
 generalize hE:Er T (Tm.loop _ _) _=E
 obtain⟨r,h1,s,h2,h3,h4⟩:∃ r,E=some r/\∃ s,BInv ⟨n,rows⟩ x s/\s.wait=[]/\r=(.yield 1,[rL s.out]):=by
  rw[<- hE]
  refine lF (γ:=BSt) (fun s=>31+s.wait.length-s.met.length) (fun s=>BInv ⟨n,rows⟩ x s/\s.wait.length<=s.met.length) (fun s=>[rL s.met,rL s.out,rL s.wait]) (fun r=>∃ s,BInv ⟨n,rows⟩ x s/\s.wait=[]/\r=(.yield 1,[rL s.out])) ⟨[x],[],[x]⟩ ?_ ⟨BInv.start hc,by simp⟩ ?_
  ·rfl
  rintro s ⟨hinv,hwl⟩
  have hlen:=hinv.toBPre.len ht hx
  by_cases hw:s.wait=[]
  ·have hd:decide ((0:Int)<(s.wait.length:Nat))=false:=by rw[hw];rfl
   exact .inr ⟨(.yield 1,[rL s.out]),by simp (disch:=first|assumption|omega) only[S0,rA,rQ,rB,rT,rE,hd],by simp,s,hinv,hw,rfl⟩
  ·have hpos:0<s.wait.length:=List.length_pos_iff.2 hw
   obtain⟨hst,hms⟩:=hinv.step hw
   have hlen2:=hst.toBPre.len ht hx
   refine .inl ⟨Gb0 ⟨n,rows⟩ s,?_,⟨hst,by omega⟩,by omega⟩
   have hd:decide ((0:Int)<(s.wait.length:Nat))=true:=decide_eq_true (by omega)
   have hb:InB s.wait 0:=by unfold InB;omega
   have hzw:atI s.wait 0∈s.wait:=bL hb
   obtain⟨hzm,hzc⟩:=hinv.wm _ hzw
   have hzr:=hinv.rch _ hzm
   obtain⟨hz2,hzi⟩:=hzr.inst ht hx
   have hzi':inst n (atI (atI s.wait 0) 0) (atI (atI s.wait 0) 1)=true:=hzi
   have z0:InB (atI s.wait 0) 0:=by unfold InB;omega
   have z1:InB (atI s.wait 0) 1:=by unfold InB;omega
   have hg:bK n=true:=aQ ht
   have zr:=bE hzi'
   have zb:InB rows (atI (atI s.wait 0) 0):=bN ht hzi
   have hys:∀ y∈sH ⟨n,rows⟩ (atI s.wait 0),Kai ⟨n,rows⟩ x y:=fun y hy=>.step hzr hzc hy
   have hyl:=Laz ht (hzr.inst ht hx)
   have hd6:=gT (jX ht hzi) hg
   have hdl:=dQ ht hzi
   have hn:=aT hg
   simp only at hdl hd6
   have hdl5:(cK ⟨n,rows⟩ (atI (atI s.wait 0) 0) (atI (atI s.wait 0) 1)).attr.deps.length<=5:=by omega
   simp (disch:=first|assumption|omega) only[S0,rA,rQ,rB,rT,rE,aI,bA,Bak,hd]
   unfold Gb0
   change _=some (Kind.cont,_)
   have eh:nW (cK ⟨n,rows⟩ (atI (atI s.wait 0) 0) (atI (atI s.wait 0) 1)).attr.deps (cK ⟨n,rows⟩ (atI (atI s.wait 0) 0) (atI (atI s.wait 0) 1)).attr.deps.length=sH ⟨n,rows⟩ (atI s.wait 0):=rfl
   rw[eh]
   have hfin:=Ba2 (ys:=sH ⟨n,rows⟩ (atI s.wait 0)) hinv.toBPre hys
   generalize sH ⟨n,rows⟩ (atI s.wait 0)=ys at hys hyl hfin ⊢
   simp (disch:=first|assumption|omega) only[S0,rA,rQ,rB,rT,rE]
   rw[(Eaf 3 ys (fun i (s:BSt)=>[rL s.met,rL s.out,rL s.wait,rL ys,i64 i]) s (Hab ⟨n,rows⟩) (fun _ u=>BPre ⟨n,rows⟩ x u/\u.wait.length<=u.met.length) (fun s=>[rL s.met,rL s.out,rL s.wait]) rfl ⟨hinv.toBPre,hwl⟩ ?_ ?_).1]
   ·obtain⟨f1,-,-,⟨w',f4⟩,-⟩:=hfin
    generalize ys.foldl (Hab ⟨n,rows⟩) s=u at f1 f4 ⊢
    have e1:(u.wait.take u.wait.length).drop 1=u.wait.drop 1:=by rw[Tbh]
    have hp:1<=u.wait.length:=by rw[f4,Sby];omega
    have hp2:(1:Int)<=(u.wait.length:Nat):=by omega
    simp (disch:=first|assumption|omega) only[S0,rA,rQ,rB,rT,rE,sN,e1,Tbk,Int.toNat_one]
   ·rintro j u hj hbj hlt2 ⟨hu,huw⟩
    have hul:=hu.len ht hx
    have hyr:=hys _ (at_mem hj)
    obtain⟨hy2,hyi⟩:=hyr.inst ht hx
    obtain⟨k2,-,-,-,-,k6⟩:=Haa hu hyr
    refine⟨?_,k2,by omega⟩
    have y0:InB (atI ys (j:Int)) 0:=by unfold InB;omega
    have y1:InB (atI ys (j:Int)) 1:=by unfold InB;omega
    have yb:InB rows (atI (atI ys (j:Int)) 0):=bN ht hyi
    have yr:=bE hyi
    have a1:u.met.length+([atI ys (j:Int)]:List (List Int)).length<=100000000000:=by simp only[Sbw,Sbx];omega
    have a2:u.out.length+([atI ys (j:Int)]:List (List Int)).length<=100000000000:=by simp only[Sbw,Sbx];omega
    have a3:u.wait.length+([atI ys (j:Int)]:List (List Int)).length<=100000000000:=by simp only[Sbw,Sbx];omega
    have b1:u.met.length<=1099511627776:=by omega
    have b3:(atI ys (j:Int)).length<=1099511627776:=by omega
    have hcd:((cK ⟨n,rows⟩ (atI (atI ys (j:Int)) 0) (atI (atI ys (j:Int)) 1)).state==3)=pJ ⟨n,rows⟩ (atI ys (j:Int)):=rfl
    unfold Hab
    cases c1:u.met.any (fun z=>decide (atI ys (j:Int)=z))
    ·cases c3:pJ ⟨n,rows⟩ (atI ys (j:Int))
     ·simp (disch:=first|assumption|omega) only[S0,rA,rQ,rB,rT,rE,aI,dK,bD,dE,bA,hlt2,c1,hcd,c3,Sbv]
     ·simp (disch:=first|assumption|omega) only[S0,rA,rQ,rB,rT,rE,aI,dK,bD,dE,bA,hlt2,c1,hcd,c3,Sbv]
    ·simp (disch:=first|assumption|omega) only[S0,rA,rQ,rB,rT,rE,aI,dE,hlt2,c1]
   ·intro u hlt2 hu
    simp (disch:=first|assumption|omega) only[S0,rA,rQ,rB,rT,rE,hlt2]
 subst h4
 have hol:=h2.toBPre.len ht hx
 have ho2:∀ y∈s.out,y.length=2:=fun y hy=>((h2.rch y ((h2.out y).1 hy).1).inst ht hx).1
 have hol2:s.out.length<=1000000:=by omega
 rw[h1,<- h2.done ht hx h3]
 simp (disch:=first|assumption|omega) only[S0,rA,rQ,rB,rT,rE,pR]
theorem dX (x:List Int)(n:Int)(rows:List (List aY))(ht:aV ⟨n,rows⟩=true)(hs:bX rows)(hx:dM n x)(hc:pJ ⟨n,rows⟩ x=true):Fun T 51 [rL x,i64 n,rL rows]=some [.bool (iM ⟨n,rows⟩ x)]:=by
 rw[aJ (t:=Ya5) rfl];unfold Ya5
 simp (disch:=first|assumption|omega) only[S0,rA,rQ,rB,rT,rE,fT]
 rfl
theorem xP (l:List (List Int))(n:Int)(rows:List (List aY))(ht:aV ⟨n,rows⟩=true)(hs:bX rows)(hl:l.length<=1000)(hx:∀ x∈l,dM n x/\pJ ⟨n,rows⟩ x=true):Fun T 50 [rL l,i64 n,rL rows]=some [i64 (ixF (iM ⟨n,rows⟩) l)]:=by
 rw[aJ (t:=Cb6) rfl];unfold Cb6
 simp (disch:=first|assumption|omega) only[S0,rA,rQ,rB,rT,rE]
 rw[mP 1 l (iM ⟨n,rows⟩) (fun i=>[i64 i])]
 ·cases h:l.any (iM ⟨n,rows⟩)
  ·have e:ixF (iM ⟨n,rows⟩) l=-1:=by
    have h2:=bJ (iM ⟨n,rows⟩) l
    rw[h]at h2
    unfold ixF at h2 ⊢
    split at h2<;>simp_all
   rw[e];simp (disch:=first|assumption|omega) only[S0,rA,rQ,rB,rT,rE]
  ·simp (disch:=first|assumption|omega) only[S0,rA,rQ,rB,rT,rE]
 ·intro i hi hb hlt hp
  obtain⟨q1,q2⟩:=hx _ (at_mem hi)
  simp (disch:=first|assumption|omega) only[S0,rA,rQ,rB,rT,rE,aI,dX,hlt,hp]
 ·intro i hi hb hlt hp
  obtain⟨q1,q2⟩:=hx _ (at_mem hi)
  simp (disch:=first|assumption|omega) only[S0,rA,rQ,rB,rT,rE,aI,dX,hlt,hp]
 ·intro hlt
  simp (disch:=first|assumption|omega) only[S0,rA,rQ,rB,rT,rE,hlt]
theorem vG (l:List (List Int))(n:Int)(rows:List (List aY))(ht:aV ⟨n,rows⟩=true)(hs:bX rows)(hl:l.length<=1000)(hx:∀ x∈l,dM n x/\pJ ⟨n,rows⟩ x=true):Fun T 49 [rL l,i64 n,rL rows]=some [rL (l.filter fun x=>!iM ⟨n,rows⟩ x)]:=by
 rw[aJ (t:=Ya6) rfl];unfold Ya6
 simp (disch:=first|assumption|omega) only[S0,rA,rQ,rB,rT,rE,xP]
 by_cases h:0<=ixF (iM ⟨n,rows⟩) l
 rotate_left
 ·have e:ixF (iM ⟨n,rows⟩) l=-1:=by
   unfold ixF at h ⊢
   split
   ·rename_i i hi;rw[hi]at h;simp at h
   ·rfl
  have e2:l.filter (fun x=>!iM ⟨n,rows⟩ x)=l:=by
   rw[Vb0]
   intro x hxm
   cases hb:iM ⟨n,rows⟩ x with
   |false=>rfl
   | true =>
    obtain⟨k,hk,rfl⟩:=List.mem_iff_getElem.1 hxm
    exact absurd (Uak hk (by rw[bC hk];exact hb)) h
  rw[e,e2]
  simp (disch:=first|assumption|omega) only[S0,rA,rQ,rB,rT,rE]
 ·obtain⟨h1,h2,h3⟩:=Caq h
  generalize hI:ixF (iM ⟨n,rows⟩) l=I at h h1 h2 h3 ⊢
  obtain⟨i,rfl⟩:∃ i:Nat,I=(i:Int):=⟨I.toNat,by omega⟩
  have hil:i<l.length:=aG.1 h1
  have hne:((i:Int)==-1)=false:=by simp
  have hkeep:(l.take (i+1)).filter (fun x=>!iM ⟨n,rows⟩ x)=l.take i:=by
   rw[<- take_at hil,Tbu,Tb0 (by rw[h2];simp),Tbz,Tbb,Vb0]
   intro x hxm
   obtain⟨k,hk,rfl⟩:=List.mem_iff_getElem.1 hxm
   rw[Tbc]at hk
   have h4:=h3 k (by omega)
   rw[bC (by omega)]at h4
   rw[Vby,h4]
   rfl
  simp (disch:=first|assumption|omega) only[S0,rA,rQ,rB,rT,rE,hne]
  generalize hE:Er T (Tm.loop _ _) _=E
  obtain⟨r,e1,kept,J,e2,e3,e4⟩:∃ r,E=some r/\∃ (kept:List (List Int)) (J:List (List D)),kept=l.filter (fun x=>!iM ⟨n,rows⟩ x)/\kept.length+J.length=l.length/\r=(.yield 1,[iY kept J [],i64 ((kept.length:Nat):Int)]):=by
   rw[<- hE]
   refine lF (γ:=Nat×List (List D)) (fun c=>l.length-c.1) (fun c=>i<c.1/\c.1<=l.length/\((l.take c.1).filter fun x=>!iM ⟨n,rows⟩ x).length+c.2.length=c.1/\0<c.2.length/\∀ r∈c.2,r.length=1)
    (fun c=>[iY ((l.take c.1).filter fun x=>!iM ⟨n,rows⟩ x) c.2 (l.drop c.1),i64 ((((l.take c.1).filter fun x=>!iM ⟨n,rows⟩ x).length:Nat):Int),i64 (c.1:Int)])
    (fun r=>∃ (kept:List (List Int)) (J:List (List D)),kept=l.filter (fun x=>!iM ⟨n,rows⟩ x)/\kept.length+J.length=l.length/\r=(.yield 1,[iY kept J [],i64 ((kept.length:Nat):Int)])) (i+1,[Enc.enc (atI l (i:Int))]) ?_ ?_ ?_
   ·dsimp only
    have e:rL l=iY (l.take i) [Enc.enc (atI l (i:Int))] (l.drop (i+1)):=by
     rw[Iai l (i:=i) (by omega),Tb6 hil,yA,bC hil]
     rfl
    rw[hkeep,<- e]
    have hti:((l.take i).length:Int)=(i:Int):=by rw[Tbc];omega
    rw[hti]
    rfl
   ·dsimp only
    rw[hkeep,Tbc]
    refine⟨by omega,by omega,by simp only[Sbw,Sbx];omega,by simp,?_⟩
    intro r hr
    rw[Sb9]at hr
    rw[hr]
    rfl
   ·rintro⟨j,J⟩ ⟨k1,k2,k3,k4,k5⟩
    dsimp only at k1 k2 k3 k4 k5 ⊢
    rcases Tbi j l.length with hlt|hge
    ·refine .inl ?_
     have hjm:=hx _ (at_mem hlt)
     have hjm1:=hjm.1
     have hjm2:=hjm.2
     have ht1:(l.take (j+1))=l.take j++[atI l (j:Int)]:=(take_at hlt).symm
     have hd1:l.drop j=atI l (j:Int)::l.drop (j+1):=by rw[Tb6 hlt,bC hlt]
     have hkl:(l.take j).filter (fun x=>!iM ⟨n,rows⟩ x)=(l.take j).filter (fun x=>!iM ⟨n,rows⟩ x):=rfl
     generalize hK:(l.take j).filter (fun x=>!iM ⟨n,rows⟩ x)=K at k3 hkl ⊢
     have hdl:(l.drop (j+1)).length+(j+1)=l.length:=by rw[Tbx];omega
     have q1:aN.len.run [iY K J (l.drop j)]=some [i64 (l.length:Int)]:=tY (by rw[hd1,Sbw];omega)
     have q2:aN.inb.run [iY K J (l.drop j),i64 (j:Int)]=some []:=tZ (by omega) (by rw[hd1];simp only[Sbw];omega)
     have q3:(aN.row 1 0 [false]).run [iY K J (l.drop j),i64 (j:Int)]=some [rL (atI l (j:Int))]:=by rw[hd1];exact Ca0 (by omega)
     have q4:aN.inb.run [iY K J (l.drop j),i64 (K.length:Int)]=some []:=tZ (by omega) (by rw[hd1];simp only[Sbw];omega)
     have q5:(aN.set 1 0 1).run [iY K J (l.drop j),i64 (j:Int),.hole]=some [iY K (J++[[.hole]]) (l.drop (j+1))]:=by rw[hd1];exact yB (by omega)
     have hdlt:decide ((j:Int)<(l.length:Nat))=true:=decide_eq_true (by omega)
     obtain⟨r0,J0,rfl⟩:∃ r0 J0,J=r0::J0:=by
      match J,k4 with
      |r0::J0,_=>exact⟨r0,J0,rfl⟩
     have q6:(aN.set 1 0 1).run [iY K (r0::J0++[[.hole]]) (l.drop (j+1)),i64 (K.length:Int),rL (atI l (j:Int))]=some [iY (K++[atI l (j:Int)]) (J0++[[.hole]]) (l.drop (j+1))]:=Rab rfl (k5 r0 List.mem_cons_self)
     have q7:iY K (r0::J0) (l.drop j)=iY K (r0::J0++[Enc.enc (atI l (j:Int))]) (l.drop (j+1)):=by rw[hd1,yA]
     have k3':K.length+(J0.length+1)=j:=k3
     have hkj:(K.length:Int)<=1000:=by omega
     cases hb:iM ⟨n,rows⟩ (atI l (j:Int))
     ·refine⟨(j+1,J0++[[.hole]]),?_,?_,by dsimp only;omega⟩
      ·dsimp only
       rw[ht1,Tbu,hK,Ubc (by rw[hb];rfl),Tbz]
       have hlen:(((K++[atI l (j:Int)]).length:Nat):Int)=(K.length:Int)+1:=by simp
       rw[hlen]
       simp (disch:=first|assumption|omega) only[S0,rA,rQ,rB,rT,rE,q1,q2,q3,q4,q5,q6,hdlt,dX,hb]
      ·dsimp only
       rw[ht1,Tbu,hK,Ubc (by rw[hb];rfl),Tbz]
       refine⟨by omega,by omega,?_,?_,?_⟩
       ·simp only[Sby,Sbw,Sbx];omega
       ·simp only[Sby,Sbw,Sbx];omega
       ·intro r hr
        rcases List.mem_append.1 hr with hr|hr
        ·exact k5 r (List.mem_cons_of_mem _ hr)
        ·rw[Sb9]at hr
         rw[hr]
         rfl
     ·refine⟨(j+1,r0::J0++[Enc.enc (atI l (j:Int))]),?_,?_,by dsimp only;omega⟩
      ·dsimp only
       rw[ht1,Tbu,hK,Tb0 (by rw[hb];simp),Tbz,Tbb,<- q7]
       simp (disch:=first|assumption|omega) only[S0,rA,rQ,rB,rT,rE,q1,q2,q3,hdlt,dX,hb]
      ·dsimp only
       rw[ht1,Tbu,hK,Tb0 (by rw[hb];simp),Tbz,Tbb]
       refine⟨by omega,by omega,?_,?_,?_⟩
       ·simp only[Sby,Sbw,Sbx];omega
       ·simp only[Sby,Sbw,Sbx];omega
       ·intro r hr
        rcases List.mem_append.1 hr with hr|hr
        ·exact k5 r hr
        ·rw[Sb9]at hr
         rw[hr]
         rfl
    ·obtain rfl:j=l.length:=by omega
     rw[Tbh]at k3
     refine .inr ⟨(.yield 1,[iY (l.filter fun x=>!iM ⟨n,rows⟩ x) J [],i64 (((l.filter fun x=>!iM ⟨n,rows⟩ x).length:Nat):Int)]),?_,by simp,_,J,rfl,k3,rfl⟩
     rw[Tbh,List.drop_length]
     have q1:aN.len.run [iY (l.filter fun x=>!iM ⟨n,rows⟩ x) J []]=some [i64 (l.length:Int)]:=tY (by simp only[Sbx];omega)
     have hdlt:decide (((l.length:Nat):Int)<(l.length:Nat))=false:=by simp
     simp (disch:=first|assumption|omega) only[S0,rA,rQ,rB,rT,rE,q1,hdlt]
  subst e4
  rw[e1]
  have q1:aN.len.run [iY kept J []]=some [i64 (l.length:Int)]:=tY (by simp only[Sbx];omega)
  obtain⟨d,q2⟩:=Raa (kept:=kept) (J:=J) (n:=(l.length:Int)) (k:=(kept.length:Int)) rfl (by omega)
  have q3:=Rad (kept:=kept) (J:=J) (k:=(kept.length:Int)) rfl
  have q4:=Rac (kept:=kept) (J:=J.map fun r=>r.map fun _=>D.hole) (k:=(kept.length:Int)) rfl
  simp (disch:=first|assumption|omega) only[S0,rA,rQ,rB,rT,rE,q1,q2,q3,q4]
  rw[e2]
theorem jC (n:Int)(rows:List (List aY))(ht:aV ⟨n,rows⟩=true)(hs:bX rows):Fun T 45 [i64 n,rL rows]=some [rL (aF ⟨n,rows⟩)]:=by
 rw[aJ (t:=Zaa) rfl];unfold Zaa;unfold aF
 have hn:=aT (aQ ht)
 simp only at hn
 have hl:(rows.length:Int)=n:=bU ht
 have h6:∀ l∈rows,l.length<=6:=fun l hl=>(bY ht hl).1
 have hl2:rows.length<=100:=by omega
 have hcl:=nJ ht
 simp only at hcl
 have hcl2:(aU rows).length<=1000:=by omega
 have hci:∀ x∈aU rows,dM n x/\pJ ⟨n,rows⟩ x=true:=fun x hx=>nZ ht hx
 simp (disch:=first|assumption|omega) only[S0,rA,rQ,rB,rT,rE,bT,vG]
theorem Uan (n:Int)(rows:List (List aY))(hs:bX rows):Fun T 25 [i64 n,rL rows]=some [rL (uP ⟨n,rows⟩).1,.bool (uP ⟨n,rows⟩).2]:=by
 rw[aJ (t:=Zau) rfl];unfold Zau;unfold uP
 cases ht:aV ⟨n,rows⟩
 ·simp (disch:=first|assumption|omega) only[S0,rA,rQ,rB,rT,rE,bB,ht,Aam,Sbv]
 ·simp (disch:=first|assumption|omega) only[S0,rA,rQ,rB,rT,rE,bB,jC,ht]
theorem oV (n:Int)(rows:List (List aY))(ht:aV ⟨n,rows⟩=true)(hs:bX rows):Fun T 75 [i64 n,rL rows]=some [rL (aF ⟨n,rows⟩)]:=by
 rw[aJ (t:=Gb3) rfl];unfold Gb3;unfold aF
 have hn:=aT (aQ ht)
 simp only at hn
 have hl:(rows.length:Int)=n:=bU ht
 have h6:∀ l∈rows,l.length<=6:=fun l hl=>(bY ht hl).1
 have hl2:rows.length<=100:=by omega
 have hcl:=nJ ht
 simp only at hcl
 simp (disch:=first|assumption|omega) only[S0,rA,rQ,rB,rT,rE,eF]
 rw[bH (aU rows).length (fun k=>[rL (((aU rows).take k).filter fun x=>!iM ⟨n,rows⟩ x),rL (aU rows),i64 k]) (.yield 1,[rL ((aU rows).filter fun x=>!iM ⟨n,rows⟩ x)]) rfl (by simp)]
 ·simp (disch:=first|assumption|omega) only[S0,rA,rQ,rB,rT,rE]
 ·intro k hk hlt
  have hb:InB (aU rows) (k:Int):=aG.2 hk
  obtain⟨x0,x1,hx2,xi,-⟩:=eQ ht (at_mem hk)
  simp only at xi
  have xc:=(nZ ht (at_mem hk)).2
  have hfl:(((aU rows).take k).filter fun x=>!iM ⟨n,rows⟩ x).length<=30:=by
   have:=Ubb (fun x=>!iM ⟨n,rows⟩ x) ((aU rows).take k)
   rw[Tbc]at this
   omega
  have e:[atI (atI (aU rows) (k:Int)) 0,atI (atI (aU rows) (k:Int)) 1]=atI (aU rows) (k:Int):=qU hx2
  have xc2:pJ ⟨n,rows⟩ [atI (atI (aU rows) (k:Int)) 0,atI (atI (aU rows) (k:Int)) 1]=true:=by rw[e];exact xc
  have a1:(((aU rows).take k).filter fun x=>!iM ⟨n,rows⟩ x).length+([atI (aU rows) (k:Int)]:List (List Int)).length<=100000000000:=by simp only[Sbw,Sbx];omega
  rw[<- take_at hk,Tbu]
  have eb:iM ⟨n,rows⟩ (atI (aU rows) (k:Int))=!(((gQ ⟨n,rows⟩ (atI (aU rows) (k:Int))).length:Int)==0):=by
   unfold iM
   generalize (gQ ⟨n,rows⟩ (atI (aU rows) (k:Int))).length=L
   cases L with
   |zero=>rfl
   | succ L =>
    have e1:decide ((0:Int)<((L+1:Nat):Int))=true:=decide_eq_true (by omega)
    have e2:(((L+1:Nat):Int)==0)=false:=beq_false_of_ne (by omega)
    rw[e1,e2]
    rfl
  cases hc:(((gQ ⟨n,rows⟩ (atI (aU rows) (k:Int))).length:Int)==0)
  ·rw[Tb0 (by rw[eb,hc];simp),Tbz,Tbb]
   simp (disch:=first|assumption|omega) only[S0,rA,rQ,rB,rT,rE,aI,eU,hlt,e,hc,Sbv]
  ·rw[Ubc (by rw[eb,hc];simp),Tbz]
   simp (disch:=first|assumption|omega) only[S0,rA,rQ,rB,rT,rE,aI,dK,bD,eU,hlt,e,hc]
 ·intro hlt
  rw[Tbh]
  simp (disch:=first|assumption|omega) only[S0,rA,rQ,rB,rT,rE,hlt]
theorem Saq (n:Int)(rows:List (List aY))(hs:bX rows):Fun T 63 [i64 n,rL rows]=some [rL (uP ⟨n,rows⟩).1,.bool (uP ⟨n,rows⟩).2]:=by
 rw[aJ (t:=Yaw) rfl];unfold Yaw;unfold uP
 cases ht:aV ⟨n,rows⟩
 ·simp (disch:=first|assumption|omega) only[S0,rA,rQ,rB,rT,rE,bR,ht,Aam,Sbv]
 ·simp (disch:=first|assumption|omega) only[S0,rA,rQ,rB,rT,rE,bR,oV,ht]
theorem nP (G:List (List Int))(a:Int)(hg:GOk G)(ha:InB G a)(hl:G.length<=1000)(hr:∀ r∈G,r.length<=1000):Fun T 105 [rL G,i64 a]=some [rL (fK G a)]:=by
 rw[aJ (t:=Fae) rfl];unfold Fae
 simp (disch:=first|assumption|omega) only[S0,rA,rQ,rB,rT,rE,dK]
 generalize hE:Er T (Tm.loop _ _) _=E
 obtain⟨r,h1,s,h2,h3⟩:∃ r,E=some r/\∃ s,Rax G a s.que.length s/\r=(.yield 1,[rL s.met]):=by
  rw[<- hE]
  refine lF (γ:=Nat×HSt) (fun c=>G.length+1-c.1) (fun c=>Rax G a c.1 c.2) (fun c=>[rL c.2.met,rL c.2.que,i64 (c.1:Int)]) (fun r=>∃ s,Rax G a s.que.length s/\r=(.yield 1,[rL s.met])) (0,⟨[a],[a]⟩) ?_ (Rax.start ha) ?_
  ·rfl
  rintro⟨i,s⟩ hinv
  dsimp only at hinv ⊢
  have hlen:=hinv.toHPre.len hg
  rcases Tbi i s.que.length with hlt|hge
  ·refine .inl ⟨(i+1,(atI G (atI s.que (i:Int))).foldl hI s),?_,hinv.step hlt,by dsimp only;omega⟩
   dsimp only
   have hb:InB s.que (i:Int):=aG.2 hlt
   have hd:decide ((i:Int)<s.que.length)=true:=by simp;omega
   have hzr:=hinv.rch _ (at_mem hlt)
   have hzb:=hzr.inb hg ha
   have hys:∀ c∈atI G (atI s.que (i:Int)),Rch G a c:=fun c hc=>.step hzr hc
   have hyl:=hr _ (bL hzb)
   simp (disch:=first|assumption|omega) only[S0,rA,rQ,rB,rT,rE,aI,hd]
   generalize atI G (atI s.que (i:Int))=ys at hys hyl ⊢
   rw[(Eaf 3 ys (fun i (s:HSt)=>[rL s.met,rL s.que,i64 i]) s hI (fun _ u=>HPre G a u) (fun s=>[rL s.met,rL s.que]) rfl hinv.toHPre ?_ ?_).1]
   ·simp (disch:=first|assumption|omega) only[S0,rA,rQ,rB,rT,rE]
   ·intro j u hj hbj hlt2 hu
    have hul:=hu.len hg
    have hyr:=hys _ (at_mem hj)
    refine⟨?_,(Qax hu hyr).1⟩
    have a1:u.que.length+([atI ys (j:Int)]:List Int).length<=100000000000:=by simp only[Sbw,Sbx];omega
    have b1:u.que.length<=1099511627776:=by omega
    have b2:u.met.length<=10000000000:=by omega
    unfold hI
    cases c1:fE u.que (atI ys (j:Int))
    ·simp (disch:=first|assumption|omega) only[S0,rA,rQ,rB,rT,rE,aI,dK,bD,dN,nC,hlt2,c1,Sbv]
    ·simp (disch:=first|assumption|omega) only[S0,rA,rQ,rB,rT,rE,aI,dN,hlt2,c1]
   ·intro u hlt2 hu
    simp (disch:=first|assumption|omega) only[S0,rA,rQ,rB,rT,rE,hlt2]
  ·obtain rfl:i=s.que.length:=by have:=hinv.le;omega
   have hd:decide (((s.que.length:Nat):Int)<s.que.length)=false:=by simp
   exact .inr ⟨(.yield 1,[rL s.met]),by simp (disch:=first|assumption|omega) only[S0,rA,rQ,rB,rT,rE,hd],by simp,s,hinv,rfl⟩
 subst h3
 rw[h1,<- h2.done hg]
 simp (disch:=first|assumption|omega) only[S0,rA,rQ,rB,rT,rE]
theorem sD (G:List (List Int))(a:Int)(hg:GOk G)(ha:InB G a)(hl:G.length<=1000)(hr:∀ r∈G,r.length<=1000):Fun T 89 [rL G,i64 a]=some [rL (fK G a)]:=by
 rw[aJ (t:=Yad) rfl];unfold Yad
 have hrep:InB (Sb1 G.length false) a:=by unfold InB at ha ⊢;rw[Tbq];exact ha
 have e0:((G.length:Nat):Int).toNat=G.length:=Tbk _
 have h0:(aN.mk 1 0).run []=some [rL ([]:List Int)]:=rfl
 simp (disch:=first|assumption|omega) only[S0,rA,rQ,rB,rT,rE,dK,kI,e0]
 generalize hE:Er T (Tm.loop _ _) _=E
 obtain⟨r,h1,s,h2,h4,h3⟩:∃ r,E=some r/\∃ s,GInv G a s/\s.todo=[]/\r=(.yield 1,[rL s.marks]):=by
  rw[<- hE]
  refine lF (γ:=GSt) (fun s=>s.left) (fun s=>GInv G a s) (fun s=>[rL s.marks,rL s.todo]) (fun r=>∃ s,GInv G a s/\s.todo=[]/\r=(.yield 1,[rL s.marks])) ⟨dB (Sb1 G.length false) a true,[a]⟩ ?_ (GInv.start ha) ?_
  ·rfl
  rintro s hinv
  have hcnt:=hinv.cnt
  unfold GSt.left at hcnt
  by_cases hw:s.todo=[]
  ·have hd:decide ((0:Int)<(s.todo.length:Nat))=false:=by rw[hw];rfl
   exact .inr ⟨(.yield 1,[rL s.marks]),by simp (disch:=first|assumption|omega) only[S0,rA,rQ,rB,rT,rE,hd],by simp,s,hinv,hw,rfl⟩
  ·have hpos:0<s.todo.length:=List.length_pos_iff.2 hw
   obtain⟨hst,hms,hpre⟩:=hinv.step hg hw
   refine .inl ⟨gO G s,?_,hst,by omega⟩
   have hd:decide ((0:Int)<(s.todo.length:Nat))=true:=decide_eq_true (by omega)
   have hb:InB s.todo 0:=by unfold InB;omega
   obtain⟨z1,z2⟩:=hinv.tm _ (bL hb)
   have zr:=hinv.rch _ z1 z2
   have hys:∀ c∈atI G (atI s.todo 0),InB G c/\Rch G a c:=fun c hc=>⟨hg.out z1 hc,.step zr hc⟩
   have hyl:=hr _ (bL z1)
   have hfin:=(La6 hinv.toGPre hys).2.2.2.1
   simp (disch:=first|assumption|omega) only[S0,rA,rQ,rB,rT,rE,aI,hd]
   unfold gO
   generalize atI G (atI s.todo 0)=ys at hys hyl hpre hfin ⊢
   rw[(Eaf 3 ys (fun i (s:GSt)=>[rL s.marks,rL s.todo,i64 i]) s gI (fun _ u=>GPre G a u) (fun s=>[rL s.marks,rL s.todo]) rfl hinv.toGPre ?_ ?_).1]
   ·generalize ys.foldl gI s=u at hpre hfin ⊢
    have hcu:=hpre.cnt
    unfold GSt.left at hcu
    obtain⟨w,hw2⟩:=hfin
    have e1:(u.todo.take u.todo.length).drop 1=u.todo.drop 1:=by rw[Tbh]
    have hp:1<=u.todo.length:=by rw[hw2,Sby];omega
    have hp2:(1:Int)<=(u.todo.length:Nat):=by omega
    simp (disch:=first|assumption|omega) only[S0,rA,rQ,rB,rT,rE,sN,e1,Tbk,Int.toNat_one]
   ·intro j u hj hbj hlt2 hu
    have hcu:=hu.cnt
    unfold GSt.left at hcu
    have hyr:=hys _ (at_mem hj)
    have yb:InB u.marks (atI ys (j:Int)):=by have:=hyr.1;unfold InB at this ⊢;rw[hu.len];exact this
    refine⟨?_,(Qa1 hu hyr.1 hyr.2).1⟩
    have a1:u.todo.length+([atI ys (j:Int)]:List Int).length<=100000000000:=by simp only[Sbw,Sbx];omega
    unfold gI
    cases c1:atI u.marks (atI ys (j:Int))
    ·simp (disch:=first|assumption|omega) only[S0,rA,rQ,rB,rT,rE,aI,kI,dK,bD,hlt2,c1,Sbv]
    ·simp (disch:=first|assumption|omega) only[S0,rA,rQ,rB,rT,rE,aI,kI,hlt2,c1]
   ·intro u hlt2 hu
    simp (disch:=first|assumption|omega) only[S0,rA,rQ,rB,rT,rE,hlt2]
 subst h3
 rw[h1]
 have hml:=h2.len
 have hm3:s.marks.length<=1099511627776:=by omega
 simp (disch:=first|assumption|omega) only[S0,rA,rQ,rB,rT,rE,kI,h0]
 rw[bH s.marks.length (fun k=>[rL ((nums k).filter (tO G a)),i64 k]) (.yield 5,[rL (fK G a)]) rfl (by simp)]
 ·simp (disch:=first|assumption|omega) only[S0,rA,rQ,rB,rT,rE]
 ·intro k hk hlt
  have hb:InB s.marks (k:Int):=aG.2 hk
  have hkb:InB G (k:Int):=aG.2 (by omega)
  have hm:=h2.done hg h4 hkb
  have hfl:((nums k).filter (tO G a)).length<=k:=by
   have:=Ubb (tO G a) (nums k)
   rw[dA]at this
   exact this
  have a1:((nums k).filter (tO G a)).length+([(k:Int)]:List Int).length<=100000000000:=by simp only[Sbw,Sbx];omega
  rw[mI,Tbu]
  cases c1:tO G a (k:Int)
  ·rw[Tb0 (by rw[c1];simp),Tbz,Tbb]
   simp (disch:=first|assumption|omega) only[S0,rA,rQ,rB,rT,rE,kI,hlt,hm,c1,Sbv]
  ·rw[Ubc c1,Tbz]
   simp (disch:=first|assumption|omega) only[S0,rA,rQ,rB,rT,rE,kI,dK,bD,hlt,hm,c1]
 ·intro hlt
  unfold fK
  rw[hml]at hlt ⊢
  simp (disch:=first|assumption|omega) only[S0,rA,rQ,rB,rT,rE,hlt]
theorem pO (G:List (List Int))(hg:GOk G)(hl:G.length<=1000)(hr:∀ r∈G,r.length<=1000):Fun T 104 [rL G]=some [rL (iU G)]:=by
 rw[aJ (t:=Faf) rfl];unfold Faf
 simp (disch:=first|assumption|omega) only[S0,rA,rQ,rB,rT,rE,Aam]
 rw[bH G.length (fun k=>[rL ((nums k).map (fK G)),i64 k]) (.yield 1,[rL (rsM G)]) rfl (by simp)]
 ·simp (disch:=first|assumption|omega) only[S0,rA,rQ,rB,rT,rE]
  rw[bH G.length (fun k=>[rL (Vak G k),i64 k]) (.yield 3,[rL (iU G)]) rfl (by simp)]
  ·simp (disch:=first|assumption|omega) only[S0,rA,rQ,rB,rT,rE]
  ·intro k hk hlt
   have hb:InB G (k:Int):=aG.2 hk
   have hb2:=oI hb
   have hat:=uO hb
   have hrl:=jV G (k:Int)
   have hcl:=Ca2 G k
   simp (disch:=first|assumption|omega) only[S0,rA,rQ,rB,rT,rE,aI,hlt,hat]
   rw[bH (fK G (k:Int)).length (fun m=>[rL (((fK G (k:Int)).take m).filter fun j=>tO G j (k:Int)),i64 m]) (.yield 5,[rL (uF G (k:Int))]) rfl (by simp)]
   ·have hs:=qF hg hb
    have hgp:=Ubu hs
    have hgb:InB (uF G (k:Int)) 0:=by unfold InB;omega
    have a1:(Vak G k).length+([uF G (k:Int)]:List (List Int)).length<=100000000000:=by simp only[Sbw,Sbx];omega
    rw[yF]
    cases c1:(atI (uF G (k:Int)) 0==(k:Int))
    ·simp (disch:=first|assumption|omega) only[S0,rA,rQ,rB,rT,rE,aI,c1,Sbv,Tbb]
    ·simp (disch:=first|assumption|omega) only[S0,rA,rQ,rB,rT,rE,aI,dK,bD,c1]
   ·intro m hm hlt2
    have hbm:InB (fK G (k:Int)) (m:Int):=aG.2 hm
    have hj:=yX (at_mem hm)
    have hjb:=oI hj
    have hjat:=uO hj
    have hjl:=jV G (atI (fK G (k:Int)) (m:Int))
    have hhas:=zG hg (j:=(k:Int)) hj
    have hfl:(((fK G (k:Int)).take m).filter fun j=>tO G j (k:Int)).length<=m:=by
     have:=Ubb (fun j=>tO G j (k:Int)) ((fK G (k:Int)).take m)
     rw[Tbc]at this
     omega
    have a1:(((fK G (k:Int)).take m).filter fun j=>tO G j (k:Int)).length+([atI (fK G (k:Int)) (m:Int)]:List Int).length<=100000000000:=by simp only[Sbw,Sbx];omega
    have b1:(fK G (atI (fK G (k:Int)) (m:Int))).length<=1099511627776:=by omega
    rw[Qa6 hm]
    cases c1:tO G (atI (fK G (k:Int)) (m:Int)) (k:Int)
    ·simp (disch:=first|assumption|omega) only[S0,rA,rQ,rB,rT,rE,aI,dN,hlt2,hjat,hhas,c1,Sbv,Tbb]
    ·simp (disch:=first|assumption|omega) only[S0,rA,rQ,rB,rT,rE,aI,dK,bD,dN,hlt2,hjat,hhas,c1]
   ·intro hlt2
    rw[Tbh]
    simp (disch:=first|assumption|omega) only[S0,rA,rQ,rB,rT,rE,hlt2]
    rfl
  ·intro hlt
   simp (disch:=first|assumption|omega) only[S0,rA,rQ,rB,rT,rE,hlt]
   rfl
 ·intro k hk hlt
  have hb:InB G (k:Int):=aG.2 hk
  have hl2:((nums k).map (fK G)).length+([fK G (k:Int)]:List (List Int)).length<=100000000000:=by simp only[Sb5,dA,Sbw,Sbx];omega
  have e:(nums (k+1)).map (fK G)=(nums k).map (fK G)++[fK G (k:Int)]:=by rw[mI,Tby];rfl
  rw[e]
  simp (disch:=first|assumption|omega) only[S0,rA,rQ,rB,rT,rE,dK,bD,nP,hlt]
 ·intro hlt
  simp (disch:=first|assumption|omega) only[S0,rA,rQ,rB,rT,rE,hlt]
  rfl
theorem dL (G:List (List Int))(out:List (List Int))(C:List Int)(x:Int)(hx:InB G x)(hC:C.length<=1000):Fun T 96 [i64 x,rL (jO G.length out),rL C]=some [.bool (!gB out x&&!fE C x)]:=by
 rw[aJ (t:=Gbu) rfl];unfold Gbu
 have hb:InB (jO G.length out) x:=by unfold InB at hx ⊢;rw[xX];exact hx
 have hat:atI (jO G.length out) x=gB out x:=Qac hx
 cases c1:gB out x<;>cases c2:fE C x<;>simp (disch:=first|assumption|omega) only[S0,rA,rQ,rB,rT,rE,kI,slices_Contains_int,hat,c1,c2]
theorem kF (G:List (List Int))(out:List (List Int))(C xs:List Int)(hxs:xs.length<=1000)(hx:∀ x∈xs,InB G x)(hC:C.length<=1000):Fun T 95 [rL xs,rL (jO G.length out),rL C]=some [i64 (ixF (fun x=>!gB out x&&!fE C x) xs)]:=by
 rw[aJ (t:=Xa9) rfl];unfold Xa9
 simp (disch:=first|assumption|omega) only[S0,rA,rQ,rB,rT,rE]
 rw[mP 1 xs (fun x=>!gB out x&&!fE C x) (fun i=>[i64 i])]
 ·cases h:xs.any (fun x=>!gB out x&&!fE C x)
  ·have e:ixF (fun x=>!gB out x&&!fE C x) xs=-1:=by
    have h2:=bJ (fun x=>!gB out x&&!fE C x) xs
    rw[h]at h2
    unfold ixF at h2 ⊢
    split at h2<;>simp_all
   rw[e];simp (disch:=first|assumption|omega) only[S0,rA,rQ,rB,rT,rE]
  ·simp (disch:=first|assumption|omega) only[S0,rA,rQ,rB,rT,rE]
 ·intro i hi hb hlt hp
  have q1:=hx _ (at_mem hi)
  simp (disch:=first|assumption|omega) only[S0,rA,rQ,rB,rT,rE,aI,dL,hlt,hp]
 ·intro i hi hb hlt hp
  have q1:=hx _ (at_mem hi)
  simp (disch:=first|assumption|omega) only[S0,rA,rQ,rB,rT,rE,aI,dL,hlt,hp]
 ·intro hlt
  simp (disch:=first|assumption|omega) only[S0,rA,rQ,rB,rT,rE,hlt]
theorem kH (G:List (List Int))(out:List (List Int))(C xs:List Int)(hxs:xs.length<=1000)(hx:∀ x∈xs,InB G x)(hC:C.length<=1000):Fun T 94 [rL xs,rL (jO G.length out),rL C]=some [.bool (xs.any fun x=>!gB out x&&!fE C x)]:=by
 rw[aJ (t:=Yaa) rfl];unfold Yaa
 simp (disch:=first|assumption|omega) only[S0,rA,rQ,rB,rT,rE,kF,bJ]
theorem eP (G:List (List Int))(out:List (List Int))(C:List Int)(hl:G.length<=1000)(hC:C.length<=1000)(hC0:InB C 0)(hG:InB G (atI C 0)):Fun T 93 [rL C,rL (rsM G),rL (jO G.length out)]=some [.bool (lK G out C)]:=by
 rw[aJ (t:=Vav) rfl];unfold Vav;unfold lK
 have hb2:=oI hG
 have hat:=uO hG
 have hrl:=jV G (atI C 0)
 have hin:∀ x∈fK G (atI C 0),InB G x:=fun x hx=>yX hx
 have e:((fK G (atI C 0)).all fun j=>gB out j||fE C j)=!((fK G (atI C 0)).any fun x=>!gB out x&&!fE C x):=by
  rw[List.not_any_eq_all_not]
  congr 1
  funext x
  cases gB out x<;>cases fE C x<;>rfl
 rw[e]
 simp (disch:=first|assumption|omega) only[S0,rA,rQ,rB,rT,rE,aI,kH,hat]
theorem mK (G:List (List Int))(out xs:List (List Int))(hl:G.length<=1000)(hxs:xs.length<=1000)(hx:∀ C∈xs,C.length<=1000/\InB C 0/\InB G (atI C 0)):Fun T 92 [rL xs,rL (rsM G),rL (jO G.length out)]=some [i64 (ixF (lK G out) xs)]:=by
 rw[aJ (t:=Yab) rfl];unfold Yab
 simp (disch:=first|assumption|omega) only[S0,rA,rQ,rB,rT,rE]
 rw[mP 1 xs (lK G out) (fun i=>[i64 i])]
 ·cases h:xs.any (lK G out)
  ·have e:ixF (lK G out) xs=-1:=by
    have h2:=bJ (lK G out) xs
    rw[h]at h2
    unfold ixF at h2 ⊢
    split at h2<;>simp_all
   rw[e];simp (disch:=first|assumption|omega) only[S0,rA,rQ,rB,rT,rE]
  ·simp (disch:=first|assumption|omega) only[S0,rA,rQ,rB,rT,rE]
 ·intro i hi hb hlt hp
  obtain⟨q1,q2,q3⟩:=hx _ (at_mem hi)
  simp (disch:=first|assumption|omega) only[S0,rA,rQ,rB,rT,rE,aI,eP,hlt,hp]
 ·intro i hi hb hlt hp
  obtain⟨q1,q2,q3⟩:=hx _ (at_mem hi)
  simp (disch:=first|assumption|omega) only[S0,rA,rQ,rB,rT,rE,aI,eP,hlt,hp]
 ·intro hlt
  simp (disch:=first|assumption|omega) only[S0,rA,rQ,rB,rT,rE,hlt]
theorem jY (G:List (List Int))(hg:GOk G)(hl:G.length<=1000)(hr:∀ r∈G,r.length<=1000):Fun T 103 [rL G]=some [rL (aS G)]:=by
 rw[aJ (t:=Fag) rfl];unfold Fag
 have h0:(D.rows 1 [])=rL ([]:List (List Int)):=rfl
 simp (disch:=first|assumption|omega) only[S0,rA,rQ,rB,rT,rE,pO]
 generalize hE:Er T (Tm.loop _ _) _=E
 obtain⟨r,h1,h3⟩:∃ r,E=some r/\r=(.yield 1,[rL (aS G)]):=by
  rw[<- hE]
  refine lF (γ:=CSt) (fun s=>s.rest.length) (fun s=>Eat G s/\cM G s.rest.length s=aS G) (fun s=>[rL s.rest,rL s.out]) (fun r=>r=(.yield 1,[rL (aS G)])) ⟨iU G,[]⟩ ?_ ⟨Eat.start G,rfl⟩ ?_
  ·rfl
  rintro s ⟨hinv,hfin⟩
  have hlen:=hinv.len
  by_cases hw:s.rest=[]
  ·have hd:decide ((0:Int)<(s.rest.length:Nat))=false:=by rw[hw];rfl
   refine .inr ⟨(.yield 1,[rL s.out]),by simp (disch:=first|assumption|omega) only[S0,rA,rQ,rB,rT,rE,hd],by simp,?_⟩
   rw[hw]at hfin
   rw[<- hfin]
   rfl
  ·have hpos:0<s.rest.length:=List.length_pos_iff.2 hw
   obtain⟨hst,hms⟩:=hinv.step hg hw
   obtain⟨t1,t2,t3,t4⟩:=hinv.top hg hw
   have hfin2:cM G (cO G s).rest.length (cO G s)=aS G:=by
    rw[<- hfin,<- hms]
    rfl
   refine .inl ⟨cO G s,?_,⟨hst,hfin2⟩,by omega⟩
   have hd:decide ((0:Int)<(s.rest.length:Nat))=true:=decide_eq_true (by omega)
   simp (disch:=first|assumption|omega) only[S0,rA,rQ,rB,rT,rE,hd]
   rw[sZ (γ:=Nat) (.yield 3,[rL (cO G s).rest,rL (cO G s).out]) (fun i=>wR G s-i) (fun i=>i<=wR G s) (fun i=>[i64 (i:Int)]) 0 rfl (Ubo _) (by simp)]
   ·simp (disch:=first|assumption|omega) only[S0,rA,rQ,rB,rT,rE]
   ·intro i hi
    have hil:i<s.rest.length:=by omega
    have hb:InB s.rest (i:Int):=aG.2 hil
    have hd2:decide ((i:Int)<(s.rest.length:Nat))=true:=decide_eq_true (by omega)
    obtain⟨g1,g2,g3,g4,g5⟩:=hinv.grp hg (at_mem hil)
    simp (disch:=first|assumption|omega) only[S0,rA,rQ,rB,rT,rE,aI,hd2]
    rw[bH (atI s.rest (i:Int)).length (fun m=>[.bool (zI G s.rest i m),i64 m]) (.yield 5,[.bool (lK G s.out (atI s.rest (i:Int)))]) (by rw[Ha5];rfl) (by simp)]
    ·cases hf:lK G s.out (atI s.rest (i:Int))
     ·refine .inl ⟨i+1,?_,?_,?_⟩
      ·simp (disch:=first|assumption|omega) only[S0,rA,rQ,rB,rT,rE,Sbv]
      ·rcases Tbi i (wR G s) with h|h
       ·omega
       ·obtain rfl:i=wR G s:=by omega
        rw[hf]at t3;cases t3
      ·rcases Tbi i (wR G s) with h|h
       ·omega
       ·obtain rfl:i=wR G s:=by omega
        rw[hf]at t3;cases t3
     ·refine .inr ?_
      have e:i=wR G s:=by
       rcases Tbi i (wR G s) with h|h
       ·rw[t4 i h]at hf;cases hf
       ·omega
      unfold cO
      rw[<- e]
      have e1:(s.rest.take ((i:Int)).toNat).drop (0:Int).toNat=s.rest.take i:=rfl
      have e2:(s.rest.take ((s.rest.length:Nat):Int).toNat).drop (((i:Int)+1)).toNat=s.rest.drop (i+1):=by
       rw[Tbk,Tbh]
       rfl
      have a1:s.out.length+([atI s.rest (i:Int)]:List (List Int)).length<=100000000000:=by simp only[Sbw,Sbx];omega
      have a2:([]:List (List Int)).length+(s.rest.take i).length<=100000000000:=by simp only[Sbx,Tbc];omega
      have a3:(s.rest.take i).length+(s.rest.drop (i+1)).length<=100000000000:=by simp only[Tbc,Tbx];omega
      have h0:(aN.mk 1 0).run []=some [rL ([]:List (List Int))]:=rfl
      simp (disch:=first|assumption|omega) only[S0,rA,rQ,rB,rT,rE,dK,bD,sN,h0,e1,e2,Tb2]
    ·intro m hm hlt2
     have hbm:InB (atI s.rest (i:Int)) (m:Int):=aG.2 hm
     have hjG:=g3 _ (at_mem hm)
     have hjl:=hr _ (bL hjG)
     rw[Ha6 hm]
     simp (disch:=first|assumption|omega) only[S0,rA,rQ,rB,rT,rE,aI,hlt2]
     generalize atI (atI s.rest (i:Int)) (m:Int)=j at hjG hjl ⊢
     rw[bH s.rest.length (fun k=>[.bool (zI G s.rest i m&&Ca7 G s.rest i j k),i64 k]) (.yield 7,[.bool (zI G s.rest i m&&Ca7 G s.rest i j s.rest.length)]) (by rw[Ha7,Ub8];rfl) (by simp)]
     ·simp (disch:=first|assumption|omega) only[S0,rA,rQ,rB,rT,rE]
     ·intro k hk hlt3
      have hbk:InB s.rest (k:Int):=aG.2 hk
      obtain⟨k1,k2,k3,k4,k5⟩:=hinv.grp hg (at_mem hk)
      rw[Ha8,<- Ubv]
      generalize (zI G s.rest i m&&Ca7 G s.rest i j k)=b0
      simp (disch:=first|assumption|omega) only[S0,rA,rQ,rB,rT,rE,aI,hlt3]
      rw[bH (atI s.rest (k:Int)).length (fun q=>[.bool (b0&&Baq G s.rest i j k q),i64 q]) (.yield 9,[.bool (b0&&Baq G s.rest i j k (atI s.rest (k:Int)).length)]) (by rw[Ha9,Ub8];rfl) (by simp)]
      ·simp (disch:=first|assumption|omega) only[S0,rA,rQ,rB,rT,rE]
      ·intro q hq hlt4
       have hbq:InB (atI s.rest (k:Int)) (q:Int):=aG.2 hq
       rw[Iaa hq,<- Ubv]
       have ek:((k:Int)==(i:Int))=(k==i):=by
        rw[Vba,beq_iff_eq,beq_iff_eq]
        omega
       generalize (b0&&Baq G s.rest i j k q)=b1
       have jl2:(atI G j).length<=1099511627776:=by omega
       cases b1<;>cases c2:(k==i)<;>cases c3:fE (atI G j) (atI (atI s.rest (k:Int)) (q:Int))<;>simp (disch:=first|assumption|omega) only[S0,rA,rQ,rB,rT,rE,aI,dN,hlt4,ek,c2,c3]<;>rfl
      ·intro hlt4
       simp (disch:=first|assumption|omega) only[S0,rA,rQ,rB,rT,rE,hlt4]
     ·intro hlt3
      simp (disch:=first|assumption|omega) only[S0,rA,rQ,rB,rT,rE,hlt3]
    ·intro hlt2
     rw[Maa,Qa3 hg hinv hil]
     simp (disch:=first|assumption|omega) only[S0,rA,rQ,rB,rT,rE,hlt2]
 subst h3
 rw[h1]
 simp (disch:=first|assumption|omega) only[S0,rA,rQ,rB,rT,rE]
theorem Ga2 (xs:List (List Int))(i:Nat)(h:i<xs.length)(hl:xs.length<=1000000):Fun T 97 [Uat xs (i:Int),i64 (i:Int),i64 ((i:Int)+1)]=some [rL (xs.take i++xs.drop (i+1))]:=by
 rw[sW (e:=Fbx 1) rfl]
 exact Maq h hl
theorem mM (G:List (List Int))(hg:GOk G)(hl:G.length<=1000)(hr:∀ r∈G,r.length<=1000):Fun T 88 [rL G]=some [rL (aS G)]:=by
 rw[aJ (t:=Yae) rfl];unfold Yae
 have h0:(aN.mk 1 0).run []=some [rL ([]:List (List Int))]:=rfl
 have h0':rL ([]:List (List Int))=rL ([]:List Int):=rfl
 have e0:((G.length:Nat):Int).toNat=G.length:=Tbk _
 simp (disch:=first|assumption|omega) only[S0,rA,rQ,rB,rT,rE,h0]
 rw[bH G.length (fun k=>[i64 k,rL ((nums k).map (fK G))]) (.yield 1,[rL (rsM G)]) rfl (by simp)]
 rotate_left
 ·intro k hk hlt
  have hb:InB G (k:Int):=aG.2 hk
  have hl2:((nums k).map (fK G)).length+([fK G (k:Int)]:List (List Int)).length<=100000000000:=by simp only[Sb5,dA,Sbw,Sbx];omega
  have e:(nums (k+1)).map (fK G)=(nums k).map (fK G)++[fK G (k:Int)]:=by rw[mI,Tby];rfl
  rw[e]
  simp (disch:=first|assumption|omega) only[S0,rA,rQ,rB,rT,rE,dK,bD,sD,hlt]
 ·intro hlt
  simp (disch:=first|assumption|omega) only[S0,rA,rQ,rB,rT,rE,hlt]
  rfl
 simp (disch:=first|assumption|omega) only[S0,rA,rQ,rB,rT,rE,h0,kI,e0]
 rw[bH G.length (fun k=>[rL (Vak G k),i64 k]) (.yield 3,[rL (iU G)]) rfl (by simp)]
 rotate_left
 ·intro k hk hlt
  have hb:InB G (k:Int):=aG.2 hk
  have hb2:=oI hb
  have hat:=uO hb
  have hrl:=jV G (k:Int)
  have hcl:=Ca2 G k
  simp (disch:=first|assumption|omega) only[S0,rA,rQ,rB,rT,rE,hlt,h0]
  rw[bH G.length (fun m=>[rL (Cb7 G (k:Int) m),i64 m]) (.yield 5,[rL (uF G (k:Int))]) rfl (by simp)]
  ·have hs:=qF hg hb
   have hgp:=Ubu hs
   have hgb:InB (uF G (k:Int)) 0:=by unfold InB;omega
   have a1:(Vak G k).length+([uF G (k:Int)]:List (List Int)).length<=100000000000:=by simp only[Sbw,Sbx];omega
   rw[yF]
   cases c1:(atI (uF G (k:Int)) 0==(k:Int))
   ·simp (disch:=first|assumption|omega) only[S0,rA,rQ,rB,rT,rE,aI,c1,Sbv,Tbb]
   ·simp (disch:=first|assumption|omega) only[S0,rA,rQ,rB,rT,rE,aI,dK,bD,c1]
  ·intro m hm hlt2
   have hj:InB G (m:Int):=aG.2 hm
   have hjb:=oI hj
   have hjat:=uO hj
   have hjl:=jV G (m:Int)
   have hhas:=zG hg (j:=(k:Int)) hj
   have hhas2:=zG hg (j:=(m:Int)) hb
   have hfl:=Qay G (k:Int) m
   have a1:(Cb7 G (k:Int) m).length+([(m:Int)]:List Int).length<=100000000000:=by simp only[Sbw,Sbx];omega
   have b1:(fK G (m:Int)).length<=1099511627776:=by omega
   rw[La1]
   cases c1:tO G (k:Int) (m:Int)
   ·simp (disch:=first|assumption|omega) only[S0,rA,rQ,rB,rT,rE,aI,slices_Contains_int,hlt2,hat,hhas2,c1,Vbh,Sbv,Tbb]
   ·cases c2:tO G (m:Int) (k:Int)
    ·simp (disch:=first|assumption|omega) only[S0,rA,rQ,rB,rT,rE,aI,slices_Contains_int,hlt2,hat,hjat,hhas,hhas2,c1,c2,Ubw,Sbv,Tbb]
    ·simp (disch:=first|assumption|omega) only[S0,rA,rQ,rB,rT,rE,aI,dK,bD,slices_Contains_int,hlt2,hat,hjat,hhas,hhas2,c1,c2,Ubw]
  ·intro hlt2
   rw[Qaz]
   simp (disch:=first|assumption|omega) only[S0,rA,rQ,rB,rT,rE,hlt2]
 ·intro hlt
  simp (disch:=first|assumption|omega) only[S0,rA,rQ,rB,rT,rE,hlt]
  rfl
 simp (disch:=first|assumption|omega) only[S0,rA,rQ,rB,rT,rE,h0]
 generalize hE:Er T (Tm.loop _ _) _=E
 obtain⟨r,h1,q,h3⟩:∃ r,E=some r/\∃ q,r=(.yield 7,[rL (aS G),q]):=by
  rw[<- hE]
  refine lF (γ:=CSt) (fun s=>s.rest.length) (fun s=>Eat G s/\cM G s.rest.length s=aS G) (fun s=>[rL s.rest,rL s.out,rL (jO G.length s.out)]) (fun r=>∃ q,r=(.yield 7,[rL (aS G),q])) ⟨iU G,[]⟩ ?_ ⟨Eat.start G,rfl⟩ ?_
  ·rw[Man]
   rfl
  rintro s ⟨hinv,hfin⟩
  have hlen:=hinv.len
  by_cases hw:s.rest=[]
  ·have hd:decide ((0:Int)<(s.rest.length:Nat))=false:=by rw[hw];rfl
   refine .inr ⟨(.yield 7,[rL s.out,rL (jO G.length s.out)]),by simp (disch:=first|assumption|omega) only[S0,rA,rQ,rB,rT,rE,hd],by simp,rL (jO G.length s.out),?_⟩
   rw[hw]at hfin
   rw[<- hfin]
   rfl
  ·have hpos:0<s.rest.length:=List.length_pos_iff.2 hw
   obtain⟨hst,hms⟩:=hinv.step hg hw
   obtain⟨t1,t2,t3,t4⟩:=hinv.top hg hw
   have hfin2:cM G (cO G s).rest.length (cO G s)=aS G:=by
    rw[<- hfin,<- hms]
    rfl
   refine .inl ⟨cO G s,?_,⟨hst,hfin2⟩,by omega⟩
   have hd:decide ((0:Int)<(s.rest.length:Nat))=true:=decide_eq_true (by omega)
   have hrl:0<(rsM G).length:=by rw[Pa4];omega
   have hdl:0<(jO G.length s.out).length:=by rw[xX];omega
   have hx:∀ C∈s.rest,C.length<=1000/\InB C 0/\InB G (atI C 0):=fun C hC=>by
    obtain⟨k1,k2,k3,k4,k5⟩:=hinv.grp hg hC
    exact⟨by omega,k4,k5⟩
   have hb:InB s.rest (wR G s:Int):=aG.2 t1
   obtain⟨g1,g2,g3,g4,g5⟩:=hinv.grp hg (at_mem t1)
   simp (disch:=first|assumption|omega) only[S0,rA,rQ,rB,rT,rE,aI,Rbw,mK,t2,hd]
   unfold cO
   generalize wR G s=i at t1 t2 t3 t4 hb g1 g2 g3 g4 g5 ⊢
   rw[bH (atI s.rest (i:Int)).length (fun m=>[i64 m,rL ((nums G.length).map fun j=>gB s.out j||fE ((atI s.rest (i:Int)).take m) j)]) (.yield 9,[rL (jO G.length (s.out++[atI s.rest (i:Int)]))]) (by rw[Eai];rfl) (by simp)]
   ·have a1:s.out.length+([atI s.rest (i:Int)]:List (List Int)).length<=100000000000:=by simp only[Sbw,Sbx];omega
    simp (disch:=first|assumption|omega) only[S0,rA,rQ,rB,rT,rE,aI,tJ,dK,bD,Ga2]
   ·intro m hm hlt2
    have hbm:InB (atI s.rest (i:Int)) (m:Int):=aG.2 hm
    have hjG:=g3 _ (at_mem hm)
    have hjb:InB ((nums G.length).map fun j=>gB s.out j||fE ((atI s.rest (i:Int)).take m) j) (atI (atI s.rest (i:Int)) (m:Int)):=by unfold InB at hjG ⊢;rw[Sb5,dA];exact hjG
    rw[<- Mam hm hjG]
    simp (disch:=first|assumption|omega) only[S0,rA,rQ,rB,rT,rE,aI,kI,hlt2]
   ·intro hlt2
    rw[Mao]
    simp (disch:=first|assumption|omega) only[S0,rA,rQ,rB,rT,rE,hlt2]
 subst h3
 rw[h1]
 simp (disch:=first|assumption|omega) only[S0,rA,rQ,rB,rT,rE]
theorem rW (C ks:List Int)(hC:C.length<=1000)(hin:∀ x∈C,InB ks x)(hi:∀ x∈C,∀ y∈C,atI ks x=atI ks y->x=y):Fun T 106 [rL C,rL ks]=some [rL (lC (jK ks) C)]:=by
 rw[aJ (t:=Fad) rfl];unfold Fad
 simp (disch:=first|assumption|omega) only[S0,rA,rQ,rB,rT,rE]
 rw[<- Laq hi]
 rw[(Eaf 1 C (fun i (out:List Int)=>[rL out,i64 i]) [] (Abx ks) (fun i out=>out.length=i/\i<=C.length/\∀ x∈out,InB ks x) (fun out=>[rL out]) rfl ⟨rfl,Ubo _,fun x hx=>by cases hx⟩ ?_ ?_).1]
 ·simp (disch:=first|assumption|omega) only[S0,rA,rQ,rB,rT,rE]
 ·rintro i out hi2 hb hlt ⟨o1,o2,o3⟩
  have hxb:=hin _ (at_mem hi2)
  have hpl:=(uY ks out (atI C (i:Int))).length_eq
  refine⟨?_,?_⟩
  ·simp (disch:=first|assumption|omega) only[S0,rA,rQ,rB,rT,rE,aI,hlt]
   generalize atI C (i:Int)=x at hxb hpl ⊢
   have hk:=Lap ks out x out.length
   rw[sZ (γ:=Nat) (.yield 3,[i64 ((wP ks out x out.length:Nat):Int),.undef,.undef,.undef,.undef,.undef,.undef,.undef]) (fun k=>k) (fun k=>k<=out.length/\wP ks out x k=wP ks out x out.length) (fun k=>[i64 (k:Int)]) out.length rfl ⟨Sb7 _,rfl⟩ (by simp)]
   ·unfold Abx
    generalize wP ks out x out.length=k at hk ⊢
    have e0:(out.take ((k:Nat):Int).toNat).drop (0:Int).toNat=out.take k:=rfl
    have e1:(out.take ((out.length:Nat):Int).toNat).drop ((k:Nat):Int).toNat=out.drop k:=by rw[Tbk,Tbk,Tbh]
    have t1:(out.take k).length<=1000:=by rw[Tbc];omega
    have t2:(out.drop k).length<=1000:=by rw[Tbx];omega
    have a3:(out.take k).length+([x]:List Int).length<=100000000000:=by simp only[Sbw,Sbx];omega
    have a4:((out.take k)++[x]).length+(out.drop k).length<=100000000000:=by simp only[Sby,Sbw,Sbx];omega
    have b1:(0:Int)<=((k:Nat):Int):=by omega
    have b2:(out.drop k).length<=10000000000:=by omega
    simp (disch:=first|assumption|omega) only[S0,rA,rQ,rB,rT,rE,dK,bD,sN,fB,e0,e1]
   ·rintro k ⟨hkle,hki⟩
    cases k with
    | zero =>
     refine .inr ?_
     have e:wP ks out x out.length=0:=by rw[<- hki];rfl
     have hd0:decide ((0:Int)<((0:Nat):Int))=false:=by decide
     rw[e]
     simp (disch:=first|assumption|omega) only[S0,rA,rQ,rB,rT,rE,hd0]
    | succ k =>
     have hbk:InB out (k:Int):=aG.2 (by omega)
     have hyb:=o3 _ (bL hbk)
     have hgt:decide (0<(k:Int)+1)=true:=decide_eq_true (by omega)
     have hsub:(aN.bin .sub).run [i64 ((k:Int)+1),i64 1]=some [i64 (k:Int)]:=by
      have h:=Daz (a:=(k:Int)+1) (b:=1) (by omega) (by omega)
      rw[show (k:Int)+1-1=k by omega]at h
      exact h
     cases hg:decide (atI ks x<atI ks (atI out (k:Int)))
     ·refine .inr ?_
      have e:wP ks out x out.length=k+1:=by rw[<- hki];unfold wP;rw[hg];simp
      rw[e]
      simp (disch:=first|assumption|omega) only[S0,rA,rQ,rB,rT,rE,aI,hgt,hsub,hg,Sbv]
     ·refine .inl ⟨k,?_,⟨by omega,by rw[<- hki];conv=>rhs;unfold wP;rw[hg];simp⟩,by omega⟩
      simp (disch:=first|assumption|omega) only[S0,rA,rQ,rB,rT,rE,aI,hgt,hsub,hg]
  ·refine⟨by rw[hpl,Sbw];omega,by omega,fun y hy=>?_⟩
   rcases List.mem_cons.1 ((uY ks out (atI C (i:Int))).mem_iff.1 hy) with h|h
   ·rw[h];exact hxb
   ·exact o3 y h
 ·rintro out hlt -
  simp (disch:=first|assumption|omega) only[S0,rA,rQ,rB,rT,rE,hlt]
theorem rV (G:List (List Int))(ks:List Int)(hg:GOk G)(hl:G.length<=1000)(hr:∀ r∈G,r.length<=1000)(hk:ks.length=G.length)(hi:∀ x y,InB G x->InB G y->atI ks x=atI ks y->x=y):Fun T 102 [rL G,rL ks]=some [rL (jS G ks)]:=by
 rw[aJ (t:=Fah) rfl];unfold Fah
 obtain⟨c1,c2⟩:=kS hg
 have hol:(aS G).length<=G.length:=Tbr (jH c1 fun C hC=>(c2 C).1 hC) (rG G)
 simp (disch:=first|assumption|omega) only[S0,rA,rQ,rB,rT,rE,jY]
 rw[bH (aS G).length (fun m=>[rL (pE G ks m),i64 m]) (.yield 1,[rL (jS G ks)]) rfl (by simp)]
 ·simp (disch:=first|assumption|omega) only[S0,rA,rQ,rB,rT,rE]
 ·intro m hm hlt
  have hb:InB (aS G) (m:Int):=aG.2 hm
  obtain⟨a,ha,he,-⟩:=iT ((c2 _).1 (at_mem hm))
  have g1:=zH G a
  have g2:∀ x∈atI (aS G) (m:Int),InB G x:=fun x hx=>Eab (by rw[<- he];exact hx)
  rw[<- he]at g1
  have hC:(atI (aS G) (m:Int)).length<=1000:=by omega
  have hin:∀ x∈atI (aS G) (m:Int),InB ks x:=fun x hx=>by have:=g2 x hx;unfold InB at this ⊢;rw[hk];exact this
  have hi2:∀ x∈atI (aS G) (m:Int),∀ y∈atI (aS G) (m:Int),atI ks x=atI ks y->x=y:=fun x hx y hy=>hi x y (g2 x hx) (g2 y hy)
  have o1:=uE hg ks m
  have a1:(pE G ks m).length+(lC (jK ks) (atI (aS G) (m:Int))).length<=100000000000:=by rw[wX];omega
  rw[qY hm]
  simp (disch:=first|assumption|omega) only[S0,rA,rQ,rB,rT,rE,aI,bD,rW,hlt]
 ·intro hlt
  rw[qZ]
  simp (disch:=first|assumption|omega) only[S0,rA,rQ,rB,rT,rE,hlt]
theorem wW (l ks:List Int)(h:Dak l ks=true)(hl:l.length<=1000000):Fun T 98 [rL l,rL ks]=some [rL (lC (jK ks) l)]:=by
 rw[sW (e:=Dae) rfl]
 exact Xa1 h hl
theorem xQ (G:List (List Int))(ks:List Int)(hg:GOk G)(hl:G.length<=1000)(hr:∀ r∈G,r.length<=1000)(hk:ks.length=G.length)(hkb:∀ k∈ks,0<=k/\k<=1000000000)(hi:∀ x y,InB G x->InB G y->atI ks x=atI ks y->x=y):Fun T 87 [rL G,rL ks]=some [rL (jS G ks)]:=by
 rw[aJ (t:=Yaf) rfl];unfold Yaf
 obtain⟨c1,c2⟩:=kS hg
 have hol:(aS G).length<=G.length:=Tbr (jH c1 fun C hC=>(c2 C).1 hC) (rG G)
 have h0:(aN.mk 1 0).run []=some [rL ([]:List (List Int))]:=rfl
 have est:rL (aS G)=iY [] (Sb1 0 [D.hole]) ((aS G).drop 0):=Iai (aS G) (Ubo _)
 simp (disch:=first|assumption|omega) only[S0,rA,rQ,rB,rT,rE,mM,h0]
 rw[bH (aS G).length (fun m=>[rL (pE G ks m),iY [] (Sb1 m [D.hole]) ((aS G).drop m),i64 m]) (.yield 1,[rL (jS G ks)]) (by rw[<- est];rfl) (by simp)]
 ·simp (disch:=first|assumption|omega) only[S0,rA,rQ,rB,rT,rE]
 ·intro m hm hlt
  have hb:InB (aS G) (m:Int):=aG.2 hm
  obtain⟨a,ha,he,-⟩:=iT ((c2 _).1 (at_mem hm))
  have g1:=zH G a
  have g2:∀ x∈atI (aS G) (m:Int),InB G x:=fun x hx=>Eab (by rw[<- he];exact hx)
  rw[<- he]at g1
  have hC:(atI (aS G) (m:Int)).length<=1000000:=by omega
  have hin:∀ x∈atI (aS G) (m:Int),InB ks x:=fun x hx=>by have:=g2 x hx;unfold InB at this ⊢;rw[hk];exact this
  have hi2:∀ x∈atI (aS G) (m:Int),∀ y∈atI (aS G) (m:Int),atI ks x=atI ks y->x=y:=fun x hx y hy=>hi x y (g2 x hx) (g2 y hy)
  have hko:=Lar hin hkb hi2
  have o1:=uE hg ks m
  have a1:(pE G ks m).length+(lC (jK ks) (atI (aS G) (m:Int))).length<=100000000000:=by rw[wX];omega
  have hd1:(aS G).drop m=atI (aS G) (m:Int)::(aS G).drop (m+1):=by rw[Tb6 hm,bC hm]
  have hJ:((Sb1 m [D.hole]).length:Int)=(m:Int):=by rw[Tbq]
  have q1:aN.inb.run [iY [] (Sb1 m [D.hole]) ((aS G).drop m),i64 (m:Int)]=some []:=tZ (by omega) (by rw[hd1,Sbw,hJ,Sbx];omega)
  have q2:(aN.row 1 0 [false]).run [iY [] (Sb1 m [D.hole]) ((aS G).drop m),i64 (m:Int)]=some [rL (atI (aS G) (m:Int))]:=by rw[hd1];exact Ca0 (by rw[hJ,Sbx];omega)
  have q3:(aN.set 1 0 1).run [iY [] (Sb1 m [D.hole]) ((aS G).drop m),i64 (m:Int),.hole]=some [iY [] (Sb1 (m+1) [D.hole]) ((aS G).drop (m+1))]:=by rw[hd1,Vbf];exact yB (by rw[hJ,Sbx];omega)
  rw[qY hm]
  simp (disch:=first|assumption|omega) only[S0,rA,rQ,rB,rT,rE,bD,wW,q1,q2,q3,hlt]
 ·intro hlt
  rw[qZ]
  simp (disch:=first|assumption|omega) only[S0,rA,rQ,rB,rT,rE,hlt]
theorem rU (n:Int)(rows:List (List aY))(ht:aV ⟨n,rows⟩=true)(hs:bX rows):Fun T 100 [i64 n,rL rows]=some [rL (fF ⟨n,rows⟩)]:=by
 rw[aJ (t:=Faj) rfl];unfold Faj
 have hg:bK n=true:=aQ ht
 have hn:=aT hg
 have hl:(rows.length:Int)=n:=bU ht
 have hl2:rows.length<=100:=by omega
 have hrl:=eO ht
 have hgo:=Qa0 ⟨n,rows⟩
 have hgl:=Aah ⟨n,rows⟩
 have hgr:∀ r∈gM ⟨n,rows⟩,r.length<=1000:=fun r hr=>by have:=(La5 hr).1;omega
 have hkl:(qN ⟨n,rows⟩).length=(gM ⟨n,rows⟩).length:=by rw[xM,hgl]
 have hki:=xN ht
 have hrd:∀ x∈aF ⟨n,rows⟩,x∈aU rows:=fun x hx=>xD hx
 simp (disch:=first|assumption|omega) only[S0,rA,rQ,rB,rT,rE,oV,uC]
 rw[bH rows.length (fun k=>[i64 k,rL (yK (aF ⟨n,rows⟩) ⟨n,rows⟩ k).rows]) (.yield 1,[rL (yK (aF ⟨n,rows⟩) ⟨n,rows⟩ rows.length).rows]) rfl (by simp)]
 rotate_left
 ·intro k hk hlt
  have hc:=Va2.all ht hrd k (by simp only;omega)
  have hcl:(yK (aF ⟨n,rows⟩) ⟨n,rows⟩ k).rows.length=rows.length:=hc.rowsLen ht
  have hcb:InB (yK (aF ⟨n,rows⟩) ⟨n,rows⟩ k).rows (k:Int):=aG.2 (by omega)
  have hck:(atI (yK (aF ⟨n,rows⟩) ⟨n,rows⟩ k).rows (k:Int)).length=(atI rows (k:Int)).length:=hc.len k
  have h6:(atI rows (k:Int)).length<=6:=(bY ht (at_mem hk)).1
  have hck2:(atI (yK (aF ⟨n,rows⟩) ⟨n,rows⟩ k).rows (k:Int)).length<=1099511627776:=by omega
  simp (disch:=first|assumption|omega) only[S0,rA,rQ,rB,rT,rE,aI,hlt]
  rw[hck]
  rw[bH (atI rows (k:Int)).length (fun m=>[i64 m,rL (Va0 (aF ⟨n,rows⟩) k m (yK (aF ⟨n,rows⟩) ⟨n,rows⟩ k)).rows]) (.yield 3,[rL (yK (aF ⟨n,rows⟩) ⟨n,rows⟩ (k+1)).rows]) rfl (by simp)]
  ·simp (disch:=first|assumption|omega) only[S0,rA,rQ,rB,rT,rE]
  ·intro m hm hlt2
   have hd:=hc.stepN ht (by simp only;exact hk) m (by simp only;omega)
   have e:Va0 (aF ⟨n,rows⟩) k (m+1) (yK (aF ⟨n,rows⟩) ⟨n,rows⟩ k)=Ibe (aF ⟨n,rows⟩) (Va0 (aF ⟨n,rows⟩) k m (yK (aF ⟨n,rows⟩) ⟨n,rows⟩ k)) k m:=rfl
   rw[e]
   generalize Va0 (aF ⟨n,rows⟩) k m (yK (aF ⟨n,rows⟩) ⟨n,rows⟩ k)=u at hd ⊢
   obtain⟨un,us⟩:=u
   obtain rfl:un=n:=hd.n
   have hdl:us.length=rows.length:=hd.rowsLen ht
   have hdb:InB us (k:Int):=aG.2 (by omega)
   have hdk:(atI us (k:Int)).length=(atI rows (k:Int)).length:=hd.len k
   have hdm:InB (atI us (k:Int)) (m:Int):=aG.2 (by omega)
   have b1:([(k:Int),(m:Int)+1]:List Int).length<=1099511627776:=by simp
   have b2:(aF ⟨un,rows⟩).length<=1099511627776:=by omega
   unfold Ibe
   cases hf:decide (iQ (aF ⟨un,rows⟩) [(k:Int),(m:Int)+1]<0)
   ·simp (disch:=first|assumption|omega) only[S0,rA,rQ,rB,rT,rE,dK,bO,hlt2,hf,Sbv]
   ·have e1:ext un (atI us (k:Int)) ((m:Int)+1)=atI us (k:Int):=Kaf (by omega)
    have e2:(m:Int)+1-1=(m:Int):=by omega
    unfold Daa
    simp (disch:=first|assumption|omega) only[S0,rA,rQ,rB,rT,rE,aI,dK,lZ,bO,gV,hlt2,hf,e1,e2]
    rfl
  ·intro hlt2
   simp (disch:=first|assumption|omega) only[S0,rA,rQ,rB,rT,rE,hlt2]
   rfl
 ·intro hlt
  simp (disch:=first|assumption|omega) only[S0,rA,rQ,rB,rT,rE,hlt]
 have hred:=Rae ht
 simp only at hred
 generalize yK (aF ⟨n,rows⟩) ⟨n,rows⟩ rows.length=u at hred ⊢
 obtain⟨un,us⟩:=u
 obtain rfl:un=n:=hred.n
 have hok:aV ⟨un,us⟩=true:=hred.ok
 have hus:=tN hok
 simp only at hus
 have hcom:=hred.com ht
 have hgra:=hred.graph ht
 simp only at hcom hgra
 simp (disch:=first|assumption|omega) only[S0,rA,rQ,rB,rT,rE,mD,hcom,hgra]
 rw[bH (aF ⟨un,rows⟩).length (fun m=>[rL (((aF ⟨un,rows⟩).take m).map (qO ⟨un,rows⟩)),i64 m]) (.yield 5,[rL (qN ⟨un,rows⟩)]) rfl (by simp)]
 rotate_left
 ·intro m hm hlt
  have hb:InB (aF ⟨un,rows⟩) (m:Int):=aG.2 hm
  obtain⟨hi,hst,he,x0,x1⟩:=bP ht (at_mem hm)
  have hi2:inst un (atI (atI (aF ⟨un,rows⟩) (m:Int)) 0) (atI (atI (aF ⟨un,rows⟩) (m:Int)) 1)=true:=hi.2
  have hr:=bE hi2
  have hrb:InB rows (atI (atI (aF ⟨un,rows⟩) (m:Int)) 0):=bN ht hi2
  have hsq:=tV ht hi
  have hml:(((aF ⟨un,rows⟩).take m).map (qO ⟨un,rows⟩)).length<=30:=by rw[Sb5,Tbc];omega
  have ek:((aF ⟨un,rows⟩).take (m+1)).map (qO ⟨un,rows⟩)=((aF ⟨un,rows⟩).take m).map (qO ⟨un,rows⟩)++[qO ⟨un,rows⟩ (atI (aF ⟨un,rows⟩) (m:Int))]:=by rw[<- take_at hm,Tby];rfl
  rw[ek]
  have a1:(((aF ⟨un,rows⟩).take m).map (qO ⟨un,rows⟩)).length+([qO ⟨un,rows⟩ (atI (aF ⟨un,rows⟩) (m:Int))]:List Int).length<=100000000000:=by simp only[Sbw,Sbx];omega
  have ek2:100*(cK ⟨un,rows⟩ (atI (atI (aF ⟨un,rows⟩) (m:Int)) 0) (atI (atI (aF ⟨un,rows⟩) (m:Int)) 1)).attr.seq+10*atI (atI (aF ⟨un,rows⟩) (m:Int)) 0+atI (atI (aF ⟨un,rows⟩) (m:Int)) 1=qO ⟨un,rows⟩ (atI (aF ⟨un,rows⟩) (m:Int)):=rfl
  simp (disch:=first|assumption|omega) only[S0,rA,rQ,rB,rT,rE,aI,dK,bD,yS,fJ,ek2,hlt]
 ·intro hlt
  rw[Tbh]
  simp (disch:=first|assumption|omega) only[S0,rA,rQ,rB,rT,rE,hlt]
  rfl
 have hjl:=zB ⟨un,rows⟩
 simp (disch:=first|assumption|omega) only[S0,rA,rQ,rB,rT,rE,rV]
 have eJ:jS (gM ⟨un,rows⟩) (qN ⟨un,rows⟩)=fQ ⟨un,rows⟩:=rfl
 rw[eJ]
 rw[bH (fQ ⟨un,rows⟩).length (fun m=>[rL (aF ⟨un,rows⟩),rL (((fQ ⟨un,rows⟩).take m).map fun j=>atI (aF ⟨un,rows⟩) j),i64 m]) (.yield 7,[rL (fF ⟨un,rows⟩)]) rfl (by simp)]
 ·simp (disch:=first|assumption|omega) only[S0,rA,rQ,rB,rT,rE]
 ·intro m hm hlt
  have hb:InB (fQ ⟨un,rows⟩) (m:Int):=aG.2 hm
  have hjb:=Da4 (at_mem hm)
  have hml:(((fQ ⟨un,rows⟩).take m).map fun j=>atI (aF ⟨un,rows⟩) j).length<=30:=by rw[Sb5,Tbc];omega
  have ek:((fQ ⟨un,rows⟩).take (m+1)).map (fun j=>atI (aF ⟨un,rows⟩) j)=((fQ ⟨un,rows⟩).take m).map (fun j=>atI (aF ⟨un,rows⟩) j)++[atI (aF ⟨un,rows⟩) (atI (fQ ⟨un,rows⟩) (m:Int))]:=by rw[<- take_at hm,Tby];rfl
  have a1:(((fQ ⟨un,rows⟩).take m).map fun j=>atI (aF ⟨un,rows⟩) j).length+([atI (aF ⟨un,rows⟩) (atI (fQ ⟨un,rows⟩) (m:Int))]:List (List Int)).length<=100000000000:=by simp only[Sbw,Sbx];omega
  rw[ek]
  simp (disch:=first|assumption|omega) only[S0,rA,rQ,rB,rT,rE,aI,dK,bD,hlt]
 ·intro hlt
  rw[Tbh]
  simp (disch:=first|assumption|omega) only[S0,rA,rQ,rB,rT,rE,hlt]
  rfl
theorem lI (n:Int)(rows:List (List aY))(ht:aV ⟨n,rows⟩=true)(hs:bX rows):Fun T 83 [i64 n,rL rows]=some [rL (fF ⟨n,rows⟩)]:=by
 rw[aJ (t:=Yaj) rfl];unfold Yaj
 have hg:bK n=true:=aQ ht
 have hn:=aT hg
 have hl:(rows.length:Int)=n:=bU ht
 have hl2:rows.length<=100:=by omega
 have hrl:=eO ht
 have hgo:=Qa0 ⟨n,rows⟩
 have hgl:=Aah ⟨n,rows⟩
 have hgr:∀ r∈gM ⟨n,rows⟩,r.length<=1000:=fun r hr=>by have:=(La5 hr).1;omega
 have hkl:(qN ⟨n,rows⟩).length=(gM ⟨n,rows⟩).length:=by rw[xM,hgl]
 have hki:=xN ht
 have hkr:=Las ht
 have h0:(aN.mk 1 0).run []=some [rL ([]:List (List Int))]:=rfl
 simp (disch:=first|assumption|omega) only[S0,rA,rQ,rB,rT,rE,pY,jC]
 rw[bH (aF ⟨n,rows⟩).length (fun m=>[i64 m,i64 n,rL (Jat ⟨n,rows⟩ m).rows]) (.yield 1,[i64 n,rL (Jat ⟨n,rows⟩ (aF ⟨n,rows⟩).length).rows]) rfl (by simp)]
 rotate_left
 ·intro m hm hlt
  have hb:InB (aF ⟨n,rows⟩) (m:Int):=aG.2 hm
  obtain⟨hi,hst,he,x0,x1⟩:=bP ht (at_mem hm)
  have hi2:inst n (atI (atI (aF ⟨n,rows⟩) (m:Int)) 0) (atI (atI (aF ⟨n,rows⟩) (m:Int)) 1)=true:=hi.2
  have hr:=bE hi2
  have hrb:InB rows (atI (atI (aF ⟨n,rows⟩) (m:Int)) 0):=bN ht hi2
  have hred:=Hac ht m (by omega)
  have hdl:=dQ ht hi2
  simp only at hdl
  have e:Jat ⟨n,rows⟩ (m+1)=Daa (Jat ⟨n,rows⟩ m) (atI (atI (aF ⟨n,rows⟩) (m:Int)) 0) (atI (atI (aF ⟨n,rows⟩) (m:Int)) 1) (cK ⟨n,rows⟩ (atI (atI (aF ⟨n,rows⟩) (m:Int)) 0) (atI (atI (aF ⟨n,rows⟩) (m:Int)) 1)):=rfl
  rw[e]
  generalize Jat ⟨n,rows⟩ m=u at hred ⊢
  obtain⟨un,us⟩:=u
  obtain rfl:un=n:=hred.n
  have hok:aV ⟨un,us⟩=true:=hred.ok
  have hus:=tN hok
  simp only at hus
  have hub:InB us (atI (atI (aF ⟨un,rows⟩) (m:Int)) 0):=bN hok hi2
  have hdl2:(cK ⟨un,rows⟩ (atI (atI (aF ⟨un,rows⟩) (m:Int)) 0) (atI (atI (aF ⟨un,rows⟩) (m:Int)) 1)).attr.deps.length<=10000000000:=by omega
  simp (disch:=first|assumption|omega) only[S0,rA,rQ,rB,rT,rE,aI,bA,nV,hlt]
  rfl
 ·intro hlt
  simp (disch:=first|assumption|omega) only[S0,rA,rQ,rB,rT,rE,hlt]
 have hred:=Rat ht
 generalize Jat ⟨n,rows⟩ (aF ⟨n,rows⟩).length=u at hred ⊢
 obtain⟨un,us⟩:=u
 obtain rfl:un=n:=hred.n
 have hok:aV ⟨un,us⟩=true:=hred.ok
 have hus:=tN hok
 simp only at hus
 have hcom:=hred.com ht
 have hgra:=hred.graph ht
 simp only at hcom hgra
 simp (disch:=first|assumption|omega) only[S0,rA,rQ,rB,rT,rE,gX,hcom,hgra,h0]
 rw[bH (aF ⟨un,rows⟩).length (fun m=>[rL (((aF ⟨un,rows⟩).take m).map (qO ⟨un,rows⟩)),i64 m]) (.yield 3,[rL (qN ⟨un,rows⟩)]) rfl (by simp)]
 rotate_left
 ·intro m hm hlt
  have hb:InB (aF ⟨un,rows⟩) (m:Int):=aG.2 hm
  obtain⟨hi,hst,he,x0,x1⟩:=bP ht (at_mem hm)
  have hi2:inst un (atI (atI (aF ⟨un,rows⟩) (m:Int)) 0) (atI (atI (aF ⟨un,rows⟩) (m:Int)) 1)=true:=hi.2
  have hr:=bE hi2
  have hrb:InB us (atI (atI (aF ⟨un,rows⟩) (m:Int)) 0):=bN hok hi2
  have hsq:=tV ht hi
  have htr:cK ⟨un,us⟩ (atI (atI (aF ⟨un,rows⟩) (m:Int)) 0) (atI (atI (aF ⟨un,rows⟩) (m:Int)) 1)=cK ⟨un,rows⟩ (atI (atI (aF ⟨un,rows⟩) (m:Int)) 0) (atI (atI (aF ⟨un,rows⟩) (m:Int)) 1):=by
   rw[hred.row _ _ hi2,if_pos (by rw[<- he];exact at_mem hm)]
  have hml:(((aF ⟨un,rows⟩).take m).map (qO ⟨un,rows⟩)).length<=30:=by rw[Sb5,Tbc];omega
  have ek:((aF ⟨un,rows⟩).take (m+1)).map (qO ⟨un,rows⟩)=((aF ⟨un,rows⟩).take m).map (qO ⟨un,rows⟩)++[qO ⟨un,rows⟩ (atI (aF ⟨un,rows⟩) (m:Int))]:=by rw[<- take_at hm,Tby];rfl
  rw[ek]
  have a1:(((aF ⟨un,rows⟩).take m).map (qO ⟨un,rows⟩)).length+([qO ⟨un,rows⟩ (atI (aF ⟨un,rows⟩) (m:Int))]:List Int).length<=100000000000:=by simp only[Sbw,Sbx];omega
  have ek2:100*(cK ⟨un,rows⟩ (atI (atI (aF ⟨un,rows⟩) (m:Int)) 0) (atI (atI (aF ⟨un,rows⟩) (m:Int)) 1)).attr.seq+10*atI (atI (aF ⟨un,rows⟩) (m:Int)) 0+atI (atI (aF ⟨un,rows⟩) (m:Int)) 1=qO ⟨un,rows⟩ (atI (aF ⟨un,rows⟩) (m:Int)):=rfl
  simp (disch:=first|assumption|omega) only[S0,rA,rQ,rB,rT,rE,aI,dK,bD,yS,bA,htr,ek2,hlt]
 ·intro hlt
  rw[Tbh]
  simp (disch:=first|assumption|omega) only[S0,rA,rQ,rB,rT,rE,hlt]
  rfl
 have hjl:=zB ⟨un,rows⟩
 simp (disch:=first|assumption|omega) only[S0,rA,rQ,rB,rT,rE,xQ,h0]
 have eJ:jS (gM ⟨un,rows⟩) (qN ⟨un,rows⟩)=fQ ⟨un,rows⟩:=rfl
 have hnd:(fQ ⟨un,rows⟩).Nodup:=vY hgo _
 have est:rL (aF ⟨un,rows⟩)=hsD (aF ⟨un,rows⟩) (fun j=>fE ((fQ ⟨un,rows⟩).take 0) j):=(Eb8 _ fun j _=>rfl).symm
 rw[eJ]
 generalize hE:Er T (Tm.loop _ _) _=E
 obtain⟨r,h1,h3⟩:∃ r,E=some r/\r=(.yield 5,[rL (fF ⟨un,rows⟩)]):=by
  refine⟨_,?_,rfl⟩
  rw[<- hE]
  rw[bH (fQ ⟨un,rows⟩).length (fun m=>[hsD (aF ⟨un,rows⟩) (fun j=>fE ((fQ ⟨un,rows⟩).take m) j),rL (((fQ ⟨un,rows⟩).take m).map fun j=>atI (aF ⟨un,rows⟩) j),i64 m]) (.yield 5,[rL (fF ⟨un,rows⟩)]) (by rw[<- est];rfl) (by simp)]
  ·intro m hm hlt
   have hb:InB (fQ ⟨un,rows⟩) (m:Int):=aG.2 hm
   have hjb:=Da4 (at_mem hm)
   have hml:(((fQ ⟨un,rows⟩).take m).map fun j=>atI (aF ⟨un,rows⟩) j).length<=30:=by rw[Sb5,Tbc];omega
   have ek:((fQ ⟨un,rows⟩).take (m+1)).map (fun j=>atI (aF ⟨un,rows⟩) j)=((fQ ⟨un,rows⟩).take m).map (fun j=>atI (aF ⟨un,rows⟩) j)++[atI (aF ⟨un,rows⟩) (atI (fQ ⟨un,rows⟩) (m:Int))]:=by rw[<- take_at hm,Tby];rfl
   have a1:(((fQ ⟨un,rows⟩).take m).map fun j=>atI (aF ⟨un,rows⟩) j).length+([atI (aF ⟨un,rows⟩) (atI (fQ ⟨un,rows⟩) (m:Int))]:List (List Int)).length<=100000000000:=by simp only[Sbw,Sbx];omega
   have hnot:fE ((fQ ⟨un,rows⟩).take m) (atI (fQ ⟨un,rows⟩) (m:Int))=false:=by
    rw[<- Bool.not_eq_true,qE]
    intro hmem
    obtain⟨i,hi,e⟩:=List.mem_iff_getElem.1 hmem
    rw[Tbc]at hi
    rw[Vby,bC hm]at e
    have:=(List.getElem_inj hnd).1 e
    omega
   have ep:(fun j=>fE ((fQ ⟨un,rows⟩).take (m+1)) j)=fun j=>fE ((fQ ⟨un,rows⟩).take m) j||j==atI (fQ ⟨un,rows⟩) (m:Int):=funext fun j=>Kae hm j
   have q1:aN.inb.run [hsD (aF ⟨un,rows⟩) (fun j=>fE ((fQ ⟨un,rows⟩).take m) j),i64 (atI (fQ ⟨un,rows⟩) (m:Int))]=some []:=Xae hjb
   have q2:(aN.row 1 0 [false]).run [hsD (aF ⟨un,rows⟩) (fun j=>fE ((fQ ⟨un,rows⟩).take m) j),i64 (atI (fQ ⟨un,rows⟩) (m:Int))]=some [rL (atI (aF ⟨un,rows⟩) (atI (fQ ⟨un,rows⟩) (m:Int)))]:=Xad hjb hnot
   have q3:(aN.set 1 0 1).run [hsD (aF ⟨un,rows⟩) (fun j=>fE ((fQ ⟨un,rows⟩).take m) j),i64 (atI (fQ ⟨un,rows⟩) (m:Int)),.hole]=some [hsD (aF ⟨un,rows⟩) (fun j=>fE ((fQ ⟨un,rows⟩).take (m+1)) j)]:=by rw[ep];exact Qaw hjb
   rw[ek]
   simp (disch:=first|assumption|omega) only[S0,rA,rQ,rB,rT,rE,aI,dK,bD,q1,q2,q3,hlt]
  ·intro hlt
   rw[Tbh]
   simp (disch:=first|assumption|omega) only[S0,rA,rQ,rB,rT,rE,hlt]
   rfl
 subst h3
 rw[h1]
 simp (disch:=first|assumption|omega) only[S0,rA,rQ,rB,rT,rE]
theorem Sar (n:Int)(rows:List (List aY))(hs:bX rows):Fun T 99 [i64 n,rL rows]=some [rL (uT ⟨n,rows⟩).1,.bool (uT ⟨n,rows⟩).2]:=by
 rw[aJ (t:=Gbr) rfl];unfold Gbr;unfold uT
 cases ht:aV ⟨n,rows⟩
 ·simp (disch:=first|assumption|omega) only[S0,rA,rQ,rB,rT,rE,bR,ht,Aam,Sbv]
 ·simp (disch:=first|assumption|omega) only[S0,rA,rQ,rB,rT,rE,bR,rU,ht]
theorem Uao (n:Int)(rows:List (List aY))(hs:bX rows):Fun T 82 [i64 n,rL rows]=some [rL (uT ⟨n,rows⟩).1,.bool (uT ⟨n,rows⟩).2]:=by
 rw[aJ (t:=Yak) rfl];unfold Yak;unfold uT
 cases ht:aV ⟨n,rows⟩
 ·simp (disch:=first|assumption|omega) only[S0,rA,rQ,rB,rT,rE,bB,ht,Aam,Sbv]
 ·simp (disch:=first|assumption|omega) only[S0,rA,rQ,rB,rT,rE,bB,lI,ht]
theorem Wag (n:Int)(rows:List (List aY))(c_kind c_id c_src c_dst c_amt:Int)(rep no:Int)(hn0:0<=n)(hn1:n<=1000)(hl:(rows.length:Int)<=n)(hs:bX rows)(hc:kX ⟨c_kind,c_id,c_src,c_dst,c_amt⟩=true)(hr:∀ l∈rows,∀ r∈l,kX r.cmd=true/\r.attr.seq<=1000000):Fun T 10 [i64 n,rL rows,i64 c_kind,i64 c_id,i64 c_src,i64 c_dst,i64 c_amt,i64 rep,i64 no]=some [i64 (Lbx ⟨n,rows⟩ ⟨c_kind,c_id,c_src,c_dst,c_amt⟩ rep no).seq,rL (Lbx ⟨n,rows⟩ ⟨c_kind,c_id,c_src,c_dst,c_amt⟩ rep no).deps]:=by
 rw[aJ (t:=Za8) rfl];unfold Za8;unfold Lbx
 have hq:∀ l∈rows,∀ r∈l,r.attr.seq<=1000000:=fun l h r h2=>(hr l h r h2).2
 have hK:=fun k hk=>Ma4 (t:=⟨n,rows⟩) (c:=⟨c_kind,c_id,c_src,c_dst,c_amt⟩) (rep:=rep) (no:=no) (M:=1000000) (by omega) k hk hq
 have hfin:=hK rows.length (Sb7 _)
 simp only at hfin hK
 generalize hC:(⟨c_kind,c_id,c_src,c_dst,c_amt⟩:oN)=C at hc hK hfin ⊢
 have e0:=Aaq n hn0 hn1
 simp (disch:=first|assumption|omega) only[S0,rA,rQ,rB,rT,rE,e0]
 rw[bH rows.length (fun k=>[i64 k,i64 (Xaw ⟨n,rows⟩ C rep no k).seq,rL (Xaw ⟨n,rows⟩ C rep no k).deps]) (.yield 1,[i64 (Xaw ⟨n,rows⟩ C rep no rows.length).seq,rL (Xaw ⟨n,rows⟩ C rep no rows.length).deps]) rfl (by simp)]
 ·simp (disch:=first|assumption|omega) only[S0,rA,rQ,rB,rT,rE]
 ·intro k hk hlt
  have hbk:InB rows (k:Int):=aG.2 hk
  have hsm:=(hs.2 _ (at_mem hk)).1
  have hrl:=hr _ (at_mem hk)
  obtain⟨a1,a2,a3⟩:=hK k (by omega)
  have eS:Xaw ⟨n,rows⟩ C rep no (k+1)=Ra7 C rep no k (atI rows (k:Int)) (Xaw ⟨n,rows⟩ C rep no k) (atI rows (k:Int)).length:=rfl
  rw[eS]
  generalize hL:atI rows (k:Int)=L at hsm hrl ⊢
  generalize Xaw ⟨n,rows⟩ C rep no k=A at a1 a2 a3 ⊢
  have hI:=fun i hi=>Ma5 (c:=C) (rep:=rep) (no:=no) (k:=k) (l:=L) (M:=1000000) a2 a3 i hi (fun r h=>(hrl r h).2)
  simp (disch:=first|assumption|omega) only[S0,rA,rQ,rB,rT,rE,aI,hlt,hL]
  rw[bH L.length (fun i=>[i64 i,i64 (Ra7 C rep no k L A i).seq,rL (Ra7 C rep no k L A i).deps]) (.yield 3,[i64 (Ra7 C rep no k L A L.length).seq,rL (Ra7 C rep no k L A L.length).deps]) rfl (by simp)]
  ·simp (disch:=first|assumption|omega) only[S0,rA,rQ,rB,rT,rE]
  ·intro i hi hlti
   have hbi:InB L (i:Int):=aG.2 hi
   have hrr:=(hrl _ (at_mem hi)).1
   obtain⟨b1,b2,b3⟩:=hI i (by omega)
   have eI:Ra7 C rep no k L A (i+1)=if Mbj C rep no k i (atI L (i:Int)) then Ra7 C rep no k L A i
    else ⟨max (Ra7 C rep no k L A i).seq (atI L (i:Int)).attr.seq,dB (Ra7 C rep no k L A i).deps (k:Int) ((i:Int)+1)⟩:=rfl
   rw[eI]
   generalize hR:atI L (i:Int)=r at hrr ⊢
   generalize Ra7 C rep no k L A i=B at b1 b2 b3 ⊢
   have hbb:InB B.deps (k:Int):=by unfold InB;omega
   subst hC
   have hI2:=Aac c_kind c_id c_src c_dst c_amt r.cmd.kind r.cmd.id r.cmd.src r.cmd.dst r.cmd.amt hc hrr
   have eR:(⟨r.cmd.kind,r.cmd.id,r.cmd.src,r.cmd.dst,r.cmd.amt⟩:oN)=r.cmd:=rfl
   rw[eR]at hI2
   unfold Mbj
   cases c1:(r.state==0)
   rotate_left
   ·simp (disch:=first|assumption|omega) only[S0,rA,rQ,rB,rT,rE,aI,hlti,hR,c1,Wbc]
   cases c2:Dal ⟨c_kind,c_id,c_src,c_dst,c_amt⟩ r.cmd
   ·rw[c2]at hI2
    simp (disch:=first|assumption|omega) only[S0,rA,rQ,rB,rT,rE,aI,hlti,hR,c1,hI2,Vb1,Vbk,Wbc]
   rw[c2]at hI2
   cases c3:((k:Int)==rep)
   ·simp (disch:=first|assumption|omega) only[S0,rA,rQ,rB,rT,rE,aI,hlti,hR,c1,hI2,c3,Ub0,Vbh,Ubz,Sbv,lZ,Kay]
   cases c4:((i:Int)+1==no)
   ·simp (disch:=first|assumption|omega) only[S0,rA,rQ,rB,rT,rE,aI,hlti,hR,c1,hI2,c3,c4,Ub0,Bool.and_false,Ubz,Sbv,lZ,Kay]
   ·simp (disch:=first|assumption|omega) only[S0,rA,rQ,rB,rT,rE,aI,hlti,hR,c1,hI2,c3,c4,Ub0,Ub8,Vbk,Sbv]
  ·intro hlti
   simp (disch:=first|assumption|omega) only[S0,rA,rQ,rB,rT,rE,hlti]
 ·intro hlt
  simp (disch:=first|assumption|omega) only[S0,rA,rQ,rB,rT,rE,hlt]
theorem Ibg (code:D)(hc:isBytes code)(a s:Int)(h0:0<=a)(h1:a<=1152921504606846976):∃ (c:oN) (a' s':Int),Fun T 8 [code,i64 a,u64 s]=some [i64 c.kind,i64 c.id,i64 c.src,i64 c.dst,i64 c.amt,code,i64 a',u64 s']/\kX c=true/\a<=a'/\a'<=a+10:=by
 rw[aJ (t:=tm8) rfl];unfold tm8
 obtain⟨v1,a1,s1,e1,p1,q1,g1,k1⟩:=eT code hc 9 a s h0 (by omega)
 obtain⟨v2,a2,s2,e2,p2,q2,g2,k2⟩:=eT code hc 4 a1 s1 (by omega) (by omega)
 obtain⟨v3,a3,s3,e3,p3,q3,g3,k3⟩:=eT code hc 30 a2 s2 (by omega) (by omega)
 obtain⟨v4,a4,s4,e4,p4,q4,g4,k4⟩:=eT code hc 3 a3 s3 (by omega) (by omega)
 obtain⟨v5,a5,s5,e5,g5,k5⟩:=Iaj code hc 4 a4 s4 (by omega) (by omega)
 have r2:=Ja3 (a:=v2+1+v4) (b:=4) (by omega) (by omega)
 have q1':=q1 (by omega)
 have q2':=q2 (by omega)
 have q3':=q3 (by omega)
 have q4':=q4 (by omega)
 have h1:inR (1+v1) 1 999=true:=Qat.2 (by omega)
 have h2:inR v2 0 3=true:=Qat.2 (by omega)
 cases v5
 ·have h3:inR ((v2+1+v4) % 4) 0 3=true:=Qat.2 (by omega)
  have h4:inR (1+v3) 1 1000=true:=Qat.2 (by omega)
  have h5:(v2==(v2+1+v4) % 4)=false:=by simp;omega
  simp (disch:=first|assumption|omega) only[S0,rA,rQ,rB,rT,rE,e1,e2,e3,e4,e5,r2]
  refine⟨⟨_,_,_,_,_⟩,_,_,rfl,?_,by omega,by omega⟩
  unfold kX
  rw[if_neg (by simp),if_pos (by simp)]
  simp only[h1,h2,h3,h4,h5]
  rfl
 ·simp (disch:=first|assumption|omega) only[S0,rA,rQ,rB,rT,rE,e1,e2,e3,e4,e5,r2]
  refine⟨⟨_,_,_,_,_⟩,_,_,rfl,?_,by omega,by omega⟩
  unfold kX
  rw[if_neg (by simp),if_neg (by simp)]
  simp only[h1,h2]
  rfl
theorem Mar (code:D)(hc:isBytes code)(a s:Int)(h0:0<=a)(h1:a<=144115188075855872):∃ (t:aM) (a' s':Int),Fun T 4 [code,i64 a,u64 s]=some [i64 t.n,rL t.rows,code,i64 a',u64 s']/\(0<=t.n/\t.n<=5)/\t.rows.length<=5/\(∀ l∈t.rows,l.length<=5/\∀ r∈l,r.attr.deps.length<=10)/\a<=a'/\a'<=a+4000:=by
 rw[aJ (t:=tm4) rfl];unfold tm4
 have e0:=Oa8 3 (by omega) (by omega)
 obtain⟨v1,a1,s1,e1,p1,q1,g1,k1⟩:=eT code hc 9 a s h0 (by omega)
 have q1':=q1 (by omega)
 simp (disch:=first|assumption|omega) only[S0,rA,rQ,rB,rT,rE,e0,e1]
 generalize hE:Er T (Tm.loop _ _) _=E
 have key:∃ q,E=some q/\∃ (rows:List (List aY)) (a' s':Int),q=(.yield 1,[code,i64 a',u64 s',i64 3,rL rows])/\rows.length=3/\(∀ l∈rows,l.length<=4/\∀ r∈l,r.attr.deps.length<=10)/\a<=a'/\a'<=a+1500:=by
  rw[<- hE]
  refine lF (γ:=Nat×Int×Int×List (List aY)) (fun c=>c.1) (fun c=>c.1<=8/\c.2.2.2.length=3/\(∀ l∈c.2.2.2,l.length<=4/\∀ r∈l,r.attr.deps.length<=10/\kX r.cmd=true/\r.attr.seq+c.1<=10)/\a1<=c.2.1/\c.2.1+100*c.1<=a1+900)
   (fun c=>[i64 c.1,code,i64 c.2.1,u64 c.2.2.1,i64 3,rL c.2.2.2]) _ (v1.toNat,a1,s1,[[],[],[]]) ?_ ⟨by simp only;omega,rfl,by intro l hl;simp at hl;rw[hl];simp,by simp only;omega,by simp only;omega⟩ ?_
  ·show [i64 v1,code,i64 a1,u64 s1,i64 3,_]=[i64 ((v1.toNat:Nat):Int),code,i64 a1,u64 s1,i64 3,_]
   rw[show ((v1.toNat:Nat):Int)=v1 by omega]
   rfl
  rintro⟨m,a2,s2,rows⟩ ⟨h2,h3,h4,h5,h6⟩
  simp only at h2 h3 h4 h5 h6
  by_cases hm:0<m
  ·have d:decide (0<(m:Int))=true:=by simpa using hm
   obtain⟨rep,a3,s3,e3,p3,q3,g3,k3⟩:=eT code hc 3 a2 s2 (by omega) (by omega)
   have q3':=q3 (by omega)
   have hb:InB rows rep:=by unfold InB;omega
   obtain⟨hl1,hl2⟩:=h4 _ (bL hb)
   have hsm:bX rows:=⟨by omega,fun l hl=>⟨by have:=(h4 l hl).1;omega,fun r hr=>by have:=((h4 l hl).2 r hr).1;omega⟩⟩
   have em:((m-1:Nat):Int)=(m:Int)-1:=by omega
   left
   cases c4:decide (4<((atI rows rep).length:Int)+1)
   rotate_left
   ·refine⟨(m-1,a3,s3,rows),?_,⟨by simp only;omega,h3,fun l hl=>⟨(h4 l hl).1,fun r hr=>by obtain⟨x1,x2,x3⟩:=(h4 l hl).2 r hr;exact⟨x1,x2,by simp only;omega⟩⟩,by simp only;omega,by simp only;omega⟩,by simp only;omega⟩
    simp (disch:=first|assumption|omega) only[S0,rA,rQ,rB,rT,rE,d,e3,aI,c4,em]
   have c4':=of_decide_eq_false c4
   obtain⟨c,a5,s5,e5,p5,g5,k5⟩:=Ibg code hc a3 s3 (by omega) (by omega)
   have e6:=Wag 3 rows c.kind c.id c.src c.dst c.amt rep ((atI rows rep).length+1) (by omega) (by omega) (by omega) hsm p5 (fun l hl r hr=>by obtain⟨x1,x2,x3⟩:=(h4 l hl).2 r hr;exact⟨x2,by omega⟩)
   obtain⟨z1,z2,z3⟩:=Gbi (t:=⟨3,rows⟩) (c:=c) (rep:=rep) (no:=(atI rows rep).length+1) (M:=10-m) (by omega) (fun l hl r hr=>by obtain⟨x1,x2,x3⟩:=(h4 l hl).2 r hr;omega)
   have ec:(⟨c.kind,c.id,c.src,c.dst,c.amt⟩:oN)=c:=rfl
   rw[ec]at e6
   generalize Lbx ⟨3,rows⟩ c rep ((atI rows rep).length+1)=A at e6 z1 z2 z3
   simp only at z1
   obtain⟨w7,a7,s7,e7,g7,k7⟩:=Iaj code hc 3 a5 s5 (by omega) (by omega)
   -- the dependencies, as they may have been changed
   have mid:∃ (ds:List Int) (a8 s8:Int),ds.length=3/\a7<=a8/\a8<=a7+10/\((w7=false/\ds=A.deps/\a8=a7/\s8=s7)\/(w7=true/\∃ k a9 s9 v,Fun T 6 [i64 3,code,i64 a7,u64 s7]=some [i64 k,code,i64 a9,u64 s9]/\Fun T 6 [i64 4,code,i64 a9,u64 s9]=some [i64 v,code,i64 a8,u64 s8]/\InB A.deps k/\ds=dB A.deps k v)):=by
    cases w7
    ·exact⟨A.deps,a7,s7,z1,by omega,by omega,.inl ⟨rfl,rfl,rfl,rfl⟩⟩
    ·obtain⟨k,a9,s9,e9,p9,q9,g9,k9⟩:=eT code hc 3 a7 s7 (by omega) (by omega)
     obtain⟨v,a8,s8,e8,p8,q8,g8,k8⟩:=eT code hc 4 a9 s9 (by omega) (by omega)
     have q9':=q9 (by omega)
     exact⟨dB A.deps k v,a8,s8,by rw[jU];exact z1,by omega,by omega,.inr ⟨rfl,k,a9,s9,v,e9,e8,by unfold InB;omega,rfl⟩⟩
   obtain⟨ds,a8,s8,y1,y2,y3,hmid⟩:=mid
   obtain⟨w10,a10,s10,e10,g10,k10⟩:=Iaj code hc 5 a8 s8 (by omega) (by omega)
   have goon:∀ (st a11 s11:Int) (t:Option (Kind×List D)),a10<=a11->a11<=a10+10->t=some (.cont,[i64 ((m:Int)-1),code,i64 a11,u64 s11,i64 3,rL (Daa ⟨3,rows⟩ rep ((atI rows rep).length+1) ⟨0,0,st,c,⟨A.seq,ds⟩⟩).rows])->∃ c':Nat×Int×Int×List (List aY),t=some (.cont,[i64 c'.1,code,i64 c'.2.1,u64 c'.2.2.1,i64 3,rL c'.2.2.2]) /\
     (c'.1<=8/\c'.2.2.2.length=3/\(∀ l∈c'.2.2.2,l.length<=4/\∀ r∈l,r.attr.deps.length<=10/\kX r.cmd=true/\r.attr.seq+c'.1<=10)/\a1<=c'.2.1/\c'.2.1+100*c'.1<=a1+900)/\c'.1<m:=by
    intro st a11 s11 t g11 k11 ht
    refine⟨(m-1,a11,s11,(Daa ⟨3,rows⟩ rep ((atI rows rep).length+1) ⟨0,0,st,c,⟨A.seq,ds⟩⟩).rows),by rw[ht,<- em],⟨by simp only;omega,by unfold Daa;simp only[jU];exact h3,?_,by simp only;omega,by simp only;omega⟩,by simp only;omega⟩
    intro l hl
    unfold Daa at hl
    simp only at hl
    rcases wB hl with hl|rfl
    ·exact⟨(h4 l hl).1,fun r hr=>by obtain⟨x1,x2,x3⟩:=(h4 l hl).2 r hr;exact⟨x1,x2,by simp only;omega⟩⟩
    ·refine⟨by rw[jU];unfold ext;rw[Sby,Tbq];omega,fun r hr=>?_⟩
     rcases wB hr with hr|rfl
     ·unfold ext at hr
      rcases List.mem_append.1 hr with hr|hr
      ·obtain⟨x1,x2,x3⟩:=hl2 r hr;exact⟨x1,x2,by simp only;omega⟩
      ·rw[Vbn hr]
       exact⟨by unfold row0 none0;simp only[Tbq];omega,rfl,by show (0:Int)+((m-1:Nat):Int)<=10;omega⟩
     ·exact⟨by simp only;omega,p5,by simp only;omega⟩
   have hset:=fun st:Int=>Bb2 3 rows rep ((atI rows rep).length+1) 0 0 st c.kind c.id c.src c.dst c.amt A.seq ds rfl (by omega) hsm hb (by omega) (by omega) (by omega)
   simp only[ec]at hset
   have h3n:∀ r:aY,(Daa ⟨3,rows⟩ rep ((atI rows rep).length+1) r).n=3:=fun r=>rfl
   rcases hmid with ⟨rfl,rfl,rfl,rfl⟩|⟨rfl,k,a9,s9,v,e9,e8,hbk,rfl⟩
   ·cases w10
    ·refine goon 3 a10 s10 _ (by omega) (by omega) ?_
     simp (disch:=first|assumption|omega) only[S0,rA,rQ,rB,rT,rE,d,e3,aI,c4,em,e5,e6,e7,e10,hset,h3n]
    ·obtain⟨v11,a11,s11,e11,p11,q11,g11,k11⟩:=eT code hc 2 a10 s10 (by omega) (by omega)
     refine goon (1+v11) a11 s11 _ (by omega) (by omega) ?_
     have q11':=q11 (by omega)
     simp (disch:=first|assumption|omega) only[S0,rA,rQ,rB,rT,rE,d,e3,aI,c4,em,e5,e6,e7,e10,e11,hset,h3n]
   ·cases w10
    ·refine goon 3 a10 s10 _ (by omega) (by omega) ?_
     simp (disch:=first|assumption|omega) only[S0,rA,rQ,rB,rT,rE,d,e3,aI,c4,em,e5,e6,e7,e9,e8,lZ,e10,hset,h3n]
    ·obtain⟨v11,a11,s11,e11,p11,q11,g11,k11⟩:=eT code hc 2 a10 s10 (by omega) (by omega)
     refine goon (1+v11) a11 s11 _ (by omega) (by omega) ?_
     have q11':=q11 (by omega)
     simp (disch:=first|assumption|omega) only[S0,rA,rQ,rB,rT,rE,d,e3,aI,c4,em,e5,e6,e7,e9,e8,lZ,e10,e11,hset,h3n]
  ·have d:decide (0<(m:Int))=false:=by simpa using hm
   refine .inr ⟨(.yield 1,[code,i64 a2,u64 s2,i64 3,rL rows]),?_,by simp,rows,a2,s2,rfl,h3,fun l hl=>⟨(h4 l hl).1,fun r hr=>((h4 l hl).2 r hr).1⟩,by omega,by omega⟩
   simp (disch:=first|assumption|omega) only[S0,rA,rQ,rB,rT,rE,d]
 obtain⟨q,rfl,rows,a2,s2,rfl,h2,h3,h4,h5⟩:=key
 obtain⟨w6,a6,s6,e6,g6,k6⟩:=Iaj code hc 20 a2 s2 (by omega) (by omega)
 cases w6
 ·simp (disch:=first|assumption|omega) only[S0,rA,rQ,rB,rT,rE,e6]
  exact⟨⟨_,_⟩,_,_,rfl,by simp only;omega,by simp only;omega,fun l hl=>⟨by have:=(h3 l hl).1;omega,(h3 l hl).2⟩,by omega,by omega⟩
 ·obtain⟨t,a7,s7,e7,t1,t2,t3,g7,k7⟩:=Fb0 code hc a6 s6 (by omega) (by omega)
  simp (disch:=first|assumption|omega) only[S0,rA,rQ,rB,rT,rE,e6,e7]
  exact⟨t,_,_,rfl,t1,t2,t3,by omega,by omega⟩
theorem Mal (code:D)(hc:isBytes code):∃ (t:aM),Fun T 3 [code]=some [i64 t.n,rL t.rows]/\t.rows.length<=5/\(∀ l∈t.rows,l.length<=5/\∀ r∈l,r.attr.deps.length<=10):=by
 rw[aJ (t:=tm3) rfl];unfold tm3
 obtain⟨t,a1,s1,e1,p1,p2,p3,g1,k1⟩:=Mar code hc 0 0 (by omega) (by omega)
 have u0:D.int .u64 0=u64 0:=rfl
 simp (disch:=first|assumption|omega) only[S0,rA,rQ,rB,rT,rE,e1,u0]
 exact⟨_,rfl,p2,p3⟩
theorem Bam (n:Int)(rows:List (List aY))(rep no:Int)(hs:bX rows):Fun T 112 [i64 n,rL rows,i64 rep,i64 no]=some [rL (Bbi ⟨n,rows⟩ rep no).1,.bool (Bbi ⟨n,rows⟩ rep no).2]:=by
 rw[aJ (t:=Nak) rfl];unfold Nak;unfold Bbi
 have z0:D.rows 1 []=rL ([]:List (List Int)):=rfl
 cases ht:aV ⟨n,rows⟩
 ·simp (disch:=first|assumption|omega) only[S0,rA,rQ,rB,rT,rE,bB,ht,z0,Vbh,Sbv]
 have hg:bK n=true:=aQ ht
 cases hi:inst n rep no
 ·simp (disch:=first|assumption|omega) only[S0,rA,rQ,rB,rT,rE,bB,gK,ht,hg,hi,z0,Ubw,Vbh,Sbv]
 have hb:InB rows rep:=bN ht hi
 have hr:=bE hi
 have hx:dM n [rep,no]:=⟨rfl,hi⟩
 have z2:(aN.mk 1 2).run [i64 rep,i64 no]=some [rL ([rep,no]:List Int)]:=rfl
 have ec:pJ ⟨n,rows⟩ [rep,no]=((cK ⟨n,rows⟩ rep no).state==3):=rfl
 have hrow:=bA n rows rep no hg hs hb (by omega) (by omega)
 cases hc:pJ ⟨n,rows⟩ [rep,no]
 ·have hc2:=hc
  rw[ec]at hc2
  simp (disch:=first|assumption|omega) only[S0,rA,rQ,rB,rT,rE,bB,gK,hrow,ht,hg,hi,hc2,z0,Ubw,Sbv]
 ·have hc2:=hc
  rw[ec]at hc2
  simp (disch:=first|assumption|omega) only[S0,rA,rQ,rB,rT,rE,bB,gK,hrow,fT,ht,hg,hi,hc2,z2,Ubw,Sbv]
theorem Kaz (n:Int)(rows:List (List aY))(rep no:Int)(hs:bX rows):Fun T 118 [i64 n,rL rows,i64 rep,i64 no]=some [rL (Bbi ⟨n,rows⟩ rep no).1,.bool (Bbi ⟨n,rows⟩ rep no).2]:=by
 rw[aJ (t:=Ea5) rfl];unfold Ea5;unfold Bbi
 have z0:D.rows 1 []=rL ([]:List (List Int)):=rfl
 cases ht:aV ⟨n,rows⟩
 ·simp (disch:=first|assumption|omega) only[S0,rA,rQ,rB,rT,rE,mF,ht,z0,Vbh,Sbv]
 have hg:bK n=true:=aQ ht
 cases hi:inst n rep no
 ·simp (disch:=first|assumption|omega) only[S0,rA,rQ,rB,rT,rE,mF,ht,hg,hi,z0,Ubw,Vbh,Bool.and_false,Sbv]
 have hb:InB rows rep:=bN ht hi
 have hr:=bE hi
 have hx:dM n [rep,no]:=⟨rfl,hi⟩
 have ec:pJ ⟨n,rows⟩ [rep,no]=((cK ⟨n,rows⟩ rep no).state==3):=rfl
 have hrow:=fJ n rows rep no hg hs hb (by omega) (by omega)
 cases hc:pJ ⟨n,rows⟩ [rep,no]
 ·have hc2:=hc
  rw[ec]at hc2
  simp (disch:=first|assumption|omega) only[S0,rA,rQ,rB,rT,rE,mF,hrow,ht,hg,hi,hc2,z0,Ubw,Sbv]
 ·have hc2:=hc
  rw[ec]at hc2
  simp (disch:=first|assumption|omega) only[S0,rA,rQ,rB,rT,rE,mF,hrow,eU,ht,hg,hi,hc2,Ubw,Sbv]
theorem Qan (xs:List (List Int))(x:List Int)(hx:x.length<=1099511627776)(hl:xs.length<=10000000000):Fun T 114 [rL xs,rL x]=some [.bool (xs.any fun y=>decide (x=y))]:=by
 rw[aJ (t:=Ea9) rfl];unfold Ea9
 simp (disch:=first|assumption|omega) only[S0,rA,rQ,rB,rT,rE]
 rw[mP 1 xs (fun y=>decide (x=y)) (fun _=>[.bool true])]
 ·cases xs.any (fun y=>decide (x=y))<;>simp (disch:=first|assumption|omega) only[S0,rA,rQ,rB,rT,rE]
 ·intro i hi hb hlt hp
  simp (disch:=first|assumption|omega) only[S0,rA,rQ,rB,rT,rE,aI,hlt,Ka7,hp]
 ·intro i hi hb hlt hp
  simp (disch:=first|assumption|omega) only[S0,rA,rQ,rB,rT,rE,aI,hlt,Ka7,hp]
 ·intro hlt
  simp (disch:=first|assumption|omega) only[S0,rA,rQ,rB,rT,rE,hlt]
theorem Xam (code:D)(hc:isBytes code):∃ (t:aM),Fun T 2 [code]=some [i64 t.n,rL t.rows]/\t.rows.length<=5/\(∀ l∈t.rows,l.length<=5/\∀ r∈l,r.attr.deps.length<=10):=by
 rw[aJ (t:=tm2) rfl];unfold tm2
 obtain⟨t,e,h1,h2⟩:=Mal code hc
 simp (disch:=first|assumption|omega) only[S0,rA,rQ,rB,rT,rE,e]
 exact⟨t,rfl,h1,h2⟩
theorem Vac (code:D)(hc:isBytes code):∃ (t:aM),Fun T 121 [code]=some [i64 t.n,rL t.rows]/\t.rows.length<=5/\(∀ l∈t.rows,l.length<=5/\∀ r∈l,r.attr.deps.length<=10):=by
 rw[aJ (t:=Ea2) rfl];unfold Ea2
 obtain⟨t,e,h1,h2⟩:=Mal code hc
 simp (disch:=first|assumption|omega) only[S0,rA,rQ,rB,rT,rE,e]
 exact⟨t,rfl,h1,h2⟩
theorem Nay (code:D)(hc:isBytes code):∃ (t:aM) (k i:Int),Fun T 116 [code]=some [i64 t.n,rL t.rows,i64 k,i64 i]/\t.rows.length<=5/\(∀ l∈t.rows,l.length<=5/\∀ r∈l,r.attr.deps.length<=10):=by
 rw[aJ (t:=Ea7) rfl];unfold Ea7
 obtain⟨t,a1,s1,e1,p1,p2,p3,g1,k1⟩:=Mar code hc 0 0 (by omega) (by omega)
 obtain⟨k,i,a2,s2,e2,g2,k2⟩:=Ibf code hc a1 s1 (by omega) (by omega)
 have u0:D.int .u64 0=u64 0:=rfl
 simp (disch:=first|assumption|omega) only[S0,rA,rQ,rB,rT,rE,e1,e2,u0]
 exact⟨_,_,_,rfl,p2,p3⟩
theorem law (code more:D)(hc:isBytes code)(hm:isBytes more):Fun T 0 [code,more]=some [.bool true]:=by
 rw[aJ (t:=tm0) rfl];unfold tm0
 obtain⟨b,eb⟩:=Hbq code more hc hm
 cases b
 rotate_left
 ·simp (disch:=first|assumption|omega) only[S0,rA,rQ,rB,rT,rE,eb]
 have smOf:∀ rows:List (List aY),rows.length<=5->(∀ l∈rows,l.length<=5/\∀ r∈l,r.attr.deps.length<=10)->bX rows:=fun rows h1 h2=>⟨by omega,fun l hl=>⟨by have:=(h2 l hl).1;omega,fun r hr=>by have:=(h2 l hl).2 r hr;omega⟩⟩
 obtain⟨⟨n,rows⟩,e1,t1,t2⟩:=Xam code hc
 simp only at e1 t1 t2
 have hs:=smOf _ t1 t2
 obtain⟨⟨un,urows⟩,rep,no,e2,u1,u2⟩:=Nay more hm
 simp only at e2 u1 u2
 have hus:=smOf _ u1 u2
 obtain⟨⟨vn,vrows⟩,e3,v1,v2⟩:=Vac more hm
 simp only at e3 v1 v2
 have hvs:=smOf _ v1 v2
 have f1:=Bam un urows rep no hus
 have f2:=Kaz un urows rep no hus
 have f3:=Qav vn vrows hvs
 have f4:=Paz vn vrows hvs
 obtain⟨bl1,bl2⟩:=Ibp ⟨un,urows⟩ rep no
 have f5:=xA (Bbi ⟨un,urows⟩ rep no).1 (Bbi ⟨un,urows⟩ rep no).1 (by omega) (fun l hl=>by have:=bl2 l hl;omega)
 have i1:=Uan n rows hs
 have i2:=Saq n rows hs
 have i3:=Uao n rows hs
 have i4:=Sar n rows hs
 have i5:=Uap n rows hs
 have i6:=Sas n rows hs
 have i7:=Nax n rows hs
 have beq:∀ z:Bool,(aN.eqb true).run [.bool z,.bool z]=some [.bool false]:=by intro z;cases z<;>rfl
 have beq2:∀ z:Bool,(aN.eqb false).run [.bool z,.bool z]=some [.bool true]:=by intro z;cases z<;>rfl
 rw[decide_eq_true rfl]at f5
 generalize Bbi ⟨un,urows⟩ rep no=B at f1 f2 f5 bl1 bl2
 generalize Xaf ⟨vn,vrows⟩=H at f3 f4
 have q1:(uP ⟨n,rows⟩).1.length<=30/\∀ x∈(uP ⟨n,rows⟩).1,x.length<=2:=by
  unfold uP
  split
  ·rename_i h
   exact⟨eO h,fun x hx=>by have:=(bP h hx).1.1;omega⟩
  ·simp
 have q2:(uT ⟨n,rows⟩).1.length<=30/\∀ x∈(uT ⟨n,rows⟩).1,x.length<=2:=by
  unfold uT
  split
  ·rename_i h
   exact⟨Tbr (rM _) (eO h),fun x hx=>by have:=(bP h (vZ hx)).1.1;omega⟩
  ·simp
 have q3:(nK ⟨n,rows⟩).1.length<=30/\∀ x∈(nK ⟨n,rows⟩).1,x.length<=2:=by
  unfold nK
  split
  ·rename_i h
   simp only[Sbu]at h
   exact⟨nJ h.1,fun x hx=>by have:=(nZ h.1 hx).1.1;omega⟩
  ·simp
 have q4:=Fbe ⟨n,rows⟩
 have q5:(nK ⟨n,rows⟩).2.1.length<=10000000000/\∀ x∈(nK ⟨n,rows⟩).2.1,x.length<=10000000000:=by
  have h1:=lS (f:=szL fun _=>0) (xs:=(nK ⟨n,rows⟩).2.1)
  refine⟨by omega,fun x hx=>?_⟩
  have h2:=lQ (f:=szL fun _=>0) hx
  rw[kN]at h2
  omega
 have s1:=xA (uP ⟨n,rows⟩).1 (uP ⟨n,rows⟩).1 (by omega) (fun x hx=>by have:=q1.2 x hx;omega)
 have s2:=xA (uT ⟨n,rows⟩).1 (uT ⟨n,rows⟩).1 (by omega) (fun x hx=>by have:=q2.2 x hx;omega)
 have s3:=xA (nK ⟨n,rows⟩).1 (nK ⟨n,rows⟩).1 (by omega) (fun x hx=>by have:=q3.2 x hx;omega)
 have s4:=xA (nK ⟨n,rows⟩).2.1 (nK ⟨n,rows⟩).2.1 q5.1 q5.2
 rw[decide_eq_true rfl]at s1 s2 s3 s4
 generalize hG:nK ⟨n,rows⟩=G at i5 i6 q3 q4 q5 s3 s4
 cases ht:aV ⟨n,rows⟩
 ·have r1:uP ⟨n,rows⟩=([],false):=by unfold uP;rw[ht];rfl
  have r2:uT ⟨n,rows⟩=([],false):=by unfold uT;rw[ht];rfl
  have r3:Nbm ⟨n,rows⟩=([],false):=by unfold Nbm;rw[ht];rfl
  rw[r1]at i1 i2 s1
  rw[r2]at i3 i4 s2
  rw[r3]at i7
  simp only at i1 i2 i3 i4 i7 s1 s2
  simp (disch:=first|assumption|omega) only[S0,rA,rQ,rB,rT,rE,eb,e1,i1,i2,i3,i4,i5,i6,i7,beq,s1,s2,s3,s4]
  rw[bH 0 (fun i=>[i64 i]) (.yield 1,[]) rfl (by simp)]
  ·simp (disch:=first|assumption|omega) only[S0,rA,rQ,rB,rT,rE,e2,e3,f1,f2,f3,f4,f5,beq2]
  ·intro i hi;omega
  ·intro hlt
   simp (disch:=first|assumption|omega) only[S0,rA,rQ,rB,rT,rE,hlt]
 have r1:uP ⟨n,rows⟩=(aF ⟨n,rows⟩,true):=by unfold uP;rw[ht];rfl
 have r2:uT ⟨n,rows⟩=(fF ⟨n,rows⟩,true):=by unfold uT;rw[ht];rfl
 have r3:Nbm ⟨n,rows⟩=(aU rows,true):=by unfold Nbm;rw[ht];rfl
 rw[r1]at i1 i2 s1
 rw[r2]at i3 i4 s2
 rw[r3]at i7
 simp only at i1 i2 i3 i4 i7 s1 s2
 have efull:=Ebf (t:=⟨n,rows⟩)
 have cl:=nJ ht
 simp only at cl
 have rl:=eO ht
 have lne:(aN.bin .neq).run [i64 ((aF ⟨n,rows⟩).length:Int),i64 ((aF ⟨n,rows⟩).length:Int)]=some [.bool false]:=by simp[aN.run,Paf,Baj,i64]
 simp (disch:=first|assumption|omega) only[S0,rA,rQ,rB,rT,rE,eb,e1,i1,i2,i3,i4,i5,i6,i7,beq,s1,s2,s3,s4,efull,lne]
 rw[bH (aU rows).length (fun i=>[i64 i]) (.yield 1,[]) rfl (by simp)]
 ·simp (disch:=first|assumption|omega) only[S0,rA,rQ,rB,rT,rE,e2,e3,f1,f2,f3,f4,f5,beq2]
 ·intro i hi hlt
  have hb:InB (aU rows) (i:Int):=aG.2 hi
  have hmem:=at_mem hi
  obtain⟨hx,hxc⟩:=nZ ht hmem
  have hri:=Cba (t:=⟨n,rows⟩) (x:=atI (aU rows) (i:Int))
  generalize hX:atI (aU rows) (i:Int)=x at hmem hx hxc hri
  have hx2:x.length=2:=hx.1
  have hxe:x=[atI x 0,atI x 1]:=(qU hx2).symm
  have hb0:InB x 0:=by unfold InB;omega
  have hb1:InB x 1:=by unfold InB;omega
  have k1:=Bam n rows (atI x 0) (atI x 1) hs
  have er:Bbi ⟨n,rows⟩ (atI x 0) (atI x 1)=(gQ ⟨n,rows⟩ x,true):=by
   unfold Bbi
   rw[<- hxe,ht,hxc,hx.2]
   rfl
  rw[er]at k1
  simp only at k1
  have bl:=Pae ht hx
  have k2:=Qan (aF ⟨n,rows⟩) x (by omega) (by omega)
  have ek:((aF ⟨n,rows⟩).any fun y=>decide (x=y))=(((gQ ⟨n,rows⟩ x).length:Int)==0):=by
   cases h:(aF ⟨n,rows⟩).any fun y=>decide (x=y) with
   | true =>
    have h2:=(hri.1 (Iaq.1 h)).2
    rw[h2];rfl
   | false =>
    cases h3:(((gQ ⟨n,rows⟩ x).length:Int)==0) with
    |false=>rfl
    | true =>
     have h4:=Iaq.2 (hri.2 ⟨hmem,by simpa using h3⟩)
     rw[h]at h4;cases h4
  rw[ek]at k2
  have l2:(aN.bin .neq).run [i64 ((x.length:Nat):Int),i64 2]=some [.bool false]:=by rw[hx2];rfl
  have hbm:=fun y (hy:y∈gQ ⟨n,rows⟩ x)=>And.intro (Eao ht hx hy) ((Ca5 ht hx).1 hy).2
  have beqT:(aN.eqb true).run [.bool (((gQ ⟨n,rows⟩ x).length:Int)==0),.bool (((gQ ⟨n,rows⟩ x).length:Int)==0)]=some [.bool false]:=beq _
  simp (disch:=first|assumption|omega) only[S0,rA,rQ,rB,rT,rE,aI,hlt,hX,l2,k1,k2,beqT]
  rw[bH (gQ ⟨n,rows⟩ x).length (fun j=>[i64 j]) (.yield 3,[]) rfl (by simp)]
  ·simp (disch:=first|assumption|omega) only[S0,rA,rQ,rB,rT,rE]
  ·intro j hj hltj
   have hbj:InB (gQ ⟨n,rows⟩ x) (j:Int):=aG.2 hj
   obtain⟨hy,hyc⟩:=hbm _ (at_mem hj)
   generalize hY:atI (gQ ⟨n,rows⟩ x) (j:Int)=y at hy hyc
   have hy2:y.length=2:=hy.1
   have hc0:InB y 0:=by unfold InB;omega
   have hc1:InB y 1:=by unfold InB;omega
   have k3:=Cbh n rows (atI y 0) (atI y 1) hs
   have er2:vU ⟨n,rows⟩ (atI y 0) (atI y 1)=(cK ⟨n,rows⟩ (atI y 0) (atI y 1),true):=by
    unfold vU
    have h:=hy.2
    simp only at h
    simp only[ht,h]
    rfl
   rw[er2]at k3
   simp only at k3
   have hst:((cK ⟨n,rows⟩ (atI y 0) (atI y 1)).state==3)=false:=hyc
   simp (disch:=first|assumption|omega) only[S0,rA,rQ,rB,rT,rE,aI,hltj,hY,k3,hst]
  ·intro hltj
   simp (disch:=first|assumption|omega) only[S0,rA,rQ,rB,rT,rE,hltj]
 ·intro hlt
  simp (disch:=first|assumption|omega) only[S0,rA,rQ,rB,rT,rE,hlt]
theorem hpure:∀ ds,WTs [.sl 1 [.int .u8],.sl 1 [.int .u8]] ds->∃ n,mX T n 0 ds=some [.bool true]:=by
 intro ds h
 simp only[WTs]at h
 obtain⟨d0,r0,rfl,w0,d1,r1,rfl,w1,rfl⟩:=h
 exact Wa0 (law d0 d1 w0 w1)
end FnReady
end Go.Proofs.YtpgnlmfmlffjcaaGreat
