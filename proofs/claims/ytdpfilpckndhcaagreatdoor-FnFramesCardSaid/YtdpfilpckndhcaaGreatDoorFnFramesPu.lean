/- What the terms of FnFrames come to. -/
import Derived.Test.YtdpfilpckndhcaaGreatDoorFnFramesTab
open Bool renaming and_eq_true → Qbq, false_eq_true → Qbr, not_eq_true' → Rbe, not_true → Rbl, false_and → Rbp, not_false → Rbr, or_eq_true → Rbw, beq_eq_decide_eq → Rb7, and_false → Sba, not_eq_false' → Sbc, true_and → Sbg, and_true → Sbh, true_or → Sbw, or_true → Sb3, false_or → Sb6, or_false → Tba, or_eq_false_iff → Tbi, and_self → Tbl, and_eq_false_iff → Tb3
open Int renaming toNat_natCast → Rbd, tmod_eq_emod_of_nonneg → Rb2, tdiv_eq_ediv_of_nonneg → Sbm, toNat_zero → Tbw, emod_lt_of_pos → Tbx
open List renaming length_append → Qbs, length_cons → Qbt, length_nil → Qbu, take_of_length_le → Qbx, replicate → Qb0, append_assoc → Qb1, mem_singleton → Qb6, length_take → Qb9, length_map → Rbf, all_eq_true → Rbg, map_cons → Rbh, mem_cons → Rbk, append_nil → Rbm, length_drop → Rbn, length_replicate → Rbo, map_nil → Rbq, not_mem_nil → Rbs, eq_nil_of_length_eq_zero → Rbx, count_le_length → Sbe, mem_of_mem_drop → Sbo, length_set → Sbp, eq_of_mem_replicate → Sbs, mem_append → Sbt, take_length → Sbx, mem_of_mem_take → Sb0, drop_zero → Sb9, drop_eq_nil_of_le → Tbb, replicate_zero → Tbk, all_append → Tbv, replicate_succ' → Tb8, take_set_of_le → Ubb
open Nat renaming le_refl → Qbw, le_trans → Sbn, pow_le_pow_right → Tbm, reduceEqDiff → Tbs
namespace Go.Proofs.YtdpfilpckndhcaaGreatDoor
namespace FnFrames
open Go Go.Proofs.YtdpfilpckndhcaaGreatDoor.Rf
open Nat renaming reduceAdd → rA, reduceEqDiff → rQ
open Int renaming reduceBEq → rB, reduceLT → rT, reduceLE → rE
set_option linter.unusedSimpArgs false
set_option linter.unusedVariables false
set_option linter.unnecessarySimpa false
set_option maxHeartbeats 4000000
set_option maxRecDepth 10000
theorem dL (x lo up:Int):Fun T 14 [i64 x,i64 lo,i64 up]=some [.bool (inR x lo up)]:=by
 rw[aK (t:=Dbi) rfl];unfold Dbi;unfold inR
 (refine aH ?_;repeat' (refine aI ?_ ?_<;>intro _<;>try simp (disch:=first|assumption|omega) only[S0,rA,rQ,rB,rT,rE, *]))
theorem bZ (x lo up:Int):Fun T 43 [i64 x,i64 lo,i64 up]=some [.bool (inR x lo up)]:=by
 rw[aK (t:=Cbx) rfl];unfold Cbx;unfold inR
 (refine aH ?_;repeat' (refine aI ?_ ?_<;>intro _<;>try simp (disch:=first|assumption|omega) only[S0,rA,rQ,rB,rT,rE, *]))
theorem dU (n:Int):Fun T 13 [i64 n]=some [.bool (bD n)]:=by
 rw[aK (t:=Dbo) rfl];unfold Dbo;unfold bD
 (refine aH ?_;repeat' (refine aI ?_ ?_<;>intro _<;>try simp (disch:=first|assumption|omega) only[S0,rA,rQ,rB,rT,rE, *]))
theorem aZ (n:Int):Fun T 41 [i64 n]=some [.bool (bD n)]:=by
 rw[aK (t:=Cbz) rfl];unfold Cbz;unfold bD
 (refine aH ?_;repeat' (refine aI ?_ ?_<;>intro _<;>try simp (disch:=first|assumption|omega) only[S0,rA,rQ,rB,rT,rE, *]))
theorem bF (n:Int):Fun T 17 [i64 n]=some [.bool (inR n 0 3)]:=by
 rw[aK (t:=Dbf) rfl];unfold Dbf
 (refine aH ?_;repeat' (refine aI ?_ ?_<;>intro _<;>try simp (disch:=first|assumption|omega) only[S0,rA,rQ,rB,rT,rE,dL, *]))
theorem uH (n:Int):Fun T 49 [i64 n]=some [.bool (inR n 0 3)]:=by
 rw[aK (t:=Cbr) rfl];unfold Cbr
 (refine aH ?_;repeat' (refine aI ?_ ?_<;>intro _<;>try simp (disch:=first|assumption|omega) only[S0,rA,rQ,rB,rT,rE,bZ, *]))
theorem lV (k i f t a:Int):Fun T 48 [i64 k,i64 i,i64 f,i64 t,i64 a]=some [i64 (nP ⟨k,i,f,t,a⟩)]:=by
 rw[aK (t:=Cbs) rfl];unfold Cbs;unfold nP
 (refine aH ?_;repeat' (refine aI ?_ ?_<;>intro _<;>try simp (disch:=first|assumption|omega) only[S0,rA,rQ,rB,rT,rE,uH,bZ, *]))
theorem yI (k i f t a:Int):Fun T 47 [i64 k,i64 i,i64 f,i64 t,i64 a]=some [.bool (dC ⟨k,i,f,t,a⟩)]:=by
 rw[aK (t:=Cbt) rfl];unfold Cbt;unfold dC
 (refine aH ?_;repeat' (refine aI ?_ ?_<;>intro _<;>try simp (disch:=first|assumption|omega) only[S0,rA,rQ,rB,rT,rE,lV,Gaq,Ua8, *]))
 all_goals (refine Haa ?_;simp only[Qbq,Rbw,Rbe,Sbc,Tb3,Tbi,Qbr,beq_iff_eq,beq_eq_false_iff_ne,decide_eq_true_eq,decide_eq_false_iff_not,ne_eq]at *;grind)
theorem iG (k i f t a:Int):Fun T 16 [i64 k,i64 i,i64 f,i64 t,i64 a]=some [.bool (dC ⟨k,i,f,t,a⟩)]:=by
 rw[aK (t:=Dbg) rfl];unfold Dbg;unfold dC
 (refine aH ?_;repeat' (refine aI ?_ ?_<;>intro _<;>try simp (disch:=first|assumption|omega) only[S0,rA,rQ,rB,rT,rE,dL,bF,Gaq, *]))
theorem rH (n rep no:Int)(hg:bD n=true):Fun T 42 [i64 n,i64 rep,i64 no]=some [.bool (inst n rep no)]:=by
 rw[aK (t:=Cby) rfl];unfold Cby;unfold inst
 have hn:=aY hg
 (refine aH ?_;repeat' (refine aI ?_ ?_<;>intro _<;>try simp (disch:=first|assumption|omega) only[S0,rA,rQ,rB,rT,rE,bZ, *]))
theorem bO (n rep no:Int):Fun T 12 [i64 n,i64 rep,i64 no]=some [.bool (bD n&&inst n rep no)]:=by
 rw[aK (t:=Dbp) rfl];unfold Dbp;unfold inst
 cases hg:bD n
 ·(refine aH ?_;repeat' (refine aI ?_ ?_<;>intro _<;>try simp (disch:=first|assumption|omega) only[S0,rA,rQ,rB,rT,rE,dU, *]))
 have hn:=aY hg
 (refine aH ?_;repeat' (refine aI ?_ ?_<;>intro _<;>try simp (disch:=first|assumption|omega) only[S0,rA,rQ,rB,rT,rE,dU,dL, *]))
theorem Eav (xs:List Int)(lo up:Int)(hx:xs.length<=1099511627776):Fun T 51 [rL xs,i64 lo,i64 up]=some [.bool (xs.all fun x=>inR x lo up)]:=by
 rw[aK (t:=Ib6) rfl];unfold Ib6
 simp (disch:=first|assumption|omega) only[S0,rA,rQ,rB,rT,rE,aJ, *]
 rw[Pbj 1 xs (fun x=>inR x lo up) [.bool false]]
 ·(refine aH ?_;repeat' (refine aI ?_ ?_<;>intro _<;>try simp (disch:=first|assumption|omega) only[S0,rA,rQ,rB,rT,rE, *]))
 ·intro i hi hb hl hp
  (refine aH ?_;repeat' (refine aI ?_ ?_<;>intro _<;>try simp (disch:=first|assumption|omega) only[S0,rA,rQ,rB,rT,rE,aJ,bZ, *]))
 ·intro i hi hb hl hp
  (refine aH ?_;repeat' (refine aI ?_ ?_<;>intro _<;>try simp (disch:=first|assumption|omega) only[S0,rA,rQ,rB,rT,rE,aJ,bZ, *]))
 ·intro hl
  (refine aH ?_;repeat' (refine aI ?_ ?_<;>intro _<;>try simp (disch:=first|assumption|omega) only[S0,rA,rQ,rB,rT,rE, *]))
theorem rJ (n s:Int)(xs:List Int)(hx:xs.length<=1099511627776):Fun T 50 [i64 n,i64 s,rL xs]=some [.bool (fC n ⟨s,xs⟩)]:=by
 rw[aK (t:=Cbq) rfl];unfold Cbq;unfold fC
 (refine aH ?_;repeat' (refine aI ?_ ?_<;>intro _<;>try simp (disch:=first|assumption|omega) only[S0,rA,rQ,rB,rT,rE,bZ,Eav, *]))
theorem kC (x:Int):Fun T 21 [i64 x]=some [.bool (!inR x 0 6)]:=by
 rw[aK (t:=Dbb) rfl];unfold Dbb
 (refine aH ?_;repeat' (refine aI ?_ ?_<;>intro _<;>try simp (disch:=first|assumption|omega) only[S0,rA,rQ,rB,rT,rE,dL, *]))
theorem wS  (xs:List Int)(hx:xs.length<=1099511627776):Fun T 20 [rL xs]=some [i64 (ixF (fun x=>!inR x 0 6) xs)]:=by
 rw[aK (t:=Dbc) rfl];unfold Dbc
 simp (disch:=first|assumption|omega) only[S0,rA,rQ,rB,rT,rE,aJ, *]
 rw[Ja3 1 xs (fun x=>!inR x 0 6) (fun i=>[i64 i])]
 ·cases h:xs.any (fun x=>!inR x 0 6)
  ·have e:ixF (fun x=>!inR x 0 6) xs=-1:=by
    have h2:=oI (fun x=>!inR x 0 6) xs
    rw[h]at h2
    unfold ixF at h2 ⊢
    split at h2<;>simp_all
   rw[e];simp (disch:=first|assumption|omega) only[S0,rA,rQ,rB,rT,rE]
  ·simp (disch:=first|assumption|omega) only[S0,rA,rQ,rB,rT,rE]
 ·intro i hi hb hl hp
  (refine aH ?_;repeat' (refine aI ?_ ?_<;>intro _<;>try simp (disch:=first|assumption|omega) only[S0,rA,rQ,rB,rT,rE,aJ,kC, *]))
 ·intro i hi hb hl hp
  (refine aH ?_;repeat' (refine aI ?_ ?_<;>intro _<;>try simp (disch:=first|assumption|omega) only[S0,rA,rQ,rB,rT,rE,aJ,kC, *]))
 ·intro hl
  (refine aH ?_;repeat' (refine aI ?_ ?_<;>intro _<;>try simp (disch:=first|assumption|omega) only[S0,rA,rQ,rB,rT,rE, *]))
theorem xI  (xs:List Int)(hx:xs.length<=1099511627776):Fun T 19 [rL xs]=some [.bool (xs.any (fun x=>!inR x 0 6))]:=by
 rw[aK (t:=Dbd) rfl];unfold Dbd
 (refine aH ?_;repeat' (refine aI ?_ ?_<;>intro _<;>try simp (disch:=first|assumption|omega) only[S0,rA,rQ,rB,rT,rE,wS,oI, *]))
theorem nM (n s:Int)(xs:List Int)(hx:xs.length<=1099511627776):Fun T 18 [i64 n,i64 s,rL xs]=some [.bool (bD n&&fC n ⟨s,xs⟩)]:=by
 rw[aK (t:=Dbe) rfl];unfold Dbe;unfold fC
 have e:xs.any (fun x=>!inR x 0 6)=!xs.all fun x=>inR x 0 6:=by rw[List.not_all_eq_any_not]
 (refine aH ?_;repeat' (refine aI ?_ ?_<;>intro _<;>try simp (disch:=first|assumption|omega) only[S0,rA,rQ,rB,rT,rE,dU,dL,xI,e,Bool.not_not, *]))
theorem Bas (xs ys:List Int)(hx:xs.length<=1099511627776):Fun T 46 [rL xs,rL ys]=some [.bool (decide (xs=ys))]:=by
 rw[aK (t:=Cbu) rfl];unfold Cbu
 by_cases hl:ys.length=xs.length
 ·simp (disch:=first|assumption|omega) only[S0,rA,rQ,rB,rT,rE, *]
  rw[Va2 1 xs.length (fun i=>decide (atI xs i=atI ys i)) [.bool false],qB hl.symm]
  ·(refine aH ?_;repeat' (refine aI ?_ ?_<;>intro _<;>try simp (disch:=first|assumption|omega) only[S0,rA,rQ,rB,rT,rE, *]))
  ·intro i hi hp
   have hb:InB xs (i:Int):=aP.2 hi
   have hb':InB ys (i:Int):=aP.2 (by omega)
   have h2:decide ((i:Int)<xs.length)=true:=by simp;omega
   have h3:(atI xs i==atI ys i)=true:=by simpa using hp
   (refine aH ?_;repeat' (refine aI ?_ ?_<;>intro _<;>try simp (disch:=first|assumption|omega) only[S0,rA,rQ,rB,rT,rE,aJ, *]))
  ·intro i hi hp
   have hb:InB xs (i:Int):=aP.2 hi
   have hb':InB ys (i:Int):=aP.2 (by omega)
   have h2:decide ((i:Int)<xs.length)=true:=by simp;omega
   have h3:(atI xs i==atI ys i)=false:=by simpa using hp
   (refine aH ?_;repeat' (refine aI ?_ ?_<;>intro _<;>try simp (disch:=first|assumption|omega) only[S0,rA,rQ,rB,rT,rE,aJ, *]))
  ·have h2:decide ((xs.length:Int)<xs.length)=false:=by simp
   (refine aH ?_;repeat' (refine aI ?_ ?_<;>intro _<;>try simp (disch:=first|assumption|omega) only[S0,rA,rQ,rB,rT,rE, *]))
 ·have hl':((xs.length:Int)==(ys.length:Int))=false:=by simp;omega
  have e:=xY (fun h=>hl h.symm)
  (refine aH ?_;repeat' (refine aI ?_ ?_<;>intro _<;>try simp (disch:=first|assumption|omega) only[S0,rA,rQ,rB,rT,rE, *]))
theorem slices_Equal_int (xs ys:List Int)(hx:xs.length<=1099511627776):Fun T 24 [rL xs,rL ys]=some [.bool (decide (xs=ys))]:=by
 rw[aK (t:=Cb8) rfl];unfold Cb8
 by_cases hl:ys.length=xs.length
 ·simp (disch:=first|assumption|omega) only[S0,rA,rQ,rB,rT,rE, *]
  rw[Va2 1 xs.length (fun i=>decide (atI xs i=atI ys i)) [.bool false],qB hl.symm]
  ·(refine aH ?_;repeat' (refine aI ?_ ?_<;>intro _<;>try simp (disch:=first|assumption|omega) only[S0,rA,rQ,rB,rT,rE, *]))
  ·intro i hi hp
   have hb:InB xs (i:Int):=aP.2 hi
   have hb':InB ys (i:Int):=aP.2 (by omega)
   have h2:decide ((i:Int)<xs.length)=true:=by simp;omega
   have h3:(atI xs i==atI ys i)=true:=by simpa using hp
   (refine aH ?_;repeat' (refine aI ?_ ?_<;>intro _<;>try simp (disch:=first|assumption|omega) only[S0,rA,rQ,rB,rT,rE,aJ, *]))
  ·intro i hi hp
   have hb:InB xs (i:Int):=aP.2 hi
   have hb':InB ys (i:Int):=aP.2 (by omega)
   have h2:decide ((i:Int)<xs.length)=true:=by simp;omega
   have h3:(atI xs i==atI ys i)=false:=by simpa using hp
   (refine aH ?_;repeat' (refine aI ?_ ?_<;>intro _<;>try simp (disch:=first|assumption|omega) only[S0,rA,rQ,rB,rT,rE,aJ, *]))
  ·have h2:decide ((xs.length:Int)<xs.length)=false:=by simp
   (refine aH ?_;repeat' (refine aI ?_ ?_<;>intro _<;>try simp (disch:=first|assumption|omega) only[S0,rA,rQ,rB,rT,rE, *]))
 ·have hl':((xs.length:Int)==(ys.length:Int))=false:=by simp;omega
  have e:=xY (fun h=>hl h.symm)
  (refine aH ?_;repeat' (refine aI ?_ ?_<;>intro _<;>try simp (disch:=first|assumption|omega) only[S0,rA,rQ,rB,rT,rE, *]))
theorem wE (s s':Int)(xs ys:List Int)(hx:xs.length<=1099511627776):Fun T 45 [i64 s,rL xs,i64 s',rL ys]=some [.bool (decide ((⟨s,xs⟩:gT)=⟨s',ys⟩))]:=by
 rw[aK (t:=Cbv) rfl];unfold Cbv
 have e:decide ((⟨s,xs⟩:gT)=⟨s',ys⟩)=(s==s'&&decide (xs=ys)):=by simp[gT.mk.injEq,Rb7]
 (refine aH ?_;repeat' (refine aI ?_ ?_<;>intro _<;>try simp (disch:=first|assumption|omega) only[S0,rA,rQ,rB,rT,rE,Bas,e, *]))
theorem wW (s s':Int)(xs ys:List Int)(hx:xs.length<=1099511627776):Fun T 23 [i64 s,rL xs,i64 s',rL ys]=some [.bool (decide ((⟨s,xs⟩:gT)=⟨s',ys⟩))]:=by
 rw[aK (t:=Cb9) rfl];unfold Cb9
 have e:decide ((⟨s,xs⟩:gT)=⟨s',ys⟩)=(s==s'&&decide (xs=ys)):=by simp[gT.mk.injEq,Rb7]
 (refine aH ?_;repeat' (refine aI ?_ ?_<;>intro _<;>try simp (disch:=first|assumption|omega) only[S0,rA,rQ,rB,rT,rE,slices_Equal_int,e, *]))
theorem rG (n:Int)(hg:bD n=true):Fun T 10 [i64 n]=some [i64 (none0 n).seq,rL (none0 n).deps]:=by
 rw[aK (t:=Vaj) rfl];unfold Vaj;unfold none0
 have hn:=aY hg
 (refine aH ?_;repeat' (refine aI ?_ ?_<;>intro _<;>try simp (disch:=first|assumption|omega) only[S0,rA,rQ,rB,rT,rE,mQ, *]))
theorem kQ (n:Int)(hg:bD n=true):Fun T 22 [i64 n]=some [i64 (none0 n).seq,rL (none0 n).deps]:=by
 rw[aK (t:=Dba) rfl];unfold Dba;unfold none0
 have hn:=aY hg
 (refine aH ?_;repeat' (refine aI ?_ ?_<;>intro _<;>try simp (disch:=first|assumption|omega) only[S0,rA,rQ,rB,rT,rE,mQ, *]))
theorem uX (n bal vot sta k i f t a sq:Int)(xs:List Int)(hg:bD n=true)(hx:xs.length<=1099511627776) :
  Fun T 44 [i64 n,i64 bal,i64 vot,i64 sta,i64 k,i64 i,i64 f,i64 t,i64 a,i64 sq,rL xs]=some [.bool (rowOk n ⟨bal,vot,sta,⟨k,i,f,t,a⟩,⟨sq,xs⟩⟩)]:=by
 rw[aK (t:=Cbw) rfl];unfold Cbw;unfold rowOk
 (refine aH ?_;repeat' (refine aI ?_ ?_<;>intro _<;>try simp (disch:=first|assumption|omega) only[S0,rA,rQ,rB,rT,rE,bZ,Gaq,rG,wE,yI,rJ, *]))
theorem mK (n bal vot sta k i f t a sq:Int)(xs:List Int)(hg:bD n=true)(hx:xs.length<=1099511627776) :
  Fun T 15 [i64 n,i64 bal,i64 vot,i64 sta,i64 k,i64 i,i64 f,i64 t,i64 a,i64 sq,rL xs]=some [.bool (rowOk n ⟨bal,vot,sta,⟨k,i,f,t,a⟩,⟨sq,xs⟩⟩)]:=by
 rw[aK (t:=Dbh) rfl];unfold Dbh;unfold rowOk
 have h1:=@Tad ⟨k,i,f,t,a⟩
 have h2:=Ga4 hg
 have h3:decide ((⟨sq,xs⟩:gT)=none0 n)=true->fC n ⟨sq,xs⟩=true:=fun h=>by rw[of_decide_eq_true h];exact h2
 (refine aH ?_;repeat' (refine aI ?_ ?_<;>intro _<;>try simp (disch:=first|assumption|omega) only[S0,rA,rQ,rB,rT,rE,dL,Gaq,kQ,wW,iG,nM, *]))
 all_goals (refine Haa ?_;simp only[Qbq,Rbw,Rbe,Sbc,Tb3,Tbi,Qbr,beq_iff_eq,beq_eq_false_iff_ne,decide_eq_true_eq,decide_eq_false_iff_not,ne_eq]at *;grind)
theorem slices_Clone_int (xs:List Int)(hx:xs.length<=10000000000):Fun T 125 [rL xs]=some [rL xs]:=by
 rw[uS (e:=Mba) rfl]
 cases xs with
 |nil=>rfl
 | cons x xs =>
  show Fun (Dav [(125,.tm Hak)]) 125 [rL (x::xs)]=_
  rw[aK (t:=Hak) rfl]
  unfold Hak
  have hx':(x::xs).length<=100000000000:=by omega
  have h0:(aO.mk 1 0).run []=some [.rows 1 []]:=rfl
  have h1:(x::xs).isEmpty=false:=rfl
  simp (disch:=first|assumption|omega) only[SA,SB,SC,SP,SQ,SZ,reduceIte,reduceCtorEq,Nat.reduceAdd,Tbs,Lbr,Fbq,h0,h1,iQ]
theorem pX (s:Int)(xs:List Int)(hx:xs.length<=10000000000):Fun T 124 [i64 s,rL xs]=some [i64 s,rL xs]:=by
 rw[aK (t:=La7) rfl];unfold La7
 (refine aH ?_;repeat' (refine aI ?_ ?_<;>intro _<;>try simp (disch:=first|assumption|omega) only[S0,rA,rQ,rB,rT,rE,slices_Clone_int, *]))
theorem uJ (n:Int)(rows:List (List bL))(hs:mR rows):Fun T 114 [i64 n,rL rows]=some [.bool (eQ ⟨n,rows⟩)]:=by
 rw[aK (t:=Mah) rfl];unfold Mah;unfold eQ
 obtain⟨hs1,hs2⟩:=hs
 cases hg:bD n
 ·(refine aH ?_;repeat' (refine aI ?_ ?_<;>intro _<;>try simp (disch:=first|assumption|omega) only[S0,rA,rQ,rB,rT,rE,aZ, *]))
 cases hl:(rows.length:Int)==n
 ·(refine aH ?_;repeat' (refine aI ?_ ?_<;>intro _<;>try simp (disch:=first|assumption|omega) only[S0,rA,rQ,rB,rT,rE,aZ, *]))
 simp (disch:=first|assumption|omega) only[S0,rA,rQ,rB,rT,rE,aZ, *]
 rw[Nbe 1 rows (fun l=>l.all (fun r=>rowOk n r)&&decide ((l.length:Int)<=6)) [.bool false]]
 ·(refine aH ?_;repeat' (refine aI ?_ ?_<;>intro _<;>try simp (disch:=first|assumption|omega) only[S0,rA,rQ,rB,rT,rE, *]))
 ·intro i hi hb hlt hm
  obtain⟨hq1,hq2⟩:=hs2 _ hm
  simp (disch:=first|assumption|omega) only[S0,rA,rQ,rB,rT,rE,aJ, *]
  rw[Nbe 3 (atI rows i) (fun r=>rowOk n r) [.bool false]]
  ·have e:decide (6<((atI rows (i:Int)).length:Int))=!decide (((atI rows (i:Int)).length:Int)<=6):=by
    by_cases h:((atI rows (i:Int)).length:Int)<=6
    ·simp[h]
    ·simp[h];omega
   (refine aH ?_;repeat' (refine aI ?_ ?_<;>intro _<;>try simp (disch:=first|assumption|omega) only[S0,rA,rQ,rB,rT,rE,e, *]))
  ·intro j hj hb2 hlt2 hm2
   have hq3:=hq2 _ hm2
   have hq4:(atI (atI rows (i:Int)) (j:Int)).attr.deps.length<=1099511627776:=by omega
   (refine aH ?_;repeat' (refine aI ?_ ?_<;>intro _<;>try simp (disch:=first|assumption|omega) only[S0,rA,rQ,rB,rT,rE,aJ,uX, *]))
  ·intro hl2
   (refine aH ?_;repeat' (refine aI ?_ ?_<;>intro _<;>try simp (disch:=first|assumption|omega) only[S0,rA,rQ,rB,rT,rE, *]))
 ·intro hl2
  (refine aH ?_;repeat' (refine aI ?_ ?_<;>intro _<;>try simp (disch:=first|assumption|omega) only[S0,rA,rQ,rB,rT,rE, *]))
theorem Eat (xs:List Int)(hx:xs.length<=10000000000):Fun T 112 [rL xs]=some [rL xs]:=by
 rw[aK (t:=Maj) rfl];unfold Maj
 have h0:(aO.mk 1 0).run []=some [.rows 1 []]:=rfl
 (refine aH ?_;repeat' (refine aI ?_ ?_<;>intro _<;>try simp (disch:=first|assumption|omega) only[S0,rA,rQ,rB,rT,rE,h0,iQ, *]))
theorem uG (s:Int)(xs:List Int)(hx:xs.length<=10000000000):Fun T 111 [i64 s,rL xs]=some [i64 s,rL xs]:=by
 rw[aK (t:=Mak) rfl];unfold Mak
 (refine aH ?_;repeat' (refine aI ?_ ?_<;>intro _<;>try simp (disch:=first|assumption|omega) only[S0,rA,rQ,rB,rT,rE,Eat, *]))
theorem mZ (r_ballot r_vote r_state r_cmd_kind r_cmd_id r_cmd_src r_cmd_dst r_cmd_amt r_attr_seq:Int)(r_attr_deps:(List Int))(hx:r_attr_deps.length<=10000000000):Fun T 110 [i64 r_ballot,i64 r_vote,i64 r_state,i64 r_cmd_kind,i64 r_cmd_id,i64 r_cmd_src,i64 r_cmd_dst,i64 r_cmd_amt,i64 r_attr_seq,rL r_attr_deps]=some [i64 r_ballot,i64 r_vote,i64 r_state,i64 r_cmd_kind,i64 r_cmd_id,i64 r_cmd_src,i64 r_cmd_dst,i64 r_cmd_amt,i64 r_attr_seq,rL r_attr_deps]:=by
 rw[aK (t:=Mal) rfl];unfold Mal
 (refine aH ?_;repeat' (refine aI ?_ ?_<;>intro _<;>try simp (disch:=first|assumption|omega) only[S0,rA,rQ,rB,rT,rE,uG, *]))
theorem nL (r_ballot r_vote r_state r_cmd_kind r_cmd_id r_cmd_src r_cmd_dst r_cmd_amt r_attr_seq:Int)(r_attr_deps:(List Int))(hx:r_attr_deps.length<=10000000000):Fun T 123 [i64 r_ballot,i64 r_vote,i64 r_state,i64 r_cmd_kind,i64 r_cmd_id,i64 r_cmd_src,i64 r_cmd_dst,i64 r_cmd_amt,i64 r_attr_seq,rL r_attr_deps]=some [i64 r_ballot,i64 r_vote,i64 r_state,i64 r_cmd_kind,i64 r_cmd_id,i64 r_cmd_src,i64 r_cmd_dst,i64 r_cmd_amt,i64 r_attr_seq,rL r_attr_deps]:=by
 rw[aK (t:=La8) rfl];unfold La8
 (refine aH ?_;repeat' (refine aI ?_ ?_<;>intro _<;>try simp (disch:=first|assumption|omega) only[S0,rA,rQ,rB,rT,rE,pX, *]))
theorem uY (n:Int)(hg:bD n=true):Fun T 100 [i64 n]=some [i64 n,rL (Qb0 n.toNat ([]:List bL))]:=by
 rw[aK (t:=Hao) rfl];unfold Hao
 have hn:=aY hg
 (refine aH ?_;repeat' (refine aI ?_ ?_<;>intro _<;>try simp (disch:=first|assumption|omega) only[S0,rA,rQ,rB,rT,rE,mQ, *]))
theorem Ear (n:Int)(rows:List (List bL))(hg:bD n=true)(hl:(rows.length:Int)=n)(hs:mR rows):Fun T 109 [i64 n,rL rows]=some [i64 n,rL rows]:=by
 rw[aK (t:=Hal) rfl];unfold Hal
 obtain⟨hs1,hs2⟩:=hs
 have hn:=aY hg
 have e0:Qb0 n.toNat ([]:List bL)=upto [] rows 0:=by rw[Oam];congr 1;omega
 simp (disch:=first|assumption|omega) only[SA,SB,SC,SP,SQ,SZ,reduceIte,reduceCtorEq,Nat.reduceAdd,Tbs,uY]
 rw[Gak rows.length (fun i=>[i64 i,rL (upto [] rows i)]) (.yield 1,[rL rows]) (by rw[e0];rfl) (by simp)]
 ·(refine aH ?_;repeat' (refine aI ?_ ?_<;>intro _<;>try simp (disch:=first|assumption|omega) only[S0,rA,rQ,rB,rT,rE, *]))
 ·intro i hi hlt
  have hb:InB rows (i:Int):=aP.2 hi
  have hq:=hs2 _ (at_mem hi)
  have hu:(upto [] rows i).length=rows.length:=Tar [] rows (Nat.le_of_lt hi)
  have hbu:InB (upto [] rows i) (i:Int):=aP.2 (by rw[hu];exact hi)
  have hu0:upto [] rows i=cZ (upto [] rows i) i ((atI rows (i:Int)).take 0):=by
   have:atI (upto [] rows i) (i:Int)=[]:=by
    unfold upto
    rw[Jai,List.getD_eq_getElem?_getD,List.getElem?_append_right (by rw[Qb9];omega),List.getElem?_replicate]
    split<;>rfl
   have h3:=yL hbu
   rw[this]at h3
   rw[List.take_zero];exact h3.symm
  have hu1:cZ (upto [] rows i) i (atI rows (i:Int))=upto [] rows (i+1):=by
   rw[cZ]
   exact Taq [] rows (by rw[cK hi];exact List.getElem?_eq_getElem hi)
  obtain⟨hq1,hq2⟩:=hq
  have hr:rows.length<=10:=by omega
  simp (disch:=first|assumption|omega) only[S0,rA,rQ,rB,rT,rE,aJ,hlt]
  rw[Gak (atI rows (i:Int)).length (fun j=>[i64 j,rL (cZ (upto [] rows i) i ((atI rows (i:Int)).take j))]) (.yield 3,[rL (upto [] rows (i+1))]) (by rw[<- hu0];rfl) (by simp)]
  ·clear hu hu0 hu1
   simp (disch:=first|assumption|omega) only[S0,rA,rQ,rB,rT,rE]
  ·intro j hj hlt2
   have hb2:InB (atI rows (i:Int)) (j:Int):=aP.2 hj
   have hq3:=hq2 _ (at_mem hj)
   have ha:atI (cZ (upto [] rows i) (i:Int) ((atI rows (i:Int)).take j)) (i:Int)=(atI rows (i:Int)).take j:=by
    have:=fU
    exact this.1 hbu
   have hbs:InB (cZ (upto [] rows i) (i:Int) ((atI rows (i:Int)).take j)) (i:Int):=aP.2 (by rw[cZ,Sbp,hu];exact hi)
   have hta:=take_at hj
   have hll:((atI rows (i:Int)).take j).length+1<=100000000000:=by rw[Qb9];omega
   have hll2:((atI rows (i:Int)).take j).length+([atI (atI rows (i:Int)) (j:Int)]:List bL).length<=100000000000:=hll
   clear hu hu0 hu1
   simp (disch:=first|assumption|omega) only[S0,rA,rQ,rB,rT,rE,aJ,dI,iZ,iQ,uD,fU,mZ,hlt2,ha,hta]
  ·intro hlt2
   rw[Sbx]
   clear hu hu0
   (refine aH ?_;repeat' (refine aI ?_ ?_<;>intro _<;>try simp (disch:=first|assumption|omega) only[S0,rA,rQ,rB,rT,rE, *]))
 ·intro hlt
  rw[Tas]
  simp (disch:=first|assumption|omega) only[S0,rA,rQ,rB,rT,rE,hlt]
theorem uW (n:Int)(rows:List (List bL))(rep no:Int)(r_ballot r_vote r_state r_cmd_kind r_cmd_id r_cmd_src r_cmd_dst r_cmd_amt r_attr_seq:Int)(r_attr_deps:(List Int))(hg:bD n=true)(hl:(rows.length:Int)=n)(hs:mR rows)(hb:InB rows rep)(h1:1<=no)(h2:no<=1000)(hx:r_attr_deps.length<=10000000000) :
  Fun T 108 [i64 n,rL rows,i64 rep,i64 no,i64 r_ballot,i64 r_vote,i64 r_state,i64 r_cmd_kind,i64 r_cmd_id,i64 r_cmd_src,i64 r_cmd_dst,i64 r_cmd_amt,i64 r_attr_seq,rL r_attr_deps]=some [i64 (sV ⟨n,rows⟩ rep no ⟨r_ballot,r_vote,r_state,⟨r_cmd_kind,r_cmd_id,r_cmd_src,r_cmd_dst,r_cmd_amt⟩,⟨r_attr_seq,r_attr_deps⟩⟩).n,rL (sV ⟨n,rows⟩ rep no ⟨r_ballot,r_vote,r_state,⟨r_cmd_kind,r_cmd_id,r_cmd_src,r_cmd_dst,r_cmd_amt⟩,⟨r_attr_seq,r_attr_deps⟩⟩).rows]:=by
 rw[aK (t:=Mam) rfl];unfold Mam;unfold sV
 have hq:=hs.2 _ (dG hb)
 have hq1:=hq.1
 simp (maxSteps:=2000000) (disch:=first|assumption|omega) only[SA,SB,SC,SP,SQ,SZ,reduceIte,reduceCtorEq,Nat.reduceAdd,Tbs,Ear,hg,hl]
 rw[bV (T:=T) (.yield 1,[rL (cZ rows rep (ext n (atI rows rep) no))]) (fun j:Nat=>(no-(atI rows rep).length).toNat-j) (fun j=>j<=(no-(atI rows rep).length).toNat) (fun j=>[rL (cZ rows rep (atI rows rep++Qb0 j (row0 n)))]) 0 (by rw[Tbk,Rbm,yL hb];rfl) (by omega) (by simp)]
 ·have hb2:InB (cZ rows rep (ext n (atI rows rep) no)) rep:=by unfold InB;rw[cZ,Sbp];exact hb
  have ha:atI (cZ rows rep (ext n (atI rows rep) no)) rep=ext n (atI rows rep) no:=fU.1 hb
  have hb3:InB (ext n (atI rows rep) no) (no-1):=by unfold InB;rw[Ba3 (by omega)];omega
  simp (disch:=first|assumption|omega) only[S0,rA,rQ,rB,rT,rE,aJ,dI,fU,mZ,ha]
 ·intro j hj
  have hb2:InB (cZ rows rep (atI rows rep++Qb0 j (row0 n))) rep:=by unfold InB;rw[cZ,Sbp];exact hb
  have ha:atI (cZ rows rep (atI rows rep++Qb0 j (row0 n))) rep=atI rows rep++Qb0 j (row0 n):=fU.1 hb
  have hlen:((atI rows rep++Qb0 j (row0 n)).length:Int)=(atI rows rep).length+j:=by simp
  have hrep:(atI rows rep++Qb0 j (row0 n))++[row0 n]=atI rows rep++Qb0 (j+1) (row0 n):=by rw[Qb1,<- Tb8]
  have hll:(atI rows rep++Qb0 j (row0 n)).length+([row0 n]:List bL).length<=100000000000:=by simp only[Qbs,Rbo,Qbt,Qbu];omega
  unfold row0 at hrep hll ha hb2 hlen ⊢
  by_cases hc:(atI rows rep).length+j<no
  ·have hc':decide (((atI rows rep).length:Int)+j<no)=true:=by simpa using hc
   refine .inl ⟨j+1,?_,by omega,by omega⟩
   simp (disch:=first|assumption|omega) only[S0,rA,rQ,rB,rT,rE,aJ,dI,iZ,iQ,uD,fU,rG,ha,hlen,hc',hrep]
  ·have hc':decide (((atI rows rep).length:Int)+j<no)=false:=by simpa using hc
   have hj2:j=(no-(atI rows rep).length).toNat:=by omega
   refine .inr ?_
   simp (disch:=first|assumption|omega) only[S0,rA,rQ,rB,rT,rE,aJ,dI,iZ,iQ,uD,fU,ha,hlen,hc']
   rw[hj2];rfl
theorem uP (n:Int)(rows:List (List bL))(rep no:Int)(r_ballot r_vote r_state r_cmd_kind r_cmd_id r_cmd_src r_cmd_dst r_cmd_amt r_attr_seq:Int)(r_attr_deps:(List Int))(hg:bD n=true)(hs:mR rows)(hb:InB rows rep)(h1:1<=no)(h2:no<=1000)(hx:r_attr_deps.length<=10000000000) :
  Fun T 122 [i64 rep,i64 no,i64 r_ballot,i64 r_vote,i64 r_state,i64 r_cmd_kind,i64 r_cmd_id,i64 r_cmd_src,i64 r_cmd_dst,i64 r_cmd_amt,i64 r_attr_seq,rL r_attr_deps,i64 n,rL rows]=some [i64 (sV ⟨n,rows⟩ rep no ⟨r_ballot,r_vote,r_state,⟨r_cmd_kind,r_cmd_id,r_cmd_src,r_cmd_dst,r_cmd_amt⟩,⟨r_attr_seq,r_attr_deps⟩⟩).n,rL (sV ⟨n,rows⟩ rep no ⟨r_ballot,r_vote,r_state,⟨r_cmd_kind,r_cmd_id,r_cmd_src,r_cmd_dst,r_cmd_amt⟩,⟨r_attr_seq,r_attr_deps⟩⟩).rows]:=by
 rw[aK (t:=La9) rfl];unfold La9;unfold sV
 have hq:=hs.2 _ (dG hb)
 have hq1:=hq.1
 simp (disch:=first|assumption|omega) only[S0,rA,rQ,rB,rT,rE]
 rw[bV (T:=T) (.yield 1,[rL (cZ rows rep (ext n (atI rows rep) no))]) (fun j:Nat=>(no-(atI rows rep).length).toNat-j) (fun j=>j<=(no-(atI rows rep).length).toNat) (fun j=>[rL (cZ rows rep (atI rows rep++Qb0 j (row0 n)))]) 0 (by rw[Tbk,Rbm,yL hb];rfl) (by omega) (by simp)]
 ·have hb2:InB (cZ rows rep (ext n (atI rows rep) no)) rep:=by unfold InB;rw[cZ,Sbp];exact hb
  have ha:atI (cZ rows rep (ext n (atI rows rep) no)) rep=ext n (atI rows rep) no:=fU.1 hb
  have hb3:InB (ext n (atI rows rep) no) (no-1):=by unfold InB;rw[Ba3 (by omega)];omega
  simp (disch:=first|assumption|omega) only[S0,rA,rQ,rB,rT,rE,aJ,dI,fU,nL,ha]
 ·intro j hj
  have hb2:InB (cZ rows rep (atI rows rep++Qb0 j (row0 n))) rep:=by unfold InB;rw[cZ,Sbp];exact hb
  have ha:atI (cZ rows rep (atI rows rep++Qb0 j (row0 n))) rep=atI rows rep++Qb0 j (row0 n):=fU.1 hb
  have hlen:((atI rows rep++Qb0 j (row0 n)).length:Int)=(atI rows rep).length+j:=by simp
  have hrep:(atI rows rep++Qb0 j (row0 n))++[row0 n]=atI rows rep++Qb0 (j+1) (row0 n):=by rw[Qb1,<- Tb8]
  have hll:(atI rows rep++Qb0 j (row0 n)).length+([row0 n]:List bL).length<=100000000000:=by simp only[Qbs,Rbo,Qbt,Qbu];omega
  unfold row0 at hrep hll ha hb2 hlen ⊢
  by_cases hc:(atI rows rep).length+j<no
  ·have hc':decide (((atI rows rep).length:Int)+j<no)=true:=by simpa using hc
   refine .inl ⟨j+1,?_,by omega,by omega⟩
   simp (disch:=first|assumption|omega) only[S0,rA,rQ,rB,rT,rE,aJ,dI,iZ,iQ,uD,fU,kQ,ha,hlen,hc',hrep]
  ·have hc':decide (((atI rows rep).length:Int)+j<no)=false:=by simpa using hc
   have hj2:j=(no-(atI rows rep).length).toNat:=by omega
   refine .inr ?_
   simp (disch:=first|assumption|omega) only[S0,rA,rQ,rB,rT,rE,aJ,dI,iZ,iQ,uD,fU,ha,hlen,hc']
   rw[hj2];rfl
theorem uZ (xs:List Int)(n:Int)(hx:xs.length<=1099511627776):Fun T 106 [rL xs,i64 n]=some [.bool (Waf xs n)]:=by
 rw[aK (t:=Mao) rfl];unfold Mao;unfold Waf
 simp (disch:=first|assumption|omega) only[S0,rA,rQ,rB,rT,rE]
 rw[Ja3 1 xs (fun x=>x==n) (fun _=>[.bool true])]
 ·(refine aH ?_;repeat' (refine aI ?_ ?_<;>intro _<;>try simp (disch:=first|assumption|omega) only[S0,rA,rQ,rB,rT,rE, *]))
 ·intro i hi hb hl hp
  (refine aH ?_;repeat' (refine aI ?_ ?_<;>intro _<;>try simp (disch:=first|assumption|omega) only[S0,rA,rQ,rB,rT,rE,aJ, *]))
 ·intro i hi hb hl hp
  (refine aH ?_;repeat' (refine aI ?_ ?_<;>intro _<;>try simp (disch:=first|assumption|omega) only[S0,rA,rQ,rB,rT,rE,aJ, *]))
 ·intro hl
  simp (disch:=first|assumption|omega) only[S0,rA,rQ,rB,rT,rE,hl]
theorem Eas (xs:List Int)(n:Int)(hx:xs.length<=10000000000):Fun T 105 [rL xs,i64 n]=some [rL (Rak xs n)]:=by
 rw[aK (t:=Maq) rfl];unfold Maq;unfold Rak
 have hk:=Zaa xs n
 have h0:(aO.mk 1 0).run []=some [.rows 1 []]:=rfl
 simp (disch:=first|assumption|omega) only[S0,rA,rQ,rB,rT,rE]
 rw[bV (T:=T) (.yield 1,[i64 (kZ xs n:Nat)]) (fun k:Nat=>kZ xs n-k) (fun k=>k<=kZ xs n) (fun k=>[i64 k]) 0 rfl (by omega) (by simp)]
 ·have l1:(xs.take (kZ xs n)).length<=10000000000:=by rw[Qb9];omega
  have l2:(xs.take (kZ xs n)).length+([n]:List Int).length<=100000000000:=by simp only[Qbt,Qbu];omega
  have l3:(xs.take (kZ xs n)++[n]).length+(xs.drop (kZ xs n)).length<=100000000000:=by simp only[Qbs,Qbt,Qbu,Rbn];omega
  by_cases h:kZ xs n<xs.length
  ·have hb:InB xs (kZ xs n:Nat):=aP.2 h
   have h2:decide ((kZ xs n:Int)<xs.length)=true:=by simp;omega
   cases h3:atI xs (kZ xs n:Nat)==n
   ·simp (disch:=first|assumption|omega) only[S0,rA,rQ,rB,rT,rE,aJ,iZ,iQ,Ja6,h0,h2,h3,hb,Rbd,Tbw,Sb9,Sbx]
   ·simp (disch:=first|assumption|omega) only[S0,rA,rQ,rB,rT,rE,aJ,iZ,iQ,Ja6,h0,h2,h3,hb]
  ·have h2:decide ((kZ xs n:Int)<xs.length)=false:=by simp;omega
   simp (disch:=first|assumption|omega) only[S0,rA,rQ,rB,rT,rE,aJ,iZ,iQ,Ja6,h0,h2,Rbd,Tbw,Sb9,Sbx]
 ·intro k hk2
  by_cases h:k<kZ xs n
  ·have hb:InB xs (k:Int):=aP.2 (by omega)
   have h2:decide ((k:Int)<xs.length)=true:=by simp;omega
   have h3:decide (atI xs (k:Int)<n)=true:=by simpa using Saj h
   refine .inl ⟨k+1,?_,by omega,by omega⟩
   simp (disch:=first|assumption|omega) only[S0,rA,rQ,rB,rT,rE,aJ,h2,h3,hb]
  ·obtain rfl:k=kZ xs n:=by omega
   refine .inr ?_
   by_cases h4:kZ xs n<xs.length
   ·have hb:InB xs (kZ xs n:Nat):=aP.2 h4
    have h2:decide ((kZ xs n:Int)<xs.length)=true:=by simp;omega
    have h3:decide (atI xs (kZ xs n:Nat)<n)=false:=by simpa using Sak h4
    simp (disch:=first|assumption|omega) only[S0,rA,rQ,rB,rT,rE,aJ,h2,h3,hb]
   ·have h2:decide ((kZ xs n:Int)<xs.length)=false:=by simp;omega
    simp (disch:=first|assumption|omega) only[S0,rA,rQ,rB,rT,rE,aJ,h2]
theorem iM (k i f t a:Int)(hc:dC ⟨k,i,f,t,a⟩=true):Fun T 104 [i64 k,i64 i,i64 f,i64 t,i64 a]=some [rL (sZ ⟨k,i,f,t,a⟩)]:=by
 rw[aK (t:=Ham) rfl];unfold Ham;unfold sZ
 obtain⟨hk,hm,hr⟩:=Qa3 hc
 simp only at hk hm hr
 rcases hk with rfl|rfl|rfl
 ·simp (disch:=first|assumption|omega) only[S0,rA,rQ,rB,rT,rE,Oad]
 ·have hne:=(hm rfl).2.2.1
  have l1:([f]:List Int).length<=10000000000:=by simp
  simp (disch:=first|assumption|omega) only[S0,rA,rQ,rB,rT,rE,iZ,Eas,Pb4 hne]
 ·simp (disch:=first|assumption|omega) only[S0,rA,rQ,rB,rT,rE,iZ]
theorem pQ (a_kind a_id a_src a_dst a_amt:Int)(b_kind b_id b_src b_dst b_amt:Int)(ha:dC ⟨a_kind,a_id,a_src,a_dst,a_amt⟩=true)(hb:dC ⟨b_kind,b_id,b_src,b_dst,b_amt⟩=true):Fun T 103 [i64 a_kind,i64 a_id,i64 a_src,i64 a_dst,i64 a_amt,i64 b_kind,i64 b_id,i64 b_src,i64 b_dst,i64 b_amt]=some [.bool (Iak ⟨a_kind,a_id,a_src,a_dst,a_amt⟩ ⟨b_kind,b_id,b_src,b_dst,b_amt⟩)]:=by
 rw[aK (t:=Han) rfl];unfold Han;unfold Iak
 have la:=Aaf ⟨a_kind,a_id,a_src,a_dst,a_amt⟩
 have lb:=Aaf ⟨b_kind,b_id,b_src,b_dst,b_amt⟩
 have lb':(sZ ⟨b_kind,b_id,b_src,b_dst,b_amt⟩).length<=1099511627776:=by omega
 simp (disch:=first|assumption|omega) only[S0,rA,rQ,rB,rT,rE,iM,ha]
 rw[Ja3 1 (sZ ⟨a_kind,a_id,a_src,a_dst,a_amt⟩) (fun k=>Waf (sZ ⟨b_kind,b_id,b_src,b_dst,b_amt⟩) k) (fun _=>[.bool true])]
 ·(refine aH ?_;repeat' (refine aI ?_ ?_<;>intro _<;>try simp (disch:=first|assumption|omega) only[S0,rA,rQ,rB,rT,rE, *]))
 ·intro i hi hb2 hl hp
  simp (disch:=first|assumption|omega) only[S0,rA,rQ,rB,rT,rE,aJ,iM,uZ,hb,hb2,hl,hp]
 ·intro i hi hb2 hl hp
  simp (disch:=first|assumption|omega) only[S0,rA,rQ,rB,rT,rE,aJ,iM,uZ,hb,hb2,hl,hp]
 ·intro hl
  simp (disch:=first|assumption|omega) only[S0,rA,rQ,rB,rT,rE,hl]
theorem rM (a b:Int):Fun T 107 [i64 a,i64 b]=some [i64 (max a b)]:=by
 rw[aK (t:=Man) rfl];unfold Man
 by_cases h:b<a
 ·have h2:decide (b<a)=true:=by simpa using h
  rw[Int.max_eq_left (by omega)]
  simp (disch:=first|assumption|omega) only[S0,rA,rQ,rB,rT,rE,h2]
 ·have h2:decide (b<a)=false:=by simpa using h
  rw[Int.max_eq_right (by omega)]
  simp (disch:=first|assumption|omega) only[S0,rA,rQ,rB,rT,rE,h2]
theorem wU (n:Int)(hg:bD n=true):Fun T 121 [i64 n]=some [i64 n,rL (Qb0 n.toNat ([]:List bL))]:=by
 rw[aK (t:=Maa) rfl];unfold Maa
 have hn:=aY hg
 simp (disch:=first|assumption|omega) only[S0,rA,rQ,rB,rT,rE,mQ]
theorem Da3 (code:D)(hc:isBytes code)(a s:Int)(h0:0<=a)(h1:a<=4611686018427387904):∃ v s',Fun T 5 [code,i64 a,u64 s]=some [i64 v,code,i64 (a+1),u64 s']/\0<=v/\v<=255:=by
 rw[aK (t:=tm5) rfl];unfold tm5
 obtain⟨l1,l2⟩:=sN hc
 by_cases hlt:a<(Jap code:Nat)
 ·obtain⟨b1,b,b2,b3,b4⟩:=bytes_at hc h0 hlt
  have c8:=pM b3 b4
  have d:decide (a<((Jap code:Nat):Int))=true:=by simpa using hlt
  have e:decide (a+1<=((Jap code:Nat):Int))=true:=by simp;omega
  simp (disch:=first|assumption|omega) only[S0,rA,rQ,rB,rT,rE,l1,b1,b2,c8,d,e,Fbd]
  exact⟨_,_,rfl,b3,b4⟩
 ·have d:decide (a<((Jap code:Nat):Int))=false:=by simpa using hlt
  have e:decide (a+1<=((Jap code:Nat):Int))=false:=by simp;omega
  simp (disch:=first|assumption|omega) only[S0,rA,rQ,rB,rT,rE,l1,d,e,Fbd]
  exact⟨_,_,rfl,(Ga5 _).1,(Ga5 _).2⟩
theorem aS (code:D)(hc:isBytes code)(n a s:Int)(h0:0<=a)(h1:a<=2305843009213693952):∃ v a' s',Fun T 4 [i64 n,code,i64 a,u64 s]=some [i64 v,code,i64 a',u64 s']/\0<=v/\(1<=n->v<n)/\a<=a'/\a'<=a+2:=by
 rw[aK (t:=tm4) rfl];unfold tm4
 by_cases hn:n<=1
 ·have d:decide (n<=1)=true:=by simpa using hn
  simp (disch:=first|assumption|omega) only[S0,rA,rQ,rB,rT,rE,d]
  exact⟨_,_,_,rfl,by omega,by omega,by omega,by omega⟩
 ·have d:decide (n<=1)=false:=by simpa using hn
  obtain⟨v,s',e,v1,v2⟩:=Da3 code hc a s h0 (by omega)
  by_cases hn2:200<n
  ·have d2:decide (200<n)=true:=by simpa using hn2
   obtain⟨w,s2,e2,w1,w2⟩:=Da3 code hc (a+1) s' (by omega) (by omega)
   have r1:(aO.bin .mul).run [i64 v,i64 256]=some [i64 (v*256)]:=jN (by omega) (by omega)
   have r2:=oL (a:=v*256+w) (b:=n) (by omega) (by omega)
   simp (disch:=first|assumption|omega) only[S0,rA,rQ,rB,rT,rE,d,d2,e,e2,r1,r2]
   exact⟨_,_,_,rfl,Int.emod_nonneg _ (by omega),fun _=>Tbx _ (by omega),by omega,by omega⟩
  ·have d2:decide (200<n)=false:=by simpa using hn2
   have r2:=oL (a:=v) (b:=n) (by omega) (by omega)
   simp (disch:=first|assumption|omega) only[S0,rA,rQ,rB,rT,rE,d,d2,e,r2]
   exact⟨_,_,_,rfl,Int.emod_nonneg _ (by omega),fun _=>Tbx _ (by omega),by omega,by omega⟩
theorem iY (code:D)(hc:isBytes code)(n a s:Int)(h0:0<=a)(h1:a<=2305843009213693952):∃ v a' s',Fun T 9 [i64 n,code,i64 a,u64 s]=some [.bool v,code,i64 a',u64 s']/\a<=a'/\a'<=a+2:=by
 rw[aK (t:=tm9) rfl];unfold tm9
 obtain⟨v,a',s',e,v1,v2,v3,v4⟩:=aS code hc n a s h0 h1
 simp (disch:=first|assumption|omega) only[S0,rA,rQ,rB,rT,rE,e]
 exact⟨_,_,_,rfl,v3,v4⟩
theorem pF (code:D)(hc:isBytes code)(xs:List Int)(a s:Int)(hx:0<xs.length)(hx2:xs.length<=10000000000)(h0:0<=a)(h1:a<=2305843009213693952):∃ v a' s',Fun T 3 [rL xs,code,i64 a,u64 s]=some [i64 v,code,i64 a',u64 s']/\v∈xs/\a<=a'/\a'<=a+2:=by
 rw[aK (t:=tm3) rfl];unfold tm3
 obtain⟨v,a',s',e,v1,v2,v3,v4⟩:=aS code hc xs.length a s h0 h1
 have hb:InB xs v:=by unfold InB;omega
 simp (disch:=first|assumption|omega) only[S0,rA,rQ,rB,rT,rE,e,aJ]
 exact⟨_,_,_,rfl,dG hb,v3,v4⟩
theorem Sa9 (code:D)(hc:isBytes code)(a s:Int)(h0:0<=a)(h1:a<=1152921504606846976):∃ (c:nS) (a' s':Int),Fun T 8 [code,i64 a,u64 s]=some [i64 c.kind,i64 c.id,i64 c.src,i64 c.dst,i64 c.amt,code,i64 a',u64 s']/\(1<=c.amt->c.kind=1)/\(0<=c.amt/\c.amt<=30)/\a<=a'/\a'<=a+10:=by
 rw[aK (t:=tm8) rfl];unfold tm8
 obtain⟨v1,a1,s1,e1,p1,q1,g1,k1⟩:=aS code hc 9 a s h0 (by omega)
 obtain⟨v2,a2,s2,e2,p2,q2,g2,k2⟩:=aS code hc 4 a1 s1 (by omega) (by omega)
 obtain⟨v3,a3,s3,e3,p3,q3,g3,k3⟩:=aS code hc 30 a2 s2 (by omega) (by omega)
 obtain⟨v4,a4,s4,e4,p4,q4,g4,k4⟩:=aS code hc 3 a3 s3 (by omega) (by omega)
 obtain⟨v5,a5,s5,e5,g5,k5⟩:=iY code hc 4 a4 s4 (by omega) (by omega)
 have r2:=oL (a:=v2+1+v4) (b:=4) (by omega) (by omega)
 have q1':=q1 (by omega)
 have q2':=q2 (by omega)
 have q3':=q3 (by omega)
 have q4':=q4 (by omega)
 cases v5
 ·simp (disch:=first|assumption|omega) only[S0,rA,rQ,rB,rT,rE,e1,e2,e3,e4,e5,r2]
  exact⟨⟨_,_,_,_,_⟩,_,_,rfl,fun _=>rfl,by simp only;omega,by omega,by omega⟩
 ·simp (disch:=first|assumption|omega) only[S0,rA,rQ,rB,rT,rE,e1,e2,e3,e4,e5,r2]
  exact⟨⟨_,_,_,_,_⟩,_,_,rfl,by simp only;omega,by simp only;omega,by omega,by omega⟩
theorem jS (n:Int)(h0:0<=n)(h1:n<=1000):Fun T 10 [i64 n]=some [i64 0,rL (Qb0 n.toNat (0:Int))]:=by
 rw[aK (t:=Vaj) rfl];unfold Vaj
 (refine aH ?_;repeat' (refine aI ?_ ?_<;>intro _<;>try simp (disch:=first|assumption|omega) only[S0,rA,rQ,rB,rT,rE,mQ, *]))
theorem Ba5 (code:D)(hc:isBytes code)(n a s:Int)(hn:0<=n)(hn2:n<=10)(h0:0<=a)(h1:a<=576460752303423488):∃ (r:bL) (a' s':Int),Fun T 7 [i64 n,code,i64 a,u64 s]=some [i64 r.ballot,i64 r.vote,i64 r.state,i64 r.cmd.kind,i64 r.cmd.id,i64 r.cmd.src,i64 r.cmd.dst,i64 r.cmd.amt,i64 r.attr.seq,rL r.attr.deps,code,i64 a',u64 s']/\(r.attr.deps.length:Int)=n/\a<=a'/\a'<=a+50:=by
 rw[aK (t:=tm7) rfl];unfold tm7
 obtain⟨v1,a1,s1,e1,p1,g1,k1⟩:=pF code hc [0,0,8,9,17] a s (by simp) (by simp) h0 (by omega)
 obtain⟨v2,a2,s2,e2,p2,q2,g2,k2⟩:=aS code hc 4 a1 s1 (by omega) (by omega)
 obtain⟨c3,a3,s3,e3,-,-,g3,k3⟩:=Sa9 code hc a2 s2 (by omega) (by omega)
 obtain⟨v4,a4,s4,e4,p4,q4,g4,k4⟩:=aS code hc 5 a3 s3 (by omega) (by omega)
 simp (disch:=first|assumption|omega) only[S0,rA,rQ,rB,rT,rE,e1,e2,e3,e4,iZ]
 generalize hE:Er T (Tm.loop _ _) _=E
 have key:∃ q,E=some q/\∃ (ds:List Int) (a' s':Int),q=(.yield 1,[code,i64 a',u64 s',rL ds])/\(ds.length:Int)=n/\a<=a'/\a'<=a+40:=by
  rw[<- hE]
  refine nJ (γ:=Nat×Int×Int×List Int) (fun c=>n.toNat-c.1) (fun c=>(c.1:Int)<=n/\c.2.2.2.length=c.1/\a4<=c.2.1/\c.2.1<=a4+2*c.1) (fun c=>[i64 c.1,code,i64 c.2.1,u64 c.2.2.1,rL c.2.2.2]) _ (0,a4,s4,[]) rfl (by simp;omega) ?_
  rintro⟨i,a5,s5,ds⟩ ⟨h2,h3,h4,h5⟩
  simp only at h2 h3 h4 h5
  by_cases hi:(i:Int)<n
  ·have d:decide ((i:Int)<n)=true:=by simpa using hi
   obtain⟨v6,a6,s6,e6,p6,q6,g6,k6⟩:=aS code hc 3 a5 s5 (by omega) (by omega)
   have z:ds.length+([v6]:List Int).length<=100000000000:=by simp only[Qbt,Qbu];omega
   refine .inl ⟨(i+1,a6,s6,ds++[v6]),?_,⟨by simp only;omega,by simp[h3],by simp only;omega,by simp only;omega⟩,by simp only;omega⟩
   simp (disch:=first|assumption|omega) only[S0,rA,rQ,rB,rT,rE,d,e6,iZ,iQ]
  ·have d:decide ((i:Int)<n)=false:=by simpa using hi
   refine .inr ⟨(.yield 1,[code,i64 a5,u64 s5,rL ds]),?_,by simp,ds,a5,s5,rfl,by omega,by omega,by omega⟩
   simp (disch:=first|assumption|omega) only[S0,rA,rQ,rB,rT,rE,d]
 obtain⟨q,rfl,ds,a5,s5,rfl,h2,h3,h4⟩:=key
 obtain⟨v6,a6,s6,e6,g6,k6⟩:=iY code hc 2 a5 s5 (by omega) (by omega)
 cases hz:v2==0
 ·cases v6
  ·simp (disch:=first|assumption|omega) only[S0,rA,rQ,rB,rT,rE,e6,hz]
   exact⟨⟨_,_,_,⟨_,_,_,_,_⟩,⟨_,_⟩⟩,_,_,rfl,h2,by omega,by omega⟩
  ·simp (disch:=first|assumption|omega) only[S0,rA,rQ,rB,rT,rE,e6,hz]
   exact⟨⟨_,_,_,⟨_,_,_,_,_⟩,⟨_,_⟩⟩,_,_,rfl,h2,by omega,by omega⟩
 ·have e7:=jS n (by omega) (by omega)
  cases v6
  ·simp (disch:=first|assumption|omega) only[S0,rA,rQ,rB,rT,rE,e6,e7,hz]
   exact⟨⟨_,_,_,⟨_,_,_,_,_⟩,⟨_,_⟩⟩,_,_,rfl,by simp only[Rbo];omega,by omega,by omega⟩
  ·simp (disch:=first|assumption|omega) only[S0,rA,rQ,rB,rT,rE,e6,e7,hz]
   exact⟨⟨_,_,_,⟨_,_,_,_,_⟩,⟨_,_⟩⟩,_,_,rfl,by simp only[Rbo];omega,by omega,by omega⟩
theorem vN (n:Int)(h0:0<=n)(h1:n<=1000):Fun T 100 [i64 n]=some [i64 n,rL (Qb0 n.toNat ([]:List bL))]:=by
 rw[aK (t:=Hao) rfl];unfold Hao
 have e:(aO.make 24 [(.rows 10 [])]).run [i64 n]=some [rL (Qb0 n.toNat ([]:List bL))]:=mQ.2.2.2.1 h0 (by omega)
 simp (disch:=first|assumption|omega) only[S0,rA,rQ,rB,rT,rE,e]
theorem Na2 (code:D)(hc:isBytes code)(a s:Int)(h0:0<=a)(h1:a<=1152921504606846976):∃ (k i a' s':Int),Fun T 6 [code,i64 a,u64 s]=some [i64 k,i64 i,code,i64 a',u64 s']/\a<=a'/\a'<=a+10:=by
 rw[aK (t:=tm6) rfl];unfold tm6
 obtain⟨v1,a1,s1,e1,p1,q1,g1,k1⟩:=aS code hc 4 a s h0 (by omega)
 obtain⟨v2,a2,s2,e2,p2,q2,g2,k2⟩:=aS code hc 12 a1 s1 (by omega) (by omega)
 obtain⟨v3,a3,s3,e3,p3,g3,k3⟩:=pF code hc [1,1,2,2,3,4,6,7,0] a2 s2 (by simp) (by simp) (by omega) (by omega)
 have q1':=q1 (by omega)
 have q2':=q2 (by omega)
 have b1:0<=v2 / 11/\v2 / 11<=1:=by omega
 have z:(aO.mk 1 9).run [i64 1,i64 1,i64 2,i64 2,i64 3,i64 4,i64 6,i64 7,i64 0]=some [rL ([1,1,2,2,3,4,6,7,0]:List Int)]:=rfl
 simp (disch:=first|assumption|omega) only[S0,rA,rQ,rB,rT,rE,e1,e2,e3,z]
 exact⟨_,_,_,_,rfl,by omega,by omega⟩
theorem vO (code:D)(hc:isBytes code)(a s:Int)(h0:0<=a)(h1:a<=288230376151711744):∃ (t:aR) (a' s':Int),Fun T 99 [code,i64 a,u64 s]=some [i64 t.n,rL t.rows,code,i64 a',u64 s']/\(0<=t.n/\t.n<=5)/\t.rows.length<=5/\(∀ l∈t.rows,l.length<=5/\∀ r∈l,r.attr.deps.length<=10)/\a<=a'/\a'<=a+2000:=by
 rw[aK (t:=Bbz) rfl];unfold Bbz
 obtain⟨n,a1,s1,e1,p1,g1,k1⟩:=pF code hc [3,3,3,5] a s (by simp) (by simp) h0 (by omega)
 have hn:3<=n/\n<=5:=by simp at p1;omega
 have e2:=vN n (by omega) (by omega)
 have eL:((Qb0 n.toNat ([]:List bL)).length:Int)=n:=by rw[Rbo];omega
 simp (disch:=first|assumption|omega) only[S0,rA,rQ,rB,rT,rE,e1,e2,iZ,eL]
 generalize hE:Er T (Tm.loop _ _) _=E
 have key:∃ q,E=some q/\∃ (rows:List (List bL)) (a' s':Int),q=(.yield 1,[code,i64 a',u64 s',rL rows])/\(rows.length:Int)=n/\(∀ l∈rows,l.length<=4/\∀ r∈l,r.attr.deps.length<=10)/\a<=a'/\a'<=a+1500:=by
  rw[<- hE]
  refine nJ (γ:=Nat×Int×Int×List (List bL)) (fun c=>n.toNat-c.1) (fun c=>(c.1:Int)<=n/\(c.2.2.2.length:Int)=n/\(∀ l∈c.2.2.2,l.length<=4/\∀ r∈l,r.attr.deps.length<=10)/\(∀ k:Nat,c.1<=k->k<n.toNat->(atI c.2.2.2 (k:Int)).length=0)/\a1<=c.2.1/\c.2.1<=a1+250*c.1)
   (fun c=>[i64 c.1,code,i64 c.2.1,u64 c.2.2.1,rL c.2.2.2]) _ (0,a1,s1,Qb0 n.toNat []) rfl
   ⟨by simp only;omega,by simp only[Rbo];omega,by intro l hl;rw[Sbs hl];simp,by intro k hk1 hk2;rw[cK (by simpa using hk2)];simp,by simp only;omega,by simp only;omega⟩ ?_
  rintro⟨i,a2,s2,rows⟩ ⟨h2,h3,h4,h7,h5,h6⟩
  simp only at h2 h3 h4 h5 h6 h7
  by_cases hi:(i:Int)<n
  ·have d:decide ((i:Int)<n)=true:=by simpa using hi
   obtain⟨v3,a3,s3,e3,p3,q3,g3,k3⟩:=aS code hc 4 a2 s2 (by omega) (by omega)
   have q3':=q3 (by omega)
   have hb:InB rows (i:Int):=by unfold InB;omega
   have hz:=h7 i (Qbw _) (by omega)
   left
   simp (disch:=first|assumption|omega) only[S0,rA,rQ,rB,rT,rE,d,e3]
   generalize hE2:Er T (Tm.loop _ _) _=E2
   have key2:∃ q,E2=some q/\∃ (l:List bL) (a' s':Int),q=(.yield 3,[code,i64 a',u64 s',rL (cZ rows (i:Int) l)])/\l.length<=4/\(∀ r∈l,r.attr.deps.length<=10)/\a3<=a'/\a'<=a3+240:=by
    rw[<- hE2]
    refine nJ (γ:=Nat×Int×Int×List bL) (fun c=>c.1) (fun c=>c.1<=4/\c.2.2.2.length+c.1<=4/\(∀ r∈c.2.2.2,r.attr.deps.length<=10)/\a3<=c.2.1/\c.2.1+60*c.1<=a3+240)
     (fun c=>[i64 c.1,code,i64 c.2.1,u64 c.2.2.1,rL (cZ rows (i:Int) c.2.2.2)]) _ (v3.toNat,a3,s3,atI rows (i:Int)) ?_
     ⟨by simp only;omega,by simp only;omega,fun r hr=>(h4 _ (dG hb)).2 r hr,by simp only;omega,by simp only;omega⟩ ?_
    ·show [i64 v3,code,i64 a3,u64 s3,rL rows]=[i64 ((v3.toNat:Nat):Int),code,i64 a3,u64 s3,rL (cZ rows (i:Int) (atI rows (i:Int)))]
     rw[yL hb,show ((v3.toNat:Nat):Int)=v3 by omega]
    rintro⟨m,a4,s4,l⟩ ⟨j2,j3,j4,j5,j6⟩
    simp only at j2 j3 j4 j5 j6
    by_cases hm:0<m
    ·have d2:decide (0<(m:Int))=true:=by simpa using hm
     obtain⟨r,a5,s5,e5,p5,g5,k5⟩:=Ba5 code hc n a4 s4 (by omega) (by omega) (by omega) (by omega)
     have hbl:InB (cZ rows (i:Int) l) (i:Int):=by unfold InB;rw[dR];omega
     have z:l.length+([r]:List bL).length<=100000000000:=by simp only[Qbt,Qbu];omega
     have eat:atI (cZ rows (i:Int) l) (i:Int)=l:=fU.1 hb
     refine .inl ⟨(m-1,a5,s5,l++[r]),?_,⟨by simp only;omega,by simp;omega,?_,by simp only;omega,by simp only;omega⟩,by simp only;omega⟩
     ·have em:((m-1:Nat):Int)=(m:Int)-1:=by omega
      have es:∀ x:List bL,cZ (cZ rows (i:Int) l) (i:Int) x=cZ rows (i:Int) x:=fun x=>fU.2.1
      simp (disch:=first|assumption|omega) only[S0,rA,rQ,rB,rT,rE,d2,e5,aJ,eat,iZ,iQ,uD,es,em]
     ·intro y hy
      simp only[Sbt,Qb6]at hy
      rcases hy with hy|rfl
      ·exact j4 y hy
      ·omega
    ·have d2:decide (0<(m:Int))=false:=by simpa using hm
     refine .inr ⟨(.yield 3,[code,i64 a4,u64 s4,rL (cZ rows (i:Int) l)]),?_,by simp,l,a4,s4,rfl,by omega,j4,by omega,by omega⟩
     simp (disch:=first|assumption|omega) only[S0,rA,rQ,rB,rT,rE,d2]
   obtain⟨q,rfl,l,a4,s4,rfl,y1,y2,y3,y4⟩:=key2
   simp (disch:=first|assumption|omega) only[S0,rA,rQ,rB,rT,rE]
   refine⟨(i+1,a4,s4,cZ rows (i:Int) l),rfl,⟨by simp only;omega,by simp only[dR];omega,?_,?_,by simp only;omega,by simp only;omega⟩,by simp only;omega⟩
   ·intro x hx
    rcases oO hx with hx|rfl
    ·exact h4 x hx
    ·exact⟨y1,y2⟩
   ·intro k hk1 hk2
    simp only
    rw[Vab (by omega) (by omega) (by omega)]
    exact h7 k (by simp only at hk1;omega) hk2
  ·have d:decide ((i:Int)<n)=false:=by simpa using hi
   refine .inr ⟨(.yield 1,[code,i64 a2,u64 s2,rL rows]),?_,by simp,rows,a2,s2,rfl,h3,h4,by omega,by omega⟩
   simp (disch:=first|assumption|omega) only[S0,rA,rQ,rB,rT,rE,d]
 obtain⟨q,rfl,rows,a2,s2,rfl,h2,h3,h4,h5⟩:=key
 obtain⟨v6,a6,s6,e6,p6,q6,g6,k6⟩:=aS code hc 40 a2 s2 (by omega) (by omega)
 have h3':∀ l∈rows,l.length<=5/\∀ r∈l,r.attr.deps.length<=10:=fun l hl=>⟨by have:=(h3 l hl).1;omega,(h3 l hl).2⟩
 cases c1:v6==0
 ·cases c2:v6==1
  ·simp (disch:=first|assumption|omega) only[S0,rA,rQ,rB,rT,rE,e6,c1,c2]
   exact⟨⟨_,_⟩,_,_,rfl,by simp only;omega,by simp only;omega,h3',by omega,by omega⟩
  ·have hb:InB rows 0:=by unfold InB;omega
   have z:(aO.mk 10 1).run [i64 0,i64 1,i64 0,i64 0,i64 0,i64 0,i64 0,i64 0,i64 0,.rows 1 []]=some [rL ([⟨0,1,0,⟨0,0,0,0,0⟩,⟨0,[]⟩⟩]:List bL)]:=rfl
   have hl0:=h3 _ (dG hb)
   have z2:(atI rows 0).length+([⟨0,1,0,⟨0,0,0,0,0⟩,⟨0,[]⟩⟩]:List bL).length<=100000000000:=by simp only[Qbt,Qbu];omega
   simp (disch:=first|assumption|omega) only[S0,rA,rQ,rB,rT,rE,e6,c1,c2,aJ,z,iQ,uD]
   refine⟨⟨_,_⟩,_,_,rfl,by simp only;omega,?_,?_,by omega,by omega⟩
   ·show (cZ rows 0 _).length<=5
    rw[dR]
    omega
   intro l hl
   rcases oO hl with hl|rfl
   ·exact h3' l hl
   ·refine⟨by rw[Qbs];have:=hl0.1;simp only[Qbt,Qbu];omega,fun r hr=>?_⟩
    simp only[Sbt,Qb6]at hr
    rcases hr with hr|rfl
    ·exact hl0.2 r hr
    ·simp
 ·obtain⟨v7,a7,s7,e7,p7,q7,g7,k7⟩:=aS code hc 6 a6 s6 (by omega) (by omega)
  have q7':=q7 (by omega)
  simp (disch:=first|assumption|omega) only[S0,rA,rQ,rB,rT,rE,e6,c1,e7]
  exact⟨⟨_,_⟩,_,_,rfl,by simp only;omega,by simp only;omega,h3',by omega,by omega⟩
theorem Nam (code more:D)(hc:isBytes code)(hm:isBytes more):∃ b,Fun T 1 [code,more]=some [.bool b]:=by
 rw[aK (t:=tm1) rfl];unfold tm1
 obtain⟨l1,l2⟩:=sN hc
 obtain⟨l3,l4⟩:=sN hm
 cases d:decide (1048576<((Jap code:Nat):Int))
 ·simp (disch:=first|assumption|omega) only[S0,rA,rQ,rB,rT,rE,l1,l3,d]
  exact⟨_,rfl⟩
 ·simp (disch:=first|assumption|omega) only[S0,rA,rQ,rB,rT,rE,l1,l3,d]
  exact⟨_,rfl⟩
theorem yM (xs ys:List Int)(hx:xs.length<=1099511627776):Fun T 85 [rL xs,rL ys]=some [.bool (decide (xs=ys))]:=by
 rw[aK (t:=Bb7) rfl];unfold Bb7
 by_cases hl:ys.length=xs.length
 ·have e1:((xs.length:Int)==ys.length)=true:=by simp[hl]
  simp (disch:=first|assumption|omega) only[S0,rA,rQ,rB,rT,rE,e1]
  rw[Pag 1 xs.length (fun i=>decide (atI xs (i:Int)=atI ys (i:Int))) [.bool false],qB hl.symm]
  ·cases decide (xs=ys)<;>simp (disch:=first|assumption|omega) only[S0,rA,rQ,rB,rT,rE]
  ·intro i hi hlt
   have hb:InB xs (i:Int):=aP.2 hi
   have hb2:InB ys (i:Int):=aP.2 (by omega)
   have e:(!(atI xs (i:Int)==atI ys (i:Int)))=!decide (atI xs (i:Int)=atI ys (i:Int)):=by rw[Rb7]
   (refine aH ?_;repeat' (refine aI ?_ ?_<;>intro _<;>try simp (disch:=first|assumption|omega) only[S0,rA,rQ,rB,rT,rE,aJ,hlt,e, *]))
  ·intro hlt
   simp (disch:=first|assumption|omega) only[S0,rA,rQ,rB,rT,rE,hlt]
 ·have e1:((xs.length:Int)==ys.length)=false:=by simp;omega
  rw[xY (fun e=>hl e.symm)]
  simp (disch:=first|assumption|omega) only[S0,rA,rQ,rB,rT,rE,e1]
theorem Ha4 (s t:Int)(xs ys:List Int)(hx:xs.length<=1099511627776):Fun T 84 [i64 s,rL xs,i64 t,rL ys]=some [.bool (decide ((⟨s,xs⟩:gT)=⟨t,ys⟩))]:=by
 rw[aK (t:=Bb8) rfl];unfold Bb8
 have e:decide ((⟨s,xs⟩:gT)=⟨t,ys⟩)=(s==t&&decide (xs=ys)):=by simp[gT.mk.injEq,Rb7]
 rw[e]
 cases h:s==t
 ·simp (disch:=first|assumption|omega) only[S0,rA,rQ,rB,rT,rE,yM,h]
 ·simp (disch:=first|assumption|omega) only[S0,rA,rQ,rB,rT,rE,yM,h]
theorem Cau (x_ballot x_vote x_state x_cmd_kind x_cmd_id x_cmd_src x_cmd_dst x_cmd_amt x_attr_seq:Int)(x_attr_deps:(List Int))(y_ballot y_vote y_state y_cmd_kind y_cmd_id y_cmd_src y_cmd_dst y_cmd_amt y_attr_seq:Int)(y_attr_deps:(List Int))(hx:x_attr_deps.length<=1099511627776):Fun T 83 [i64 x_ballot,i64 x_vote,i64 x_state,i64 x_cmd_kind,i64 x_cmd_id,i64 x_cmd_src,i64 x_cmd_dst,i64 x_cmd_amt,i64 x_attr_seq,rL x_attr_deps,i64 y_ballot,i64 y_vote,i64 y_state,i64 y_cmd_kind,i64 y_cmd_id,i64 y_cmd_src,i64 y_cmd_dst,i64 y_cmd_amt,i64 y_attr_seq,rL y_attr_deps]=some [.bool (decide ((⟨x_ballot,x_vote,x_state,⟨x_cmd_kind,x_cmd_id,x_cmd_src,x_cmd_dst,x_cmd_amt⟩,⟨x_attr_seq,x_attr_deps⟩⟩:bL)=⟨y_ballot,y_vote,y_state,⟨y_cmd_kind,y_cmd_id,y_cmd_src,y_cmd_dst,y_cmd_amt⟩,⟨y_attr_seq,y_attr_deps⟩⟩))]:=by
 rw[aK (t:=Bb9) rfl];unfold Bb9
 have e:decide ((⟨x_ballot,x_vote,x_state,⟨x_cmd_kind,x_cmd_id,x_cmd_src,x_cmd_dst,x_cmd_amt⟩,⟨x_attr_seq,x_attr_deps⟩⟩:bL)=⟨y_ballot,y_vote,y_state,⟨y_cmd_kind,y_cmd_id,y_cmd_src,y_cmd_dst,y_cmd_amt⟩,⟨y_attr_seq,y_attr_deps⟩⟩)=(x_ballot==y_ballot&&(x_vote==y_vote&&(x_state==y_state&&(decide ((⟨x_cmd_kind,x_cmd_id,x_cmd_src,x_cmd_dst,x_cmd_amt⟩:nS)=⟨y_cmd_kind,y_cmd_id,y_cmd_src,y_cmd_dst,y_cmd_amt⟩)&&decide ((⟨x_attr_seq,x_attr_deps⟩:gT)=⟨y_attr_seq,y_attr_deps⟩))))):=by
  simp only[bL.mk.injEq,Rb7,Bool.decide_and]
 rw[e]
 cases h1:x_ballot==y_ballot
 ·simp (disch:=first|assumption|omega) only[S0,rA,rQ,rB,rT,rE,h1]
 cases h2:x_vote==y_vote
 ·simp (disch:=first|assumption|omega) only[S0,rA,rQ,rB,rT,rE,h1,h2]
 cases h3:x_state==y_state
 ·simp (disch:=first|assumption|omega) only[S0,rA,rQ,rB,rT,rE,h1,h2,h3]
 cases h4:decide ((⟨x_cmd_kind,x_cmd_id,x_cmd_src,x_cmd_dst,x_cmd_amt⟩:nS)=⟨y_cmd_kind,y_cmd_id,y_cmd_src,y_cmd_dst,y_cmd_amt⟩)
 ·simp (disch:=first|assumption|omega) only[S0,rA,rQ,rB,rT,rE,h1,h2,h3,Gaq,h4]
 ·simp (disch:=first|assumption|omega) only[S0,rA,rQ,rB,rT,rE,h1,h2,h3,Gaq,h4,Ha4]
theorem Ha3 (xs ys:List bL)(hs:Ta5 xs):Fun T 132 [rL xs,rL ys]=some [.bool (decide (xs=ys))]:=by
 rw[aK (t:=La0) rfl];unfold La0
 obtain⟨hx,hq⟩:=hs
 by_cases hl:ys.length=xs.length
 ·have e1:((xs.length:Int)==ys.length)=true:=by simp[hl]
  have hx':xs.length<=1099511627776:=by omega
  simp (disch:=first|assumption|omega) only[S0,rA,rQ,rB,rT,rE,e1]
  rw[Pag 1 xs.length (fun i=>decide (atI xs (i:Int)=atI ys (i:Int))) [.bool false],qB hl.symm]
  ·cases decide (xs=ys)<;>simp (disch:=first|assumption|omega) only[S0,rA,rQ,rB,rT,rE]
  ·intro i hi hlt
   have hb:InB xs (i:Int):=aP.2 hi
   have hb2:InB ys (i:Int):=aP.2 (by omega)
   have hq1:=hq _ (at_mem hi)
   have hq2:(atI xs (i:Int)).attr.deps.length<=1099511627776:=by omega
   (refine aH ?_;repeat' (refine aI ?_ ?_<;>intro _<;>try simp (disch:=first|assumption|omega) only[S0,rA,rQ,rB,rT,rE,aJ,hlt,Cau, *]))
  ·intro hlt
   simp (disch:=first|assumption|omega) only[S0,rA,rQ,rB,rT,rE,hlt]
 ·have e1:((xs.length:Int)==ys.length)=false:=by simp;omega
  rw[xY (fun e=>hl e.symm)]
  simp (disch:=first|assumption|omega) only[S0,rA,rQ,rB,rT,rE,e1]
theorem Eax (n m:Int)(xs ys:List (List bL))(hs:mR xs):Fun T 131 [i64 n,rL xs,i64 m,rL ys]=some [.bool (decide ((⟨n,xs⟩:aR)=⟨m,ys⟩))]:=by
 rw[aK (t:=La1) rfl];unfold La1
 obtain⟨hx,hq⟩:=hs
 have e:decide ((⟨n,xs⟩:aR)=⟨m,ys⟩)=(n==m&&decide (xs=ys)):=by simp[aR.mk.injEq,Rb7]
 rw[e]
 cases hn:n==m
 ·simp (disch:=first|assumption|omega) only[S0,rA,rQ,rB,rT,rE,hn]
 by_cases hl:ys.length=xs.length
 ·have e1:((xs.length:Int)==ys.length)=true:=by simp[hl]
  simp (disch:=first|assumption|omega) only[S0,rA,rQ,rB,rT,rE,hn,e1]
  rw[Pag 1 xs.length (fun i=>decide (atI xs (i:Int)=atI ys (i:Int))) [.bool false],qB hl.symm]
  ·cases decide (xs=ys)<;>simp (disch:=first|assumption|omega) only[S0,rA,rQ,rB,rT,rE]
  ·intro i hi hlt
   have hb:InB xs (i:Int):=aP.2 hi
   have hb2:InB ys (i:Int):=aP.2 (by omega)
   have hq1:=hq _ (at_mem hi)
   (refine aH ?_;repeat' (refine aI ?_ ?_<;>intro _<;>try simp (disch:=first|assumption|omega) only[S0,rA,rQ,rB,rT,rE,aJ,hlt,Ha3, *]))
  ·intro hlt
   simp (disch:=first|assumption|omega) only[S0,rA,rQ,rB,rT,rE,hlt]
 ·have e1:((xs.length:Int)==ys.length)=false:=by simp;omega
  rw[xY (fun e=>hl e.symm)]
  simp (disch:=first|assumption|omega) only[S0,rA,rQ,rB,rT,rE,hn,e1]
theorem fK (s:List UInt8)(b:UInt8)(hs:s.length<=1000000000):Fun T 89 [.str s,u8 b]=some [rL (splitB b s)]:=by
 rw[aK (t:=Gbf) rfl];unfold Gbf
 simp (disch:=first|assumption|omega) only[S0,rA,rQ,rB,rT,rE]
 generalize hE:Er T (Tm.loop _ _) _=E
 have key:∃ q,E=some q/\∃ (out:List (List UInt8)) (f:Nat),q=(.yield 1,[rL out,i64 f])/\f<=s.length/\out++splitB b (s.drop f)=splitB b s/\b∉s.drop f/\out.length<=s.length:=by
  rw[<- hE]
  refine nJ (γ:=Nat×Nat×List (List UInt8)) (fun c=>s.length-c.1) (fun c=>c.2.1<=c.1/\c.1<=s.length/\c.2.2++splitB b (s.drop c.2.1)=splitB b s/\b∉(s.take c.1).drop c.2.1/\c.2.2.length<=c.1) (fun c=>[rL c.2.2,i64 c.2.1,i64 c.1]) _ (0,0,[]) rfl (by simp) ?_
  rintro⟨i,f,out⟩ ⟨h1,h2,h3,h4,h5⟩
  simp only at h1 h2 h3 h4 h5
  by_cases hi:i<s.length
  ·have d:decide ((i:Int)<(s.length:Int))=true:=by simpa using hi
   have hx:(i:Int)<(s.length:Int):=by omega
   have hx0:(0:Int)<=i:=by omega
   have es:=kS (s:=s) (k:=(i:Int)) hx0 hx
   have eds:=Lae (s:=s) h1 hi
   left
   by_cases hc:atI s (i:Int)=b
   ·have ec:(atI s (i:Int)==b)=true:=by simpa using hc
    have eb:=dX (s:=s) (lo:=(f:Int)) (hi:=(i:Int)) (by omega) (by omega) (by omega)
    rw[Rbd,Rbd]at eb
    have z:out.length+([(s.take i).drop f]:List (List UInt8)).length<=100000000000:=by simp only[Qbt,Qbu];omega
    refine⟨(i+1,i+1,out++[(s.take i).drop f]),?_,⟨by simp only;omega,by simp only;omega,?_,by simp,by simp;omega⟩,by simp only;omega⟩
    ·simp (disch:=first|assumption|omega) only[S0,rA,rQ,rB,rT,rE,aG,d,es,Xah,ec,eb,iZ,iQ]
    ·simp only
     rw[<- h3,eds,hc,mG _ h4,Qb1]
     rfl
   ·have ec:(atI s (i:Int)==b)=false:=by simpa using hc
    refine⟨(i+1,f,out),?_,⟨by simp only;omega,by simp only;omega,h3,?_,by simp only;omega⟩,by simp only;omega⟩
    ·simp (disch:=first|assumption|omega) only[S0,rA,rQ,rB,rT,rE,aG,d,es,Xah,ec]
    ·simp only
     rw[take_drop_succ h1 hi]
     simp only[Sbt,Qb6,not_or]
     exact⟨h4,fun e=>hc e.symm⟩
  ·have d:decide ((i:Int)<(s.length:Int))=false:=by simpa using hi
   refine .inr ⟨(.yield 1,[rL out,i64 f]),?_,by simp,out,f,rfl,by omega,h3,?_,by omega⟩
   ·simp (disch:=first|assumption|omega) only[S0,rA,rQ,rB,rT,rE,aG,d]
   ·rw[Qbx (by omega)]at h4
    exact h4
 obtain⟨q,rfl,out,f,rfl,h1,h2,h3,h4⟩:=key
 have eb:=dX (s:=s) (lo:=(f:Int)) (hi:=(s.length:Int)) (by omega) (by omega) (by omega)
 rw[Rbd,Rbd,Qbx (Qbw _)]at eb
 have z:out.length+([s.drop f]:List (List UInt8)).length<=100000000000:=by simp only[Qbt,Qbu];omega
 have e:out++[s.drop f]=splitB b s:=by rw[<- h2,mX h3]
 simp (disch:=first|assumption|omega) only[S0,rA,rQ,rB,rT,rE,aG,eb,iZ,iQ,e]
theorem Ba6 (s:List UInt8)(b:UInt8):Fun T 65 [.str s,u8 b]=some [i64 (s.count b:Nat)]:=by
 rw[uS (e:=Hb6) rfl]
 exact Ab6
theorem sD (s:List UInt8)(b:UInt8):Fun T 69 [.str s,u8 b]=some [i64 (Lib.indexByte s b)]:=by
 rw[uS (e:=ixE) rfl]
 exact Fbw
theorem uO (s:List UInt8)(b:UInt8):Fun T 68 [.str s,u8 b]=some [i64 (Lib.indexByte s b)]:=by
 rw[aK (t:=Cbl) rfl];unfold Cbl
 simp (disch:=first|assumption|omega) only[S0,rA,rQ,rB,rT,rE,sD]
theorem strings_Count (s:List UInt8)(b:UInt8):Fun T 64 [.str s,.str [b]]=some [i64 (s.count b:Nat)]:=by
 rw[aK (t:=Cbo) rfl];unfold Cbo
 have e1:aO.slen.run [.str [b]]=some [i64 1]:=rfl
 have e2:aO.sidx.run [.str [b],i64 0]=some [u8 b]:=rfl
 simp (disch:=first|assumption|omega) only[S0,rA,rQ,rB,rT,rE,e1,e2,Ba6]
theorem oG (s:List UInt8)(b:UInt8):Fun T 67 [.str s,.str [b]]=some [i64 (Lib.indexByte s b)]:=by
 rw[aK (t:=Cbm) rfl];unfold Cbm
 have e1:aO.slen.run [.str [b]]=some [i64 1]:=rfl
 have e2:aO.sidx.run [.str [b],i64 0]=some [u8 b]:=rfl
 cases e:([b]:List UInt8)==s
 ·simp (disch:=first|assumption|omega) only[S0,rA,rQ,rB,rT,rE,e1,e2,tH,e,uO]
 ·have hs:s=[b]:=(show [b]=s by simpa using e).symm
  have hi:Lib.indexByte s b=0:=by rw[hs];unfold Lib.indexByte;simp
  rw[hi]
  simp (disch:=first|assumption|omega) only[S0,rA,rQ,rB,rT,rE,e1,tH,e]
theorem strings_Index (s:List UInt8)(b:UInt8):Fun T 66 [.str s,.str [b]]=some [i64 (Lib.indexByte s b)]:=by
 rw[aK (t:=Cbn) rfl];unfold Cbn
 simp (disch:=first|assumption|omega) only[S0,rA,rQ,rB,rT,rE,oG]
theorem strings_genSplit (s:List UInt8)(b:UInt8)(hs:s.length<=1000000000):Fun T 59 [.str s,.str [b],i64 0,i64 (-1)]=some [rL (splitB b s)]:=by
 rw[aK (t:=Cbp) rfl];unfold Cbp
 have e0:(([b]:List UInt8)==[])=false:=rfl
 have hcl:s.count b<=s.length:=Sbe
 have hmin:min ((s.count b:Nat)+1:Int) ((s.length:Int)+1)=((s.count b:Nat):Int)+1:=by omega
 have emk:(aO.make 16 [(.str [])]).run [i64 (((s.count b:Nat):Int)+1)]=some [rL (Qb0 (s.count b+1) ([]:List UInt8))]:=by
  have:=mQ.2.1 (n:=((s.count b:Nat):Int)+1) (by omega) (by omega)
  rw[this]
  congr
 have ea:((s.count b:Nat):Int)+1-1=((s.count b:Nat):Int):=by omega
 simp (disch:=first|assumption|omega) only[S0,rA,rQ,rB,rT,rE,tH,e0,strings_Count,aG,hmin,emk,ea]
 generalize hE:Er T (Tm.loop _ _) _=E
 have key:∃ q,E=some q/\∃ (r:List UInt8) (a:List (List UInt8)),q=(.yield 1,[.str r,rL a,i64 (s.count b:Nat)])/\a.length=s.count b+1/\b∉r/\a.take (s.count b)++splitB b r=splitB b s:=by
  rw[<- hE]
  refine nJ (γ:=Nat×List UInt8×List (List UInt8)) (fun c=>s.count b-c.1) (fun c=>c.1<=s.count b/\c.2.2.length=s.count b+1/\c.2.1.count b+c.1=s.count b/\c.2.1.length<=s.length/\c.2.2.take c.1++splitB b c.2.1=splitB b s) (fun c=>[.str c.2.1,rL c.2.2,i64 c.1]) _ (0,s,Qb0 (s.count b+1) []) rfl (by simp) ?_
  rintro⟨i,r,a⟩ ⟨h1,h2,h3,h4,h5⟩
  simp only at h1 h2 h3 h4 h5
  by_cases hi:i<s.count b
  ·have d:decide ((i:Int)<((s.count b:Nat):Int))=true:=by simpa using hi
   have hm:b∈r:=List.count_pos_iff.1 (by omega)
   obtain⟨p,t,hr,hp,hix⟩:=Iaj hm
   have hbi:InB a (i:Int):=by unfold InB;omega
   have d2:decide ((p.length:Int)<0)=false:=by simp
   have hrl:r.length=p.length+t.length+1:=by rw[hr];simp;omega
   have ea0:(p.length:Int)+0=p.length:=by omega
   have es1:=dX (s:=r) (lo:=0) (hi:=(p.length:Int)) (by omega) (by omega) (by omega)
   have es2:=dX (s:=r) (lo:=(p.length:Int)+1) (hi:=(r.length:Int)) (by omega) (by omega) (by omega)
   have et1:(r.take (p.length:Int).toNat).drop (0:Int).toNat=p:=by
    rw[Rbd,hr];simp
   have et2:(r.take (r.length:Int).toNat).drop ((p.length:Int)+1).toNat=t:=by
    rw[Rbd,Qbx (Qbw _),show ((p.length:Int)+1).toNat=p.length+1 by omega,hr]
    rw[List.drop_append]
    simp
   rw[et1]at es1
   rw[et2]at es2
   have eb1:aO.slen.run [.str [b]]=some [i64 1]:=rfl
   have hcr:r.count b=t.count b+1:=by
    rw[hr,List.count_append,List.count_cons_self,List.count_eq_zero.2 hp]
    omega
   refine .inl ⟨(i+1,t,cZ a (i:Int) p),?_,⟨by simp only;omega,by simp only[dR];omega,by simp only;omega,by simp only;omega,?_⟩,by simp only;omega⟩
   ·simp (disch:=first|assumption|omega) only[S0,rA,rQ,rB,rT,rE,d,strings_Index,hix,d2,ea0,es1,dI,eb1,aG,es2]
   ·simp only
    have e6:(cZ a (i:Int) p).take (i+1)=a.take i++[p]:=by
     have hl:i<(cZ a (i:Int) p).length:=by rw[dR];omega
     rw[<- take_at hl]
     have e7:atI (cZ a (i:Int) p) (i:Int)=p:=fU.1 hbi
     rw[e7]
     congr 1
     unfold cZ
     rw[Rbd,Ubb (Qbw _)]
    rw[e6,Qb1,<- h5,hr,mG _ hp]
    rfl
  ·have d:decide ((i:Int)<((s.count b:Nat):Int))=false:=by simpa using hi
   obtain rfl:i=s.count b:=by omega
   refine .inr ⟨(.yield 1,[.str r,rL a,i64 (s.count b:Nat)]),?_,by simp,r,a,rfl,h2,List.count_eq_zero.1 (by omega),h5⟩
   simp (disch:=first|assumption|omega) only[S0,rA,rQ,rB,rT,rE,d]
 obtain⟨q,rfl,r,a,rfl,h1,h2,h3⟩:=key
 have hb:InB a ((s.count b:Nat):Int):=by unfold InB;omega
 have hl:s.count b<(cZ a ((s.count b:Nat):Int) r).length:=by rw[dR];omega
 have hll:((s.count b:Nat):Int)+1<=((cZ a ((s.count b:Nat):Int) r).length:Int):=by omega
 have e6:((cZ a ((s.count b:Nat):Int) r).take (((s.count b:Nat):Int)+1).toNat).drop (0:Int).toNat=splitB b s:=by
  rw[show (((s.count b:Nat):Int)+1).toNat=s.count b+1 by omega]
  rw[<- take_at hl]
  have e7:atI (cZ a ((s.count b:Nat):Int) r) ((s.count b:Nat):Int)=r:=fU.1 hb
  rw[e7,<- h3,mX h2]
  simp only[Tbw,Sb9]
  congr 1
  unfold cZ
  rw[Rbd,Ubb (Qbw _)]
 simp (disch:=first|assumption|omega) only[S0,rA,rQ,rB,rT,rE,dI,Ja6,e6]
theorem strings_Split (s:List UInt8)(b:UInt8)(hs:s.length<=1000000000):Fun T 58 [.str s,.str [b]]=some [rL (splitB b s)]:=by
 rw[aK (t:=Mbt) rfl];unfold Mbt
 simp (disch:=first|assumption|omega) only[S0,rA,rQ,rB,rT,rE,strings_genSplit]
theorem lX (s:List UInt8)(most:Int)(hm:0<=most)(hm2:most<=9)(hs:s.length<=1000000000):Fun T 71 [.str s,i64 most]=some [i64 (bP s most)]:=by
 rw[aK (t:=Cbj) rfl];unfold Cbj
 simp (disch:=first|assumption|omega) only[S0,rA,rQ,rB,rT,rE,aG]
 have hloop:∀ i:Nat,i<=s.length->(s.take i).all cB=true->(i:Int)<=most->0<=lC (s.take i)/\lC (s.take i)<=1000000000:=by
  intro i hi hd hm3
  obtain⟨h1,h2⟩:=Gar (s.take i) hd
  refine⟨h1,?_⟩
  have h3:(s.take i).length<=9:=by rw[Qb9];omega
  have h4:(10:Int) ^ (s.take i).length<=10 ^ 9:=by
   exact_mod_cast Tbm (by decide) h3
  have h5:(10:Int) ^ 9=1000000000:=by decide
  omega
 have stepN:∀ i:Nat,i<s.length->(s.take (i+1)).all cB=((s.take i).all cB&&cB (atI s (i:Int))):=by
  intro i hi
  rw[<- take_at hi,Tbv]
  simp
 have stepV:∀ i:Nat,i<s.length->lC (s.take (i+1))=10*lC (s.take i)+(((atI s (i:Int)).toNat:Int)-48):=by
  intro i hi
  rw[<- take_at hi,vU]
 have badall:∀ i:Nat,i<s.length->cB (atI s (i:Int))=false->s.all cB=false:=by
  intro i hi hd
  cases h:s.all cB
  ·rfl
  ·rw[Rbg]at h
   rw[h _ (at_mem hi)]at hd
   cases hd
 rw[bV (if s.all cB&&decide ((s.length:Int)<=most) then (.yield 1,[i64 (lC s)]) else (.ret,[i64 (-1)])) (fun i:Nat=>s.length-i) (fun i:Nat=>i<=s.length/\(s.take i).all cB=true/\(i:Int)<=most) (fun i=>[i64 (lC (s.take i)),i64 i]) 0 rfl (by simp;omega) (by split<;>simp)]
 rotate_left
 ·rintro i ⟨hi,hd,hmi⟩
  by_cases hlt:i<s.length
  ·have d:decide ((i:Int)<(s.length:Int))=true:=by simpa using hlt
   have es:=kS (s:=s) (k:=(i:Int)) (by omega) (by omega)
   obtain⟨v1,v2⟩:=hloop i hi hd hmi
   cases hdig:cB (atI s (i:Int))
   ·right
    have hb:=badall i hlt hdig
    rw[hb]
    simp only[Rbp,Qbr,if_false]
    unfold cB at hdig
    simp only[Sbc,Rbw,decide_eq_true_eq]at hdig
    by_cases h48:(atI s (i:Int)).toNat<48
    ·have d1:decide ((atI s (i:Int)).toNat<48)=true:=by simpa using h48
     simp (disch:=first|assumption|omega) only[S0,rA,rQ,rB,rT,rE,d,es,iT,d1]
    ·have d1:decide ((atI s (i:Int)).toNat<48)=false:=by simpa using h48
     have d2:decide (57<(atI s (i:Int)).toNat)=true:=by simp;omega
     simp (disch:=first|assumption|omega) only[S0,rA,rQ,rB,rT,rE,d,es,iT,d1,mU,d2]
   ·have hr:=jY hdig
    have d1:decide ((atI s (i:Int)).toNat<48)=false:=by simp;omega
    have d2:decide (57<(atI s (i:Int)).toNat)=false:=by simp;omega
    by_cases hmx:most<=(i:Int)
    ·right
     have d3:decide (most<=(i:Int))=true:=by simpa using hmx
     have d4:decide ((s.length:Int)<=most)=false:=by simp;omega
     rw[d4]
     simp only[Sba,Qbr,if_false]
     simp (disch:=first|assumption|omega) only[S0,rA,rQ,rB,rT,rE,d,es,iT,d1,mU,d2,d3]
    ·have d3:decide (most<=(i:Int))=false:=by simpa using hmx
     have er:(aO.bin .mul).run [i64 10,i64 (lC (s.take i))]=some [i64 (10*lC (s.take i))]:=jN (by omega) (by omega)
     have ed:=Kac hdig
     have ev:=stepV i hlt
     refine .inl ⟨i+1,?_,⟨by omega,by rw[stepN i hlt,hd,hdig];rfl,by omega⟩,by omega⟩
     simp (disch:=first|assumption|omega) only[S0,rA,rQ,rB,rT,rE,d,es,iT,d1,mU,d2,d3,er,Kab,ed,ev]
  ·have d:decide ((i:Int)<(s.length:Int))=false:=by simpa using hlt
   obtain rfl:i=s.length:=by omega
   rw[Qbx (Qbw _)]at hd ⊢
   have d4:decide ((s.length:Int)<=most)=true:=by simpa using hmi
   right
   rw[hd,d4]
   simp only[Tbl,if_true]
   simp (disch:=first|assumption|omega) only[S0,rA,rQ,rB,rT,rE,d]
 unfold bP
 cases hA:s.all cB&&decide ((s.length:Int)<=most)
 ·simp only[Rbp,Qbr,if_false]
  simp (disch:=first|assumption|omega) only[S0,rA,rQ,rB,rT,rE]
 ·simp only[Sbg,if_true]
  by_cases hne:s=[]
  ·subst hne
   have e0:(([]:List UInt8)==[])=true:=rfl
   simp (disch:=first|assumption|omega) only[S0,rA,rQ,rB,rT,rE,tH,e0]
   rfl
  ·have e0:(s==[])=false:=by simpa using hne
   have hl:0<s.length:=List.length_pos_iff.2 hne
   have es:=kS (s:=s) (k:=0) (by omega) (by omega)
   rw[Nak hne]
   cases hc:atI s 0==48
   ·simp only[Rbp,Rbr,if_true]
    simp (disch:=first|assumption|omega) only[S0,rA,rQ,rB,rT,rE,tH,e0,es,pK,hc]
   ·cases d5:decide ((1:Int)<(s.length:Int))
    ·simp only[Sba,Rbr,if_true]
     simp (disch:=first|assumption|omega) only[S0,rA,rQ,rB,rT,rE,tH,e0,es,pK,hc,aG,d5]
    ·simp only[Sbh,Rbl,Qbr,if_false]
     simp (disch:=first|assumption|omega) only[S0,rA,rQ,rB,rT,rE,tH,e0,es,pK,hc,aG,d5]
theorem bN (s:List UInt8)(hs:s.length<=1000000000):Fun T 90 [.str s]=some [i64 (bP s 6)]:=by
 rw[aK (t:=Gbe) rfl];unfold Gbe
 unfold bP
 cases hlen:inR ((s.length:Nat):Int) 1 6
 ·have hk:(s.all cB&&decide ((s.length:Int)<=6)&&!lead s)=false:=by
   by_cases hne:s=[]
   ·subst hne;rfl
   ·have hl:0<s.length:=List.length_pos_iff.2 hne
    have d4:decide ((s.length:Int)<=6)=false:=by
     cases hd:decide ((s.length:Int)<=6)
     ·rfl
     ·simp only[decide_eq_true_eq]at hd
      have:inR ((s.length:Nat):Int) 1 6=true:=kV.2 ⟨by omega,hd⟩
      rw[this]at hlen
      cases hlen
    rw[d4,Sba,Rbp]
  rw[hk]
  simp only[Qbr,if_false]
  simp (disch:=first|assumption|omega) only[S0,rA,rQ,rB,rT,rE,aG,bZ,hlen]
 ·have hr:=kV.1 hlen
  have d4:decide ((s.length:Int)<=6)=true:=by simpa using hr.2
  have hne:s≠[]:=by intro e;rw[e]at hr;simp at hr
  have es0:=kS (s:=s) (k:=0) (by omega) (by omega)
  rw[d4,Sbh,Nak hne]
  have hloop:∀ i:Nat,i<=s.length->(s.take i).all cB=true->0<=lC (s.take i)/\lC (s.take i)<=1000000000:=by
   intro i hi hd
   obtain⟨h1,h2⟩:=Gar (s.take i) hd
   refine⟨h1,?_⟩
   have h3:(s.take i).length<=9:=by rw[Qb9];omega
   have h4:(10:Int) ^ (s.take i).length<=10 ^ 9:=by
    exact_mod_cast Tbm (by decide) h3
   have h5:(10:Int) ^ 9=1000000000:=by decide
   omega
  have stepN:∀ i:Nat,i<s.length->(s.take (i+1)).all cB=((s.take i).all cB&&cB (atI s (i:Int))):=by
   intro i hi
   rw[<- take_at hi,Tbv]
   simp
  have stepV:∀ i:Nat,i<s.length->lC (s.take (i+1))=10*lC (s.take i)+(((atI s (i:Int)).toNat:Int)-48):=by
   intro i hi
   rw[<- take_at hi,vU]
  have badall:∀ i:Nat,i<s.length->cB (atI s (i:Int))=false->s.all cB=false:=by
   intro i hi hd
   cases h:s.all cB
   ·rfl
   ·rw[Rbg]at h
    rw[h _ (at_mem hi)]at hd
    cases hd
  cases hc:atI s 0==48
  ·simp only[Rbp,Rbr,Sbh]
   simp (disch:=first|assumption|omega) only[S0,rA,rQ,rB,rT,rE,aG,bZ,hlen,es0,pK,hc]
   rw[bV (if s.all cB then (.yield 1,[i64 (lC s)]) else (.ret,[i64 (-1)])) (fun i:Nat=>s.length-i) (fun i:Nat=>i<=s.length/\(s.take i).all cB=true) (fun i=>[i64 (lC (s.take i)),i64 i]) 0 rfl (by simp) (by split<;>simp)]
   ·cases hA:s.all cB
    ·simp only[Qbr,if_false]
     simp (disch:=first|assumption|omega) only[S0,rA,rQ,rB,rT,rE]
    ·simp only[if_true]
     simp (disch:=first|assumption|omega) only[S0,rA,rQ,rB,rT,rE]
   ·rintro i ⟨hi,hd⟩
    by_cases hlt:i<s.length
    ·have d:decide ((i:Int)<(s.length:Int))=true:=by simpa using hlt
     have es:=kS (s:=s) (k:=(i:Int)) (by omega) (by omega)
     obtain⟨v1,v2⟩:=hloop i hi hd
     cases hdig:cB (atI s (i:Int))
     ·right
      have hb:=badall i hlt hdig
      rw[hb]
      simp only[Qbr,if_false]
      unfold cB at hdig
      simp only[Sbc,Rbw,decide_eq_true_eq]at hdig
      by_cases h48:(atI s (i:Int)).toNat<48
      ·have d1:decide ((atI s (i:Int)).toNat<48)=true:=by simpa using h48
       simp (disch:=first|assumption|omega) only[S0,rA,rQ,rB,rT,rE,aG,d,es,iT,d1]
      ·have d1:decide ((atI s (i:Int)).toNat<48)=false:=by simpa using h48
       have d2:decide (57<(atI s (i:Int)).toNat)=true:=by simp;omega
       simp (disch:=first|assumption|omega) only[S0,rA,rQ,rB,rT,rE,aG,d,es,iT,d1,mU,d2]
     ·have hr:=jY hdig
      have d1:decide ((atI s (i:Int)).toNat<48)=false:=by simp;omega
      have d2:decide (57<(atI s (i:Int)).toNat)=false:=by simp;omega
      have er:(aO.bin .mul).run [i64 10,i64 (lC (s.take i))]=some [i64 (10*lC (s.take i))]:=jN (by omega) (by omega)
      have ed:=Kac hdig
      have ev:=stepV i hlt
      refine .inl ⟨i+1,?_,⟨by omega,by rw[stepN i hlt,hd,hdig];rfl⟩,by omega⟩
      simp (disch:=first|assumption|omega) only[S0,rA,rQ,rB,rT,rE,aG,d,es,iT,d1,mU,d2,er,Kab,ed,ev]
    ·have d:decide ((i:Int)<(s.length:Int))=false:=by simpa using hlt
     obtain rfl:i=s.length:=by omega
     rw[Qbx (Qbw _)]at hd ⊢
     right
     rw[hd]
     simp only[if_true]
     simp (disch:=first|assumption|omega) only[S0,rA,rQ,rB,rT,rE,aG,d]
  ·cases d5:decide ((1:Int)<(s.length:Int))
   ·simp only[Sba,Rbr,Sbh]
    simp (disch:=first|assumption|omega) only[S0,rA,rQ,rB,rT,rE,aG,bZ,hlen,es0,pK,hc,d5]
    rw[bV (if s.all cB then (.yield 1,[i64 (lC s)]) else (.ret,[i64 (-1)])) (fun i:Nat=>s.length-i) (fun i:Nat=>i<=s.length/\(s.take i).all cB=true) (fun i=>[i64 (lC (s.take i)),i64 i]) 0 rfl (by simp) (by split<;>simp)]
    ·cases hA:s.all cB
     ·simp only[Qbr,if_false]
      simp (disch:=first|assumption|omega) only[S0,rA,rQ,rB,rT,rE]
     ·simp only[if_true]
      simp (disch:=first|assumption|omega) only[S0,rA,rQ,rB,rT,rE]
    ·rintro i ⟨hi,hd⟩
     by_cases hlt:i<s.length
     ·have d:decide ((i:Int)<(s.length:Int))=true:=by simpa using hlt
      have es:=kS (s:=s) (k:=(i:Int)) (by omega) (by omega)
      obtain⟨v1,v2⟩:=hloop i hi hd
      cases hdig:cB (atI s (i:Int))
      ·right
       have hb:=badall i hlt hdig
       rw[hb]
       simp only[Qbr,if_false]
       unfold cB at hdig
       simp only[Sbc,Rbw,decide_eq_true_eq]at hdig
       by_cases h48:(atI s (i:Int)).toNat<48
       ·have d1:decide ((atI s (i:Int)).toNat<48)=true:=by simpa using h48
        simp (disch:=first|assumption|omega) only[S0,rA,rQ,rB,rT,rE,aG,d,es,iT,d1]
       ·have d1:decide ((atI s (i:Int)).toNat<48)=false:=by simpa using h48
        have d2:decide (57<(atI s (i:Int)).toNat)=true:=by simp;omega
        simp (disch:=first|assumption|omega) only[S0,rA,rQ,rB,rT,rE,aG,d,es,iT,d1,mU,d2]
      ·have hr:=jY hdig
       have d1:decide ((atI s (i:Int)).toNat<48)=false:=by simp;omega
       have d2:decide (57<(atI s (i:Int)).toNat)=false:=by simp;omega
       have er:(aO.bin .mul).run [i64 10,i64 (lC (s.take i))]=some [i64 (10*lC (s.take i))]:=jN (by omega) (by omega)
       have ed:=Kac hdig
       have ev:=stepV i hlt
       refine .inl ⟨i+1,?_,⟨by omega,by rw[stepN i hlt,hd,hdig];rfl⟩,by omega⟩
       simp (disch:=first|assumption|omega) only[S0,rA,rQ,rB,rT,rE,aG,d,es,iT,d1,mU,d2,er,Kab,ed,ev]
     ·have d:decide ((i:Int)<(s.length:Int))=false:=by simpa using hlt
      obtain rfl:i=s.length:=by omega
      rw[Qbx (Qbw _)]at hd ⊢
      right
      rw[hd]
      simp only[if_true]
      simp (disch:=first|assumption|omega) only[S0,rA,rQ,rB,rT,rE,aG,d]
   ·simp only[Sbh,Rbl,Sba,Qbr,if_false]
    simp (disch:=first|assumption|omega) only[S0,rA,rQ,rB,rT,rE,aG,bZ,hlen,es0,pK,hc,d5]
theorem iF (ws:List (List UInt8))(most:Int)(hm:0<=most)(hm2:most<=9)(hw:∀ w∈ws,w.length<=1000000000)(hl:ws.length<=1000000001):Fun T 70 [rL ws,i64 most]=some [rL (Bbu most ws).1,.bool (Bbu most ws).2]:=by
 rw[aK (t:=Cbk) rfl];unfold Cbk
 have em0:(aO.mk 1 0).run []=some [rL ([]:List Int)]:=rfl
 simp (disch:=first|assumption|omega) only[S0,rA,rQ,rB,rT,rE,em0]
 rw[bV (if aT most ws then (.yield 1,[rL (numsOf most ws)]) else (.ret,[rL ([]:List Int),.bool false])) (fun i:Nat=>ws.length-i) (fun i:Nat=>i<=ws.length/\aT most (ws.take i)=true) (fun i=>[rL (numsOf most (ws.take i)),i64 i]) 0 rfl (by simp[aT]) (by split<;>simp)]
 rotate_left
 ·rintro i ⟨hi,hA⟩
  by_cases hlt:i<ws.length
  ·have d:decide ((i:Int)<(ws.length:Int))=true:=by simpa using hlt
   have hb:InB ws (i:Int):=aP.2 hlt
   have e:=lX (atI ws (i:Int)) most hm hm2 (hw _ (at_mem hlt))
   rcases (show bP (atI ws (i:Int)) most<0\/0<=bP (atI ws (i:Int)) most by omega) with h0|h0
   ·right
    have d0:decide (bP (atI ws (i:Int)) most<0)=true:=by simpa using h0
    rw[bE hlt h0]
    simp only[Qbr,if_false]
    simp (disch:=first|assumption|omega) only[S0,rA,rQ,rB,rT,rE,d,aJ,e,d0,Oad]
   ·have d0:decide (bP (atI ws (i:Int)) most<0)=false:=by simp;omega
    have z:(numsOf most (ws.take i)).length+([bP (atI ws (i:Int)) most]:List Int).length<=100000000000:=by rw[bR,Qb9];simp only[Qbt,Qbu];omega
    have e3:=(lW (m:=most) hlt).symm
    refine .inl ⟨i+1,?_,⟨by omega,by rw[dH hlt,hA,decide_eq_true h0];rfl⟩,by omega⟩
    simp (disch:=first|assumption|omega) only[S0,rA,rQ,rB,rT,rE,d,aJ,e,d0,iZ,iQ,e3]
  ·have d:decide ((i:Int)<(ws.length:Int))=false:=by simpa using hlt
   obtain rfl:i=ws.length:=by omega
   rw[Qbx (Qbw _)]at hA ⊢
   right
   rw[hA]
   simp only[if_true]
   simp (disch:=first|assumption|omega) only[S0,rA,rQ,rB,rT,rE,d]
 ·cases hA:aT most ws
  ·rw[uM hA]
   simp only[Qbr,if_false]
   simp (disch:=first|assumption|omega) only[S0,rA,rQ,rB,rT,rE]
  ·rw[lS hA]
   simp only[if_true]
   simp (disch:=first|assumption|omega) only[S0,rA,rQ,rB,rT,rE]
theorem pR (xs:List (List UInt8))(w:List UInt8)(hx:xs.length<=1000):Fun T 73 [rL xs,.str w]=some [i64 (ixF (fun x=>w==x) xs)]:=by
 rw[aK (t:=Cbh) rfl];unfold Cbh
 simp (disch:=first|assumption|omega) only[S0,rA,rQ,rB,rT,rE]
 rw[Ja3 1 xs (fun x=>w==x) (fun i=>[i64 i])]
 ·cases h:xs.any (fun x=>w==x)
  ·have e:ixF (fun x=>w==x) xs=-1:=by
    have h2:=oI (fun x=>w==x) xs
    rw[h]at h2
    unfold ixF at h2 ⊢
    split at h2<;>simp_all
   rw[e]
   simp (disch:=first|assumption|omega) only[S0,rA,rQ,rB,rT,rE]
  ·simp (disch:=first|assumption|omega) only[S0,rA,rQ,rB,rT,rE]
 ·intro i hi hb hl hp
  simp (disch:=first|assumption|omega) only[S0,rA,rQ,rB,rT,rE,aJ,tH,hl,hp]
 ·intro i hi hb hl hp
  simp (disch:=first|assumption|omega) only[S0,rA,rQ,rB,rT,rE,aJ,tH,hl,hp]
 ·intro hl
  simp (disch:=first|assumption|omega) only[S0,rA,rQ,rB,rT,rE,hl]
theorem zM (s:List UInt8)(hs:s.length<=1000000000):∃ code:Int,Fun T 72 [.str s]=some [i64 (nQ s).1.kind,i64 (nQ s).1.id,i64 (nQ s).1.src,i64 (nQ s).1.dst,i64 (nQ s).1.amt,i64 code,.bool (nQ s).2]:=by
 rw[aK (t:=Cbi) rfl];unfold Cbi
 have hsm:∀ w∈splitB 32 s,w.length<=1000000000:=fun w hw=>by have:=(dB hw).2;omega
 have hne:=mY 32 s
 have hll:(splitB 32 s).length<=1000000001:=by
  rw[gZ]
  have:s.count 32<=s.length:=Sbe
  omega
 have esp:=strings_Split s 32 hs
 unfold nQ
 generalize splitB 32 s=ws at *
 have hl0:0<ws.length:=List.length_pos_iff.2 hne
 have hb0:InB ws 0:=by unfold InB;omega
 have ei:=pR [[45],[109,111,118,101],[114,101,97,100]] (atI ws 0) (by decide)
 rw[Uao]at ei
 have hdr:∀ w∈ws.drop 1,w.length<=1000000000:=fun w hw=>hsm w (Sbo hw)
 have hdl:=Da1 (ws:=ws)
 have en:=iF (ws.drop 1) 4 (by decide) (by decide) hdr (by omega)
 have esub:=Gax (ws:=ws) (by omega)
 have b0:InB ([1,5,3]:List Int) 0:=by unfold InB;decide
 have b1:InB ([1,5,3]:List Int) 1:=by unfold InB;decide
 have b2:InB ([1,5,3]:List Int) 2:=by unfold InB;decide
 have a0:atI ([1,5,3]:List Int) 0=1:=rfl
 have a1:atI ([1,5,3]:List Int) 1=5:=rfl
 have a2:atI ([1,5,3]:List Int) 2=3:=rfl
 rcases rY (atI ws 0) with k|k|k|k
 ·rw[k]at ei
  by_cases hl:(ws.length:Int)=1
  ·have hd:ws.drop 1=[]:=Rbx (by omega)
   have hA:aT 4 (ws.drop 1)=true:=by rw[hd];rfl
   have hN:=lS hA
   have dl:((ws.length:Int)==1)=true:=by simpa using hl
   have hc:=iL (ws:=ws) k (by decide) hl hA rfl
   rw[hc]
   refine⟨0,?_⟩
   have eg:=iG 0 0 0 0 0
   have eg2:dC ⟨0,0,0,0,0⟩=true:=rfl
   have er:inR 0 0 3=true:=rfl
   have ec:Qa4 0 (numsOf 4 (ws.drop 1))=⟨0,0,0,0,0⟩:=rfl
   rw[ec]
   simp (disch:=first|assumption|omega) only[S0,rA,rQ,rB,rT,rE,esp,iZ,aJ,ei,b0,a0,dl,esub,en,hN,bF,er,eg,eg2]
  ·have dl:((ws.length:Int)==1)=false:=by simpa using hl
   rw[dA (.inr (.inl (by rw[k];exact hl)))]
   refine⟨2,?_⟩
   simp (disch:=first|assumption|omega) only[S0,rA,rQ,rB,rT,rE,esp,iZ,aJ,ei,b0,a0,dl]
 ·rw[k]at ei
  by_cases hl:(ws.length:Int)=5
  ·have dl:((ws.length:Int)==5)=true:=by simpa using hl
   cases hA:aT 4 (ws.drop 1)
   ·have hN:=uM hA
    rw[dA (.inr (.inr (.inl hA)))]
    refine⟨3,?_⟩
    simp (disch:=first|assumption|omega) only[S0,rA,rQ,rB,rT,rE,esp,iZ,aJ,ei,b1,a1,dl,esub,en,hN]
   ·have hN:=lS hA
    have hnl:(numsOf 4 (ws.drop 1)).length=4:=by rw[bR];omega
    have hno:=dA (ws:=ws)
    have hyes:=iL (ws:=ws) k (by decide) hl hA
    rw[k]at hno
    generalize numsOf 4 (ws.drop 1)=ns at *
    have c0:InB ns 0:=by unfold InB;omega
    have c1:InB ns 1:=by unfold InB;omega
    have c2:InB ns 2:=by unfold InB;omega
    have c3:InB ns 3:=by unfold InB;omega
    have ecn:Qa4 1 ns=⟨1,atI ns 0,atI ns 1,atI ns 2,atI ns 3⟩:=rfl
    have eg:=iG 1 (atI ns 0) (atI ns 1) (atI ns 2) (atI ns 3)
    rw[ecn]at hno hyes
    cases q1:inR (atI ns 1) 0 3
    ·rw[hno (.inr (.inr (.inr (by simp[dC,q1]))))]
     refine⟨4,?_⟩
     simp (disch:=first|assumption|omega) only[S0,rA,rQ,rB,rT,rE,esp,iZ,aJ,ei,b1,a1,dl,esub,en,hN,bF,q1]
    cases q2:inR (atI ns 2) 0 3
    ·rw[hno (.inr (.inr (.inr (by simp[dC,q2]))))]
     refine⟨4,?_⟩
     simp (disch:=first|assumption|omega) only[S0,rA,rQ,rB,rT,rE,esp,iZ,aJ,ei,b1,a1,dl,esub,en,hN,bF,q1,q2]
    cases q3:atI ns 1==atI ns 2
    rotate_left
    ·rw[hno (.inr (.inr (.inr (by simp[dC,q3]))))]
     refine⟨5,?_⟩
     simp (disch:=first|assumption|omega) only[S0,rA,rQ,rB,rT,rE,esp,iZ,aJ,ei,b1,a1,dl,esub,en,hN,bF,q1,q2,q3]
    cases q4:dC ⟨1,atI ns 0,atI ns 1,atI ns 2,atI ns 3⟩
    ·rw[hno (.inr (.inr (.inr q4)))]
     refine⟨6,?_⟩
     simp (disch:=first|assumption|omega) only[S0,rA,rQ,rB,rT,rE,esp,iZ,aJ,ei,b1,a1,dl,esub,en,hN,bF,q1,q2,q3,eg,q4]
    ·rw[hyes q4]
     refine⟨0,?_⟩
     simp (disch:=first|assumption|omega) only[S0,rA,rQ,rB,rT,rE,esp,iZ,aJ,ei,b1,a1,dl,esub,en,hN,bF,q1,q2,q3,eg,q4]
  ·have dl:((ws.length:Int)==5)=false:=by simpa using hl
   rw[dA (.inr (.inl (by rw[k];exact hl)))]
   refine⟨2,?_⟩
   simp (disch:=first|assumption|omega) only[S0,rA,rQ,rB,rT,rE,esp,iZ,aJ,ei,b1,a1,dl]
 ·rw[k]at ei
  by_cases hl:(ws.length:Int)=3
  ·have dl:((ws.length:Int)==3)=true:=by simpa using hl
   cases hA:aT 4 (ws.drop 1)
   ·have hN:=uM hA
    rw[dA (.inr (.inr (.inl hA)))]
    refine⟨3,?_⟩
    simp (disch:=first|assumption|omega) only[S0,rA,rQ,rB,rT,rE,esp,iZ,aJ,ei,b2,a2,dl,esub,en,hN]
   ·have hN:=lS hA
    have hnl:(numsOf 4 (ws.drop 1)).length=2:=by rw[bR];omega
    have hno:=dA (ws:=ws)
    have hyes:=iL (ws:=ws) k (by decide) hl hA
    rw[k]at hno
    generalize numsOf 4 (ws.drop 1)=ns at *
    have c0:InB ns 0:=by unfold InB;omega
    have c1:InB ns 1:=by unfold InB;omega
    have ecn:Qa4 2 ns=⟨2,atI ns 0,atI ns 1,0,0⟩:=rfl
    have eg:=iG 2 (atI ns 0) (atI ns 1) 0 0
    have q2:inR 0 0 3=true:=rfl
    rw[ecn]at hno hyes
    cases q1:inR (atI ns 1) 0 3
    ·rw[hno (.inr (.inr (.inr (by simp[dC,q1]))))]
     refine⟨4,?_⟩
     simp (disch:=first|assumption|omega) only[S0,rA,rQ,rB,rT,rE,esp,iZ,aJ,ei,b2,a2,dl,esub,en,hN,bF,q1]
    cases q4:dC ⟨2,atI ns 0,atI ns 1,0,0⟩
    ·rw[hno (.inr (.inr (.inr q4)))]
     refine⟨6,?_⟩
     simp (disch:=first|assumption|omega) only[S0,rA,rQ,rB,rT,rE,esp,iZ,aJ,ei,b2,a2,dl,esub,en,hN,bF,q1,q2,eg,q4]
    ·rw[hyes q4]
     refine⟨0,?_⟩
     simp (disch:=first|assumption|omega) only[S0,rA,rQ,rB,rT,rE,esp,iZ,aJ,ei,b2,a2,dl,esub,en,hN,bF,q1,q2,eg,q4]
  ·have dl:((ws.length:Int)==3)=false:=by simpa using hl
   rw[dA (.inr (.inl (by rw[k];exact hl)))]
   refine⟨2,?_⟩
   simp (disch:=first|assumption|omega) only[S0,rA,rQ,rB,rT,rE,esp,iZ,aJ,ei,b2,a2,dl]
 ·rw[k]at ei
  rw[dA (.inl (by rw[k];decide))]
  refine⟨1,?_⟩
  have d1:decide ((-1:Int)<0)=true:=rfl
  simp (disch:=first|assumption|omega) only[S0,rA,rQ,rB,rT,rE,esp,iZ,aJ,ei,d1]
theorem yH (s:List UInt8)(hs:s.length<=1000000000):∃ code:Int,Fun T 91 [.str s]=some [i64 (nQ s).1.kind,i64 (nQ s).1.id,i64 (nQ s).1.src,i64 (nQ s).1.dst,i64 (nQ s).1.amt,i64 code,.bool (nQ s).2]:=by
 rw[aK (t:=Gbd) rfl];unfold Gbd
 have hsm:∀ w∈splitB 32 s,w.length<=1000000000:=fun w hw=>by have:=(dB hw).2;omega
 have hne:=mY 32 s
 have esp:Fun T 89 [.str s,.int .u8 32]=some [rL (splitB 32 s)]:=fK s 32 hs
 unfold nQ
 generalize splitB 32 s=ws at *
 have hl0:0<ws.length:=List.length_pos_iff.2 hne
 have hb0:InB ws 0:=by unfold InB;omega
 have hdr:∀ w∈ws.drop 1,w.length<=1000000000:=fun w hw=>hsm w (Sbo hw)
 have hdl:=Da1 (ws:=ws)
 have esub:=Gax (ws:=ws) (by omega)
 rcases rY (atI ws 0) with k|k|k|k
 ·have q1:(atI ws 0==[109,111,118,101])=false:=by rw[rX k];rfl
  have q2:(atI ws 0==[114,101,97,100])=false:=by rw[rX k];rfl
  have q3:(atI ws 0==[45])=true:=by rw[rX k];rfl
  by_cases hl:(ws.length:Int)=1
  ·have dl:((ws.length:Int)==1)=true:=by simpa using hl
   have emk:(aO.make 8 [(.int .i64 0)]).run [i64 4]=some [rL (bK (ws.drop 1) 0)]:=by
    have:=mQ.1 (n:=4) (by omega) (by omega)
    rw[this]
    rfl
   have hno:=dA (ws:=ws)
   have hyes:=iL (ws:=ws) k (by decide) hl
   rw[k]at hno
   generalize hxs:ws.drop 1=xs at *
   have hx4:xs.length=0:=by omega
   cases hA0:aT 4 xs
   ·rw[hno (.inr (.inr (.inl hA0)))]
    refine⟨3,?_⟩
    simp (disch:=first|assumption|omega) only[S0,rA,rQ,rB,rT,rE,esp,aJ,tH,q1,q2,q3,dl,emk,esub]
    rw[bV (if aT 4 xs then (.yield 2,[rL (bK xs xs.length)]) else (.ret,[i64 0,i64 0,i64 0,i64 0,i64 0,i64 3,.bool false])) (fun i:Nat=>xs.length-i) (fun i:Nat=>i<=xs.length/\aT 4 (xs.take i)=true) (fun i=>[rL (bK xs i),i64 i]) 0 rfl (by simp[aT]) (by split<;>simp)]
    rotate_left
    ·rintro i ⟨hi,hA⟩
     by_cases hlt:i<xs.length
     ·have d:decide ((i:Int)<(xs.length:Int))=true:=by simpa using hlt
      have hb:InB xs (i:Int):=aP.2 hlt
      have e:=bN (atI xs (i:Int)) (hdr _ (at_mem hlt))
      have l1:=bM (ws:=xs) (i:=i) (by omega) (by omega)
      have l2:=bM (ws:=xs) (i:=i+1) (by omega) (by omega)
      have hb1:InB (bK xs i) (i:Int):=by unfold InB;omega
      have hb2:InB (bK xs (i+1)) (i:Int):=by unfold InB;omega
      have ef:=gF hlt (by omega)
      have ea:atI (bK xs (i+1)) (i:Int)=bP (atI xs (i:Int)) 6:=by rw[<- ef];exact fU.1 hb1
      by_cases h4:4<((atI xs (i:Int)).length:Int)
      ·have d4:decide (4<((atI xs (i:Int)).length:Int))=true:=by simpa using h4
       right
       rw[bE hlt (gG h4)]
       simp only[Qbr,if_false]
       simp (disch:=first|assumption|omega) only[S0,rA,rQ,rB,rT,rE,d,aJ,e,dI,ef,ea,aG,d4]
      ·have d4:decide (4<((atI xs (i:Int)).length:Int))=false:=by simpa using h4
       have e4:=eO (s:=atI xs (i:Int)) (by omega)
       rcases (show bP (atI xs (i:Int)) 6<0\/0<=bP (atI xs (i:Int)) 6 by omega) with h0|h0
       ·have d0:decide (bP (atI xs (i:Int)) 6<0)=true:=by simpa using h0
        right
        rw[bE hlt (by rw[e4];exact h0)]
        simp only[Qbr,if_false]
        simp (disch:=first|assumption|omega) only[S0,rA,rQ,rB,rT,rE,d,aJ,e,dI,ef,ea,aG,d4,d0]
       ·have d0:decide (bP (atI xs (i:Int)) 6<0)=false:=by simp;omega
        refine .inl ⟨i+1,?_,⟨by omega,by rw[dH hlt,hA,e4,decide_eq_true h0];rfl⟩,by omega⟩
        simp (disch:=first|assumption|omega) only[S0,rA,rQ,rB,rT,rE,d,aJ,e,dI,ef,ea,aG,d4,d0]
     ·have d:decide ((i:Int)<(xs.length:Int))=false:=by simpa using hlt
      obtain rfl:i=xs.length:=by omega
      rw[Qbx (Qbw _)]at hA
      right
      rw[hA]
      simp only[if_true]
      simp (disch:=first|assumption|omega) only[S0,rA,rQ,rB,rT,rE,d]
    ·rw[hA0]
     simp only[Qbr,if_false]
     simp (disch:=first|assumption|omega) only[S0,rA,rQ,rB,rT,rE]
   ·have hd:xs=[]:=Rbx hx4
    have ec:Qa4 0 (numsOf 4 xs)=⟨0,0,0,0,0⟩:=rfl
    rw[ec]at hyes
    rw[hyes hA0 rfl]
    refine⟨0,?_⟩
    simp (disch:=first|assumption|omega) only[S0,rA,rQ,rB,rT,rE,esp,aJ,tH,q1,q2,q3,dl,emk,esub]
    rw[bV (if aT 4 xs then (.yield 2,[rL (bK xs xs.length)]) else (.ret,[i64 0,i64 0,i64 0,i64 0,i64 0,i64 3,.bool false])) (fun i:Nat=>xs.length-i) (fun i:Nat=>i<=xs.length/\aT 4 (xs.take i)=true) (fun i=>[rL (bK xs i),i64 i]) 0 rfl (by simp[aT]) (by split<;>simp)]
    rotate_left
    ·rintro i ⟨hi,hA⟩
     by_cases hlt:i<xs.length
     ·have d:decide ((i:Int)<(xs.length:Int))=true:=by simpa using hlt
      have hb:InB xs (i:Int):=aP.2 hlt
      have e:=bN (atI xs (i:Int)) (hdr _ (at_mem hlt))
      have l1:=bM (ws:=xs) (i:=i) (by omega) (by omega)
      have l2:=bM (ws:=xs) (i:=i+1) (by omega) (by omega)
      have hb1:InB (bK xs i) (i:Int):=by unfold InB;omega
      have hb2:InB (bK xs (i+1)) (i:Int):=by unfold InB;omega
      have ef:=gF hlt (by omega)
      have ea:atI (bK xs (i+1)) (i:Int)=bP (atI xs (i:Int)) 6:=by rw[<- ef];exact fU.1 hb1
      by_cases h4:4<((atI xs (i:Int)).length:Int)
      ·have d4:decide (4<((atI xs (i:Int)).length:Int))=true:=by simpa using h4
       right
       rw[bE hlt (gG h4)]
       simp only[Qbr,if_false]
       simp (disch:=first|assumption|omega) only[S0,rA,rQ,rB,rT,rE,d,aJ,e,dI,ef,ea,aG,d4]
      ·have d4:decide (4<((atI xs (i:Int)).length:Int))=false:=by simpa using h4
       have e4:=eO (s:=atI xs (i:Int)) (by omega)
       rcases (show bP (atI xs (i:Int)) 6<0\/0<=bP (atI xs (i:Int)) 6 by omega) with h0|h0
       ·have d0:decide (bP (atI xs (i:Int)) 6<0)=true:=by simpa using h0
        right
        rw[bE hlt (by rw[e4];exact h0)]
        simp only[Qbr,if_false]
        simp (disch:=first|assumption|omega) only[S0,rA,rQ,rB,rT,rE,d,aJ,e,dI,ef,ea,aG,d4,d0]
       ·have d0:decide (bP (atI xs (i:Int)) 6<0)=false:=by simp;omega
        refine .inl ⟨i+1,?_,⟨by omega,by rw[dH hlt,hA,e4,decide_eq_true h0];rfl⟩,by omega⟩
        simp (disch:=first|assumption|omega) only[S0,rA,rQ,rB,rT,rE,d,aJ,e,dI,ef,ea,aG,d4,d0]
     ·have d:decide ((i:Int)<(xs.length:Int))=false:=by simpa using hlt
      obtain rfl:i=xs.length:=by omega
      rw[Qbx (Qbw _)]at hA
      right
      rw[hA]
      simp only[if_true]
      simp (disch:=first|assumption|omega) only[S0,rA,rQ,rB,rT,rE,d]
    ·rw[hA0]
     simp only[if_true]
     have ez:bK xs xs.length=[0,0,0,0]:=by rw[hd];rfl
     have z0:InB ([0,0,0,0]:List Int) 0:=by unfold InB;decide
     have z1:InB ([0,0,0,0]:List Int) 1:=by unfold InB;decide
     have z2:InB ([0,0,0,0]:List Int) 2:=by unfold InB;decide
     have z3:InB ([0,0,0,0]:List Int) 3:=by unfold InB;decide
     have y0:atI ([0,0,0,0]:List Int) 0=0:=rfl
     have y1:atI ([0,0,0,0]:List Int) 1=0:=rfl
     have y2:atI ([0,0,0,0]:List Int) 2=0:=rfl
     have y3:atI ([0,0,0,0]:List Int) 3=0:=rfl
     rw[ez]
     simp (disch:=first|assumption|omega) only[S0,rA,rQ,rB,rT,rE,aJ,y0,y1,y2,y3]
  ·have dl:((ws.length:Int)==1)=false:=by simpa using hl
   rw[dA (.inr (.inl (by rw[k];exact hl)))]
   refine⟨2,?_⟩
   simp (disch:=first|assumption|omega) only[S0,rA,rQ,rB,rT,rE,esp,aJ,tH,q1,q2,q3,dl]
 ·have q1:(atI ws 0==[109,111,118,101])=true:=by rw[Iai k];rfl
  by_cases hl:(ws.length:Int)=5
  ·have dl:((ws.length:Int)==5)=true:=by simpa using hl
   have emk:(aO.make 8 [(.int .i64 0)]).run [i64 4]=some [rL (bK (ws.drop 1) 0)]:=by
    have:=mQ.1 (n:=4) (by omega) (by omega)
    rw[this]
    rfl
   have hno:=dA (ws:=ws)
   have hyes:=iL (ws:=ws) k (by decide) hl
   rw[k]at hno
   generalize hxs:ws.drop 1=xs at *
   have hx4:xs.length=4:=by omega
   cases hA0:aT 4 xs
   ·rw[hno (.inr (.inr (.inl hA0)))]
    refine⟨3,?_⟩
    simp (disch:=first|assumption|omega) only[S0,rA,rQ,rB,rT,rE,esp,aJ,tH,q1,dl,emk,esub]
    rw[bV (if aT 4 xs then (.yield 2,[rL (bK xs xs.length)]) else (.ret,[i64 0,i64 0,i64 0,i64 0,i64 0,i64 3,.bool false])) (fun i:Nat=>xs.length-i) (fun i:Nat=>i<=xs.length/\aT 4 (xs.take i)=true) (fun i=>[rL (bK xs i),i64 i]) 0 rfl (by simp[aT]) (by split<;>simp)]
    rotate_left
    ·rintro i ⟨hi,hA⟩
     by_cases hlt:i<xs.length
     ·have d:decide ((i:Int)<(xs.length:Int))=true:=by simpa using hlt
      have hb:InB xs (i:Int):=aP.2 hlt
      have e:=bN (atI xs (i:Int)) (hdr _ (at_mem hlt))
      have l1:=bM (ws:=xs) (i:=i) (by omega) (by omega)
      have l2:=bM (ws:=xs) (i:=i+1) (by omega) (by omega)
      have hb1:InB (bK xs i) (i:Int):=by unfold InB;omega
      have hb2:InB (bK xs (i+1)) (i:Int):=by unfold InB;omega
      have ef:=gF hlt (by omega)
      have ea:atI (bK xs (i+1)) (i:Int)=bP (atI xs (i:Int)) 6:=by rw[<- ef];exact fU.1 hb1
      by_cases h4:4<((atI xs (i:Int)).length:Int)
      ·have d4:decide (4<((atI xs (i:Int)).length:Int))=true:=by simpa using h4
       right
       rw[bE hlt (gG h4)]
       simp only[Qbr,if_false]
       simp (disch:=first|assumption|omega) only[S0,rA,rQ,rB,rT,rE,d,aJ,e,dI,ef,ea,aG,d4]
      ·have d4:decide (4<((atI xs (i:Int)).length:Int))=false:=by simpa using h4
       have e4:=eO (s:=atI xs (i:Int)) (by omega)
       rcases (show bP (atI xs (i:Int)) 6<0\/0<=bP (atI xs (i:Int)) 6 by omega) with h0|h0
       ·have d0:decide (bP (atI xs (i:Int)) 6<0)=true:=by simpa using h0
        right
        rw[bE hlt (by rw[e4];exact h0)]
        simp only[Qbr,if_false]
        simp (disch:=first|assumption|omega) only[S0,rA,rQ,rB,rT,rE,d,aJ,e,dI,ef,ea,aG,d4,d0]
       ·have d0:decide (bP (atI xs (i:Int)) 6<0)=false:=by simp;omega
        refine .inl ⟨i+1,?_,⟨by omega,by rw[dH hlt,hA,e4,decide_eq_true h0];rfl⟩,by omega⟩
        simp (disch:=first|assumption|omega) only[S0,rA,rQ,rB,rT,rE,d,aJ,e,dI,ef,ea,aG,d4,d0]
     ·have d:decide ((i:Int)<(xs.length:Int))=false:=by simpa using hlt
      obtain rfl:i=xs.length:=by omega
      rw[Qbx (Qbw _)]at hA
      right
      rw[hA]
      simp only[if_true]
      simp (disch:=first|assumption|omega) only[S0,rA,rQ,rB,rT,rE,d]
    ·rw[hA0]
     simp only[Qbr,if_false]
     simp (disch:=first|assumption|omega) only[S0,rA,rQ,rB,rT,rE]
   ·have hnl:(numsOf 4 xs).length=4:=by rw[bR];omega
    have hyes:=hyes hA0
    have ecn:Qa4 1 (numsOf 4 xs)=⟨1,atI (numsOf 4 xs) 0,atI (numsOf 4 xs) 1,atI (numsOf 4 xs) 2,atI (numsOf 4 xs) 3⟩:=rfl
    rw[ecn]at hno hyes
    have eg:=lV 1 (atI (numsOf 4 xs) 0) (atI (numsOf 4 xs) 1) (atI (numsOf 4 xs) 2) (atI (numsOf 4 xs) 3)
    have ek:=@Jaa (atI (numsOf 4 xs) 0) (atI (numsOf 4 xs) 1) (atI (numsOf 4 xs) 2) (atI (numsOf 4 xs) 3)
    cases q4:dC ⟨1,atI (numsOf 4 xs) 0,atI (numsOf 4 xs) 1,atI (numsOf 4 xs) 2,atI (numsOf 4 xs) 3⟩
    ·rw[hno (.inr (.inr (.inr q4)))]
     rw[q4]at ek
     refine⟨nP ⟨1,atI (numsOf 4 xs) 0,atI (numsOf 4 xs) 1,atI (numsOf 4 xs) 2,atI (numsOf 4 xs) 3⟩,?_⟩
     simp (disch:=first|assumption|omega) only[S0,rA,rQ,rB,rT,rE,esp,aJ,tH,q1,dl,emk,esub]
     rw[bV (if aT 4 xs then (.yield 2,[rL (bK xs xs.length)]) else (.ret,[i64 0,i64 0,i64 0,i64 0,i64 0,i64 3,.bool false])) (fun i:Nat=>xs.length-i) (fun i:Nat=>i<=xs.length/\aT 4 (xs.take i)=true) (fun i=>[rL (bK xs i),i64 i]) 0 rfl (by simp[aT]) (by split<;>simp)]
     rotate_left
     ·rintro i ⟨hi,hA⟩
      by_cases hlt:i<xs.length
      ·have d:decide ((i:Int)<(xs.length:Int))=true:=by simpa using hlt
       have hb:InB xs (i:Int):=aP.2 hlt
       have e:=bN (atI xs (i:Int)) (hdr _ (at_mem hlt))
       have l1:=bM (ws:=xs) (i:=i) (by omega) (by omega)
       have l2:=bM (ws:=xs) (i:=i+1) (by omega) (by omega)
       have hb1:InB (bK xs i) (i:Int):=by unfold InB;omega
       have hb2:InB (bK xs (i+1)) (i:Int):=by unfold InB;omega
       have ef:=gF hlt (by omega)
       have ea:atI (bK xs (i+1)) (i:Int)=bP (atI xs (i:Int)) 6:=by rw[<- ef];exact fU.1 hb1
       by_cases h4:4<((atI xs (i:Int)).length:Int)
       ·have d4:decide (4<((atI xs (i:Int)).length:Int))=true:=by simpa using h4
        right
        rw[bE hlt (gG h4)]
        simp only[Qbr,if_false]
        simp (disch:=first|assumption|omega) only[S0,rA,rQ,rB,rT,rE,d,aJ,e,dI,ef,ea,aG,d4]
       ·have d4:decide (4<((atI xs (i:Int)).length:Int))=false:=by simpa using h4
        have e4:=eO (s:=atI xs (i:Int)) (by omega)
        rcases (show bP (atI xs (i:Int)) 6<0\/0<=bP (atI xs (i:Int)) 6 by omega) with h0|h0
        ·have d0:decide (bP (atI xs (i:Int)) 6<0)=true:=by simpa using h0
         right
         rw[bE hlt (by rw[e4];exact h0)]
         simp only[Qbr,if_false]
         simp (disch:=first|assumption|omega) only[S0,rA,rQ,rB,rT,rE,d,aJ,e,dI,ef,ea,aG,d4,d0]
        ·have d0:decide (bP (atI xs (i:Int)) 6<0)=false:=by simp;omega
         refine .inl ⟨i+1,?_,⟨by omega,by rw[dH hlt,hA,e4,decide_eq_true h0];rfl⟩,by omega⟩
         simp (disch:=first|assumption|omega) only[S0,rA,rQ,rB,rT,rE,d,aJ,e,dI,ef,ea,aG,d4,d0]
      ·have d:decide ((i:Int)<(xs.length:Int))=false:=by simpa using hlt
       obtain rfl:i=xs.length:=by omega
       rw[Qbx (Qbw _)]at hA
       right
       rw[hA]
       simp only[if_true]
       simp (disch:=first|assumption|omega) only[S0,rA,rQ,rB,rT,rE,d]
     rw[hA0]
     simp only[if_true]
     have efl:bK xs xs.length=numsOf 4 xs:=by
      unfold bK
      rw[Qbx (Qbw _),lI hA0 (by decide),hx4]
      exact Rbm _
     rw[efl]
     generalize numsOf 4 xs=ns at *
     have c0:InB ns 0:=by unfold InB;omega
     have c1:InB ns 1:=by unfold InB;omega
     have c2:InB ns 2:=by unfold InB;omega
     have c3:InB ns 3:=by unfold InB;omega
     simp (disch:=first|assumption|omega) only[S0,rA,rQ,rB,rT,rE,aJ,eg,ek]
    ·rw[hyes q4]
     rw[q4]at ek
     refine⟨0,?_⟩
     simp (disch:=first|assumption|omega) only[S0,rA,rQ,rB,rT,rE,esp,aJ,tH,q1,dl,emk,esub]
     rw[bV (if aT 4 xs then (.yield 2,[rL (bK xs xs.length)]) else (.ret,[i64 0,i64 0,i64 0,i64 0,i64 0,i64 3,.bool false])) (fun i:Nat=>xs.length-i) (fun i:Nat=>i<=xs.length/\aT 4 (xs.take i)=true) (fun i=>[rL (bK xs i),i64 i]) 0 rfl (by simp[aT]) (by split<;>simp)]
     rotate_left
     ·rintro i ⟨hi,hA⟩
      by_cases hlt:i<xs.length
      ·have d:decide ((i:Int)<(xs.length:Int))=true:=by simpa using hlt
       have hb:InB xs (i:Int):=aP.2 hlt
       have e:=bN (atI xs (i:Int)) (hdr _ (at_mem hlt))
       have l1:=bM (ws:=xs) (i:=i) (by omega) (by omega)
       have l2:=bM (ws:=xs) (i:=i+1) (by omega) (by omega)
       have hb1:InB (bK xs i) (i:Int):=by unfold InB;omega
       have hb2:InB (bK xs (i+1)) (i:Int):=by unfold InB;omega
       have ef:=gF hlt (by omega)
       have ea:atI (bK xs (i+1)) (i:Int)=bP (atI xs (i:Int)) 6:=by rw[<- ef];exact fU.1 hb1
       by_cases h4:4<((atI xs (i:Int)).length:Int)
       ·have d4:decide (4<((atI xs (i:Int)).length:Int))=true:=by simpa using h4
        right
        rw[bE hlt (gG h4)]
        simp only[Qbr,if_false]
        simp (disch:=first|assumption|omega) only[S0,rA,rQ,rB,rT,rE,d,aJ,e,dI,ef,ea,aG,d4]
       ·have d4:decide (4<((atI xs (i:Int)).length:Int))=false:=by simpa using h4
        have e4:=eO (s:=atI xs (i:Int)) (by omega)
        rcases (show bP (atI xs (i:Int)) 6<0\/0<=bP (atI xs (i:Int)) 6 by omega) with h0|h0
        ·have d0:decide (bP (atI xs (i:Int)) 6<0)=true:=by simpa using h0
         right
         rw[bE hlt (by rw[e4];exact h0)]
         simp only[Qbr,if_false]
         simp (disch:=first|assumption|omega) only[S0,rA,rQ,rB,rT,rE,d,aJ,e,dI,ef,ea,aG,d4,d0]
        ·have d0:decide (bP (atI xs (i:Int)) 6<0)=false:=by simp;omega
         refine .inl ⟨i+1,?_,⟨by omega,by rw[dH hlt,hA,e4,decide_eq_true h0];rfl⟩,by omega⟩
         simp (disch:=first|assumption|omega) only[S0,rA,rQ,rB,rT,rE,d,aJ,e,dI,ef,ea,aG,d4,d0]
      ·have d:decide ((i:Int)<(xs.length:Int))=false:=by simpa using hlt
       obtain rfl:i=xs.length:=by omega
       rw[Qbx (Qbw _)]at hA
       right
       rw[hA]
       simp only[if_true]
       simp (disch:=first|assumption|omega) only[S0,rA,rQ,rB,rT,rE,d]
     rw[hA0]
     simp only[if_true]
     have efl:bK xs xs.length=numsOf 4 xs:=by
      unfold bK
      rw[Qbx (Qbw _),lI hA0 (by decide),hx4]
      exact Rbm _
     rw[efl]
     generalize numsOf 4 xs=ns at *
     have c0:InB ns 0:=by unfold InB;omega
     have c1:InB ns 1:=by unfold InB;omega
     have c2:InB ns 2:=by unfold InB;omega
     have c3:InB ns 3:=by unfold InB;omega
     simp (disch:=first|assumption|omega) only[S0,rA,rQ,rB,rT,rE,aJ,eg,ek]
  ·have dl:((ws.length:Int)==5)=false:=by simpa using hl
   rw[dA (.inr (.inl (by rw[k];exact hl)))]
   refine⟨2,?_⟩
   simp (disch:=first|assumption|omega) only[S0,rA,rQ,rB,rT,rE,esp,aJ,tH,q1,dl]
 ·have q1:(atI ws 0==[109,111,118,101])=false:=by rw[zH k];rfl
  have q2:(atI ws 0==[114,101,97,100])=true:=by rw[zH k];rfl
  by_cases hl:(ws.length:Int)=3
  ·have dl:((ws.length:Int)==3)=true:=by simpa using hl
   have emk:(aO.make 8 [(.int .i64 0)]).run [i64 4]=some [rL (bK (ws.drop 1) 0)]:=by
    have:=mQ.1 (n:=4) (by omega) (by omega)
    rw[this]
    rfl
   have hno:=dA (ws:=ws)
   have hyes:=iL (ws:=ws) k (by decide) hl
   rw[k]at hno
   generalize hxs:ws.drop 1=xs at *
   have hx4:xs.length=2:=by omega
   cases hA0:aT 4 xs
   ·rw[hno (.inr (.inr (.inl hA0)))]
    refine⟨3,?_⟩
    simp (disch:=first|assumption|omega) only[S0,rA,rQ,rB,rT,rE,esp,aJ,tH,q1,q2,dl,emk,esub]
    rw[bV (if aT 4 xs then (.yield 2,[rL (bK xs xs.length)]) else (.ret,[i64 0,i64 0,i64 0,i64 0,i64 0,i64 3,.bool false])) (fun i:Nat=>xs.length-i) (fun i:Nat=>i<=xs.length/\aT 4 (xs.take i)=true) (fun i=>[rL (bK xs i),i64 i]) 0 rfl (by simp[aT]) (by split<;>simp)]
    rotate_left
    ·rintro i ⟨hi,hA⟩
     by_cases hlt:i<xs.length
     ·have d:decide ((i:Int)<(xs.length:Int))=true:=by simpa using hlt
      have hb:InB xs (i:Int):=aP.2 hlt
      have e:=bN (atI xs (i:Int)) (hdr _ (at_mem hlt))
      have l1:=bM (ws:=xs) (i:=i) (by omega) (by omega)
      have l2:=bM (ws:=xs) (i:=i+1) (by omega) (by omega)
      have hb1:InB (bK xs i) (i:Int):=by unfold InB;omega
      have hb2:InB (bK xs (i+1)) (i:Int):=by unfold InB;omega
      have ef:=gF hlt (by omega)
      have ea:atI (bK xs (i+1)) (i:Int)=bP (atI xs (i:Int)) 6:=by rw[<- ef];exact fU.1 hb1
      by_cases h4:4<((atI xs (i:Int)).length:Int)
      ·have d4:decide (4<((atI xs (i:Int)).length:Int))=true:=by simpa using h4
       right
       rw[bE hlt (gG h4)]
       simp only[Qbr,if_false]
       simp (disch:=first|assumption|omega) only[S0,rA,rQ,rB,rT,rE,d,aJ,e,dI,ef,ea,aG,d4]
      ·have d4:decide (4<((atI xs (i:Int)).length:Int))=false:=by simpa using h4
       have e4:=eO (s:=atI xs (i:Int)) (by omega)
       rcases (show bP (atI xs (i:Int)) 6<0\/0<=bP (atI xs (i:Int)) 6 by omega) with h0|h0
       ·have d0:decide (bP (atI xs (i:Int)) 6<0)=true:=by simpa using h0
        right
        rw[bE hlt (by rw[e4];exact h0)]
        simp only[Qbr,if_false]
        simp (disch:=first|assumption|omega) only[S0,rA,rQ,rB,rT,rE,d,aJ,e,dI,ef,ea,aG,d4,d0]
       ·have d0:decide (bP (atI xs (i:Int)) 6<0)=false:=by simp;omega
        refine .inl ⟨i+1,?_,⟨by omega,by rw[dH hlt,hA,e4,decide_eq_true h0];rfl⟩,by omega⟩
        simp (disch:=first|assumption|omega) only[S0,rA,rQ,rB,rT,rE,d,aJ,e,dI,ef,ea,aG,d4,d0]
     ·have d:decide ((i:Int)<(xs.length:Int))=false:=by simpa using hlt
      obtain rfl:i=xs.length:=by omega
      rw[Qbx (Qbw _)]at hA
      right
      rw[hA]
      simp only[if_true]
      simp (disch:=first|assumption|omega) only[S0,rA,rQ,rB,rT,rE,d]
    ·rw[hA0]
     simp only[Qbr,if_false]
     simp (disch:=first|assumption|omega) only[S0,rA,rQ,rB,rT,rE]
   ·have hnl:(numsOf 4 xs).length=2:=by rw[bR];omega
    have hyes:=hyes hA0
    have ecn:Qa4 2 (numsOf 4 xs)=⟨2,atI (numsOf 4 xs) 0,atI (numsOf 4 xs) 1,0,0⟩:=rfl
    rw[ecn]at hno hyes
    have eg:=lV 2 (atI (numsOf 4 xs) 0) (atI (numsOf 4 xs) 1) (0) (0)
    have ek:=@Ia9 (atI (numsOf 4 xs) 0) (atI (numsOf 4 xs) 1)
    cases q4:dC ⟨2,atI (numsOf 4 xs) 0,atI (numsOf 4 xs) 1,0,0⟩
    ·rw[hno (.inr (.inr (.inr q4)))]
     rw[q4]at ek
     refine⟨nP ⟨2,atI (numsOf 4 xs) 0,atI (numsOf 4 xs) 1,0,0⟩,?_⟩
     simp (disch:=first|assumption|omega) only[S0,rA,rQ,rB,rT,rE,esp,aJ,tH,q1,q2,dl,emk,esub]
     rw[bV (if aT 4 xs then (.yield 2,[rL (bK xs xs.length)]) else (.ret,[i64 0,i64 0,i64 0,i64 0,i64 0,i64 3,.bool false])) (fun i:Nat=>xs.length-i) (fun i:Nat=>i<=xs.length/\aT 4 (xs.take i)=true) (fun i=>[rL (bK xs i),i64 i]) 0 rfl (by simp[aT]) (by split<;>simp)]
     rotate_left
     ·rintro i ⟨hi,hA⟩
      by_cases hlt:i<xs.length
      ·have d:decide ((i:Int)<(xs.length:Int))=true:=by simpa using hlt
       have hb:InB xs (i:Int):=aP.2 hlt
       have e:=bN (atI xs (i:Int)) (hdr _ (at_mem hlt))
       have l1:=bM (ws:=xs) (i:=i) (by omega) (by omega)
       have l2:=bM (ws:=xs) (i:=i+1) (by omega) (by omega)
       have hb1:InB (bK xs i) (i:Int):=by unfold InB;omega
       have hb2:InB (bK xs (i+1)) (i:Int):=by unfold InB;omega
       have ef:=gF hlt (by omega)
       have ea:atI (bK xs (i+1)) (i:Int)=bP (atI xs (i:Int)) 6:=by rw[<- ef];exact fU.1 hb1
       by_cases h4:4<((atI xs (i:Int)).length:Int)
       ·have d4:decide (4<((atI xs (i:Int)).length:Int))=true:=by simpa using h4
        right
        rw[bE hlt (gG h4)]
        simp only[Qbr,if_false]
        simp (disch:=first|assumption|omega) only[S0,rA,rQ,rB,rT,rE,d,aJ,e,dI,ef,ea,aG,d4]
       ·have d4:decide (4<((atI xs (i:Int)).length:Int))=false:=by simpa using h4
        have e4:=eO (s:=atI xs (i:Int)) (by omega)
        rcases (show bP (atI xs (i:Int)) 6<0\/0<=bP (atI xs (i:Int)) 6 by omega) with h0|h0
        ·have d0:decide (bP (atI xs (i:Int)) 6<0)=true:=by simpa using h0
         right
         rw[bE hlt (by rw[e4];exact h0)]
         simp only[Qbr,if_false]
         simp (disch:=first|assumption|omega) only[S0,rA,rQ,rB,rT,rE,d,aJ,e,dI,ef,ea,aG,d4,d0]
        ·have d0:decide (bP (atI xs (i:Int)) 6<0)=false:=by simp;omega
         refine .inl ⟨i+1,?_,⟨by omega,by rw[dH hlt,hA,e4,decide_eq_true h0];rfl⟩,by omega⟩
         simp (disch:=first|assumption|omega) only[S0,rA,rQ,rB,rT,rE,d,aJ,e,dI,ef,ea,aG,d4,d0]
      ·have d:decide ((i:Int)<(xs.length:Int))=false:=by simpa using hlt
       obtain rfl:i=xs.length:=by omega
       rw[Qbx (Qbw _)]at hA
       right
       rw[hA]
       simp only[if_true]
       simp (disch:=first|assumption|omega) only[S0,rA,rQ,rB,rT,rE,d]
     rw[hA0]
     simp only[if_true]
     have efl:bK xs xs.length=numsOf 4 xs++[0,0]:=by
      unfold bK
      rw[Qbx (Qbw _),lI hA0 (by decide),hx4]
      rfl
     rw[efl]
     generalize numsOf 4 xs=ns at *
     have g0:InB (ns++[0,0]) 0:=by unfold InB;simp;omega
     have g1:InB (ns++[0,0]) 1:=by unfold InB;simp;omega
     have g2:InB (ns++[0,0]) 2:=by unfold InB;simp;omega
     have g3:InB (ns++[0,0]) 3:=by unfold InB;simp;omega
     have y0:atI (ns++[0,0]) 0=atI ns 0:=by obtain⟨a,b,rfl⟩:=zD hnl;rfl
     have y1:atI (ns++[0,0]) 1=atI ns 1:=by obtain⟨a,b,rfl⟩:=zD hnl;rfl
     have y2:atI (ns++[0,0]) 2=0:=by obtain⟨a,b,rfl⟩:=zD hnl;rfl
     have y3:atI (ns++[0,0]) 3=0:=by obtain⟨a,b,rfl⟩:=zD hnl;rfl
     simp (disch:=first|assumption|omega) only[S0,rA,rQ,rB,rT,rE,aJ,y0,y1,y2,y3,eg,ek]
    ·rw[hyes q4]
     rw[q4]at ek
     refine⟨0,?_⟩
     simp (disch:=first|assumption|omega) only[S0,rA,rQ,rB,rT,rE,esp,aJ,tH,q1,q2,dl,emk,esub]
     rw[bV (if aT 4 xs then (.yield 2,[rL (bK xs xs.length)]) else (.ret,[i64 0,i64 0,i64 0,i64 0,i64 0,i64 3,.bool false])) (fun i:Nat=>xs.length-i) (fun i:Nat=>i<=xs.length/\aT 4 (xs.take i)=true) (fun i=>[rL (bK xs i),i64 i]) 0 rfl (by simp[aT]) (by split<;>simp)]
     rotate_left
     ·rintro i ⟨hi,hA⟩
      by_cases hlt:i<xs.length
      ·have d:decide ((i:Int)<(xs.length:Int))=true:=by simpa using hlt
       have hb:InB xs (i:Int):=aP.2 hlt
       have e:=bN (atI xs (i:Int)) (hdr _ (at_mem hlt))
       have l1:=bM (ws:=xs) (i:=i) (by omega) (by omega)
       have l2:=bM (ws:=xs) (i:=i+1) (by omega) (by omega)
       have hb1:InB (bK xs i) (i:Int):=by unfold InB;omega
       have hb2:InB (bK xs (i+1)) (i:Int):=by unfold InB;omega
       have ef:=gF hlt (by omega)
       have ea:atI (bK xs (i+1)) (i:Int)=bP (atI xs (i:Int)) 6:=by rw[<- ef];exact fU.1 hb1
       by_cases h4:4<((atI xs (i:Int)).length:Int)
       ·have d4:decide (4<((atI xs (i:Int)).length:Int))=true:=by simpa using h4
        right
        rw[bE hlt (gG h4)]
        simp only[Qbr,if_false]
        simp (disch:=first|assumption|omega) only[S0,rA,rQ,rB,rT,rE,d,aJ,e,dI,ef,ea,aG,d4]
       ·have d4:decide (4<((atI xs (i:Int)).length:Int))=false:=by simpa using h4
        have e4:=eO (s:=atI xs (i:Int)) (by omega)
        rcases (show bP (atI xs (i:Int)) 6<0\/0<=bP (atI xs (i:Int)) 6 by omega) with h0|h0
        ·have d0:decide (bP (atI xs (i:Int)) 6<0)=true:=by simpa using h0
         right
         rw[bE hlt (by rw[e4];exact h0)]
         simp only[Qbr,if_false]
         simp (disch:=first|assumption|omega) only[S0,rA,rQ,rB,rT,rE,d,aJ,e,dI,ef,ea,aG,d4,d0]
        ·have d0:decide (bP (atI xs (i:Int)) 6<0)=false:=by simp;omega
         refine .inl ⟨i+1,?_,⟨by omega,by rw[dH hlt,hA,e4,decide_eq_true h0];rfl⟩,by omega⟩
         simp (disch:=first|assumption|omega) only[S0,rA,rQ,rB,rT,rE,d,aJ,e,dI,ef,ea,aG,d4,d0]
      ·have d:decide ((i:Int)<(xs.length:Int))=false:=by simpa using hlt
       obtain rfl:i=xs.length:=by omega
       rw[Qbx (Qbw _)]at hA
       right
       rw[hA]
       simp only[if_true]
       simp (disch:=first|assumption|omega) only[S0,rA,rQ,rB,rT,rE,d]
     rw[hA0]
     simp only[if_true]
     have efl:bK xs xs.length=numsOf 4 xs++[0,0]:=by
      unfold bK
      rw[Qbx (Qbw _),lI hA0 (by decide),hx4]
      rfl
     rw[efl]
     generalize numsOf 4 xs=ns at *
     have g0:InB (ns++[0,0]) 0:=by unfold InB;simp;omega
     have g1:InB (ns++[0,0]) 1:=by unfold InB;simp;omega
     have g2:InB (ns++[0,0]) 2:=by unfold InB;simp;omega
     have g3:InB (ns++[0,0]) 3:=by unfold InB;simp;omega
     have y0:atI (ns++[0,0]) 0=atI ns 0:=by obtain⟨a,b,rfl⟩:=zD hnl;rfl
     have y1:atI (ns++[0,0]) 1=atI ns 1:=by obtain⟨a,b,rfl⟩:=zD hnl;rfl
     have y2:atI (ns++[0,0]) 2=0:=by obtain⟨a,b,rfl⟩:=zD hnl;rfl
     have y3:atI (ns++[0,0]) 3=0:=by obtain⟨a,b,rfl⟩:=zD hnl;rfl
     simp (disch:=first|assumption|omega) only[S0,rA,rQ,rB,rT,rE,aJ,y0,y1,y2,y3,eg,ek]
  ·have dl:((ws.length:Int)==3)=false:=by simpa using hl
   rw[dA (.inr (.inl (by rw[k];exact hl)))]
   refine⟨2,?_⟩
   simp (disch:=first|assumption|omega) only[S0,rA,rQ,rB,rT,rE,esp,aJ,tH,q1,q2,dl]
 ·obtain⟨q3,q1,q2⟩:=Pa3 k
  rw[dA (.inl (by rw[k];decide))]
  refine⟨1,?_⟩
  simp (disch:=first|assumption|omega) only[S0,rA,rQ,rB,rT,rE,esp,aJ,tH,q1,q2,q3]
theorem Bav (s:List UInt8)(b:UInt8)(h:b∉s):Fun T 76 [.str s,.str [b]]=some [.str s,.str [],.bool false]:=by
 rw[aK (t:=Xan) rfl];unfold Xan
 have e:=oG s b
 rw[Saq h]at e
 have d:decide ((0:Int)<=-1)=false:=rfl
 simp (disch:=first|assumption|omega) only[S0,rA,rQ,rB,rT,rE,e,d]
theorem Baw (p t:List UInt8)(b:UInt8)(h:b∉p)(hpl:p.length<=1000000000):Fun T 76 [.str (p++b::t),.str [b]]=some [.str p,.str t,.bool true]:=by
 rw[aK (t:=Xan) rfl];unfold Xan
 have e:=oG (p++b::t) b
 rw[Za5 t h]at e
 have d:decide ((0:Int)<=(p.length:Int))=true:=by simp
 have hl:(p++b::t).length=p.length+t.length+1:=by simp;omega
 have e1:aO.slen.run [.str [b]]=some [i64 1]:=rfl
 generalize hs:p++b::t=s at *
 have es1:=dX (s:=s) (lo:=0) (hi:=(p.length:Int)) (by omega) (by omega) (by omega)
 have es2:=dX (s:=s) (lo:=(p.length:Int)+1) (hi:=(s.length:Int)) (by omega) (by omega) (by omega)
 have et1:(s.take (p.length:Int).toNat).drop (0:Int).toNat=p:=by
  rw[Rbd,<- hs];simp
 have et2:(s.take (s.length:Int).toNat).drop ((p.length:Int)+1).toNat=t:=by
  rw[Rbd,Qbx (Qbw _),show ((p.length:Int)+1).toNat=p.length+1 by omega,<- hs]
  rw[List.drop_append]
  simp
 rw[et1]at es1
 rw[et2]at es2
 simp (disch:=first|assumption|omega) only[S0,rA,rQ,rB,rT,rE,e,d,es1,e1,aG,es2]
theorem uE (s:List UInt8)(b:UInt8)(h:b∉s):Fun T 75 [.str s,.str [b]]=some [.str s,.str [],.bool false]:=by
 rw[aK (t:=Xao) rfl];unfold Xao
 simp (disch:=first|assumption|omega) only[S0,rA,rQ,rB,rT,rE,Bav]
theorem uF (p t:List UInt8)(b:UInt8)(h:b∉p)(hpl:p.length<=1000000000):Fun T 75 [.str (p++b::t),.str [b]]=some [.str p,.str t,.bool true]:=by
 rw[aK (t:=Xao) rfl];unfold Xao
 simp (disch:=first|assumption|omega) only[S0,rA,rQ,rB,rT,rE,Baw]
theorem wX (n:Int)(s:List UInt8)(hs:s.length<=1000000000):Fun T 74 [i64 n,.str s]=some [i64 (fH n s).1.seq,rL (fH n s).1.deps,.bool (fH n s).2]:=by
 rw[aK (t:=Cbg) rfl];unfold Cbg
 by_cases hm:(58:UInt8)∈s
 ·obtain⟨p,t,hst,hp,_⟩:=Iaj hm
  rw[Rad hst hp]
  have hsl:s.length=p.length+t.length+1:=by rw[hst];simp;omega
  have ec:=uF p t 58 hp (by omega)
  rw[<- hst]at ec
  have ed:=lX p 3 (by decide) (by decide) (by omega)
  have esp:=strings_Split t 44 (by omega)
  have htm:∀ w∈splitB 44 t,w.length<=1000000000:=fun w hw=>by have:=(dB hw).2;omega
  have htl:(splitB 44 t).length<=1000000001:=by
   rw[gZ]
   have:t.count 44<=t.length:=Sbe
   omega
  have en:=iF (splitB 44 t) 1 (by decide) (by decide) htm htl
  have eg:=nM n (bP p 3) (numsOf 1 (splitB 44 t)) (by rw[bR];omega)
  cases hA:aT 1 (splitB 44 t)
  ·have hN:=uM hA
   simp only[Rbr,Sbw,if_true]
   simp (disch:=first|assumption|omega) only[S0,rA,rQ,rB,rT,rE,ec,ed,esp,en,hN]
   rfl
  ·have hN:=lS hA
   cases d4:decide (40<(s.length:Int))
   ·cases hG:bD n&&fC n ⟨bP p 3,numsOf 1 (splitB 44 t)⟩
    ·simp only[Rbl,Rbr,Sb3,if_true]
     simp (disch:=first|assumption|omega) only[S0,rA,rQ,rB,rT,rE,ec,ed,esp,en,hN,aG,d4,eg,hG]
     rfl
    ·simp only[Rbl,Tba,Qbr,if_false]
     simp (disch:=first|assumption|omega) only[S0,rA,rQ,rB,rT,rE,ec,ed,esp,en,hN,aG,d4,eg,hG]
   ·simp only[Rbl,Sb3,Sbw,if_true]
    simp (disch:=first|assumption|omega) only[S0,rA,rQ,rB,rT,rE,ec,ed,esp,en,hN,aG,d4]
    rfl
 ·rw[Lam hm]
  have ec:=uE s 58 hm
  have ed:=lX s 3 (by decide) (by decide) hs
  have esp:Fun T 58 [.str [],.str [44]]=some [rL [[]]]:=strings_Split [] 44 (by simp)
  have en:=iF [[]] 1 (by decide) (by decide) (by simp) (by simp)
  have hN:Bbu 1 [[]]=([],false):=rfl
  simp (disch:=first|assumption|omega) only[S0,rA,rQ,rB,rT,rE,ec,ed,esp,en,hN]
  rfl
theorem wG (n s:Int)(xs:List Int)(hx:xs.length<=1099511627776):Fun T 93 [i64 n,i64 s,rL xs]=some [.bool (bD n&&fC n ⟨s,xs⟩)]:=by
 rw[aK (t:=Ib2) rfl];unfold Ib2
 (refine aH ?_;repeat' (refine aI ?_ ?_<;>intro _<;>try simp (disch:=first|assumption|omega) only[S0,rA,rQ,rB,rT,rE,aZ,rJ, *]))
theorem wF (n:Int)(s:List UInt8)(hs:s.length<=1000000000):Fun T 92 [i64 n,.str s]=some [i64 (fH n s).1.seq,rL (fH n s).1.deps,.bool (fH n s).2]:=by
 rw[aK (t:=Bb4) rfl];unfold Bb4
 have esp:Fun T 89 [.str s,.int .u8 58]=some [rL (splitB 58 s)]:=fK s 58 hs
 have hsm:∀ w∈splitB 58 s,w.length<=s.length:=fun w hw=>(dB hw).2
 unfold fH Da9
 generalize splitB 58 s=ps at *
 cases d4:decide (40<(s.length:Int))
 rotate_left
 ·simp only[Sbw,if_true]
  simp (disch:=first|assumption|omega) only[S0,rA,rQ,rB,rT,rE,esp,aG,d4]
  rfl
 cases d2:(ps.length:Int)==2
 ·simp only[Rbr,Sb3,Sbw,if_true]
  simp (disch:=first|assumption|omega) only[S0,rA,rQ,rB,rT,rE,esp,aG,d4,d2]
  rfl
 ·have hl2:(ps.length:Int)=2:=by simpa using d2
  have b0:InB ps 0:=by unfold InB;omega
  have b1:InB ps 1:=by unfold InB;omega
  have m0:=hsm _ (dG b0)
  have m1:=hsm _ (dG b1)
  have er:=bN (atI ps 0) (by omega)
  have esp2:Fun T 89 [.str (atI ps 1),.int .u8 44]=some [rL (splitB 44 (atI ps 1))]:=fK (atI ps 1) 44 (by omega)
  have htm:∀ w∈splitB 44 (atI ps 1),w.length<=1000000000:=fun w hw=>by have:=(dB hw).2;omega
  have htl:(splitB 44 (atI ps 1)).length<=1000000001:=by
   rw[gZ]
   have:(atI ps 1).count 44<=(atI ps 1).length:=Sbe
   omega
  simp (disch:=first|assumption|omega) only[S0,rA,rQ,rB,rT,rE,esp,aG,d4,d2,aJ,er,esp2]
  generalize splitB 44 (atI ps 1)=ws at *
  rw[bV (.yield 1,[rL (numsOf 6 ws)]) (fun i:Nat=>ws.length-i) (fun i:Nat=>i<=ws.length) (fun i=>[i64 i,rL (numsOf 6 (ws.take i))]) 0 rfl (by simp) (by simp)]
  rotate_left
  ·intro i hi
   by_cases hlt:i<ws.length
   ·have d:decide ((i:Int)<(ws.length:Int))=true:=by simpa using hlt
    have hb:InB ws (i:Int):=aP.2 hlt
    have e:=bN (atI ws (i:Int)) (htm _ (at_mem hlt))
    have z:(numsOf 6 (ws.take i)).length+([bP (atI ws (i:Int)) 6]:List Int).length<=100000000000:=by rw[bR,Qb9];simp only[Qbt,Qbu];omega
    have e3:=(lW (m:=6) hlt).symm
    refine .inl ⟨i+1,?_,by omega,by omega⟩
    simp (disch:=first|assumption|omega) only[S0,rA,rQ,rB,rT,rE,d,aJ,e,iZ,iQ,e3]
   ·have d:decide ((i:Int)<(ws.length:Int))=false:=by simpa using hlt
    obtain rfl:i=ws.length:=by omega
    right
    rw[Qbx (Qbw _)]
    simp (disch:=first|assumption|omega) only[S0,rA,rQ,rB,rT,rE,d]
  ·have eg:=wG n (bP (atI ps 0) 6) (numsOf 6 ws) (by rw[bR];omega)
   cases hG:bD n&&fC n ⟨bP (atI ps 0) 6,numsOf 6 ws⟩
   ·simp only[Rbl,Rbr,Sb3,if_true]
    simp (disch:=first|assumption|omega) only[S0,rA,rQ,rB,rT,rE,eg,hG]
    rfl
   ·simp only[Rbl,Tba,Qbr,if_false]
    simp (disch:=first|assumption|omega) only[S0,rA,rQ,rB,rT,rE,eg,hG]
theorem Eau:∀ n:Nat,n<=1000000->Fun T 53 [i64 n]=some [.str (Jax n)]:=by
 intro n
 induction n using Nat.strongRecOn with
 | _ n ih =>
  intro hn
  have hdig:∀ k:Nat,k<10->(aO.conv .u8).run [i64 (48+(k:Int))]=some [.int .u8 (48+(k:Int))]/\aO.bstr.run [.rows 1 [[.int .u8 (48+(k:Int))]]]=some [.str [UInt8.ofNat (48+k)]]:=by
   intro k hk
   constructor
   ·show some [D.int .u8 (IntKind.u8.wrap (48+(k:Int)))]=_
    have:IntKind.u8.wrap (48+(k:Int))=48+(k:Int):=by simp[IntKind.wrap,IntKind.bits,IntKind.signed];omega
    rw[this]
   ·show some [D.str [UInt8.ofNat (48+(k:Int)).toNat]]=_
    rw[show (48+(k:Int)).toNat=48+k by omega]
  have hmk:∀ x:Int,(aO.mk 1 1).run [.int .u8 x]=some [.rows 1 [[.int .u8 x]]]:=fun _=>rfl
  rw[aK (t:=Mbx) rfl];unfold Mbx
  by_cases h:n<10
  ·have d:decide ((n:Int)<10)=true:=by simp;omega
   obtain⟨e1,e2⟩:=hdig n h
   rw[rU h]
   simp (disch:=first|assumption|omega) only[S0,rA,rQ,rB,rT,rE,d,e1,hmk,e2]
  ·have d:decide ((n:Int)<10)=false:=by simp;omega
   have eq:(aO.bin .quo).run [i64 n,i64 10]=some [i64 ((n / 10:Nat):Int)]:=by
    show (if (10:Int)=0 then none else some (D.int .i64 (IntKind.i64.wrap ((n:Int).tdiv 10)))).map (fun d=>[d])=_
    rw[if_neg (by decide)]
    have:(n:Int).tdiv 10=((n / 10:Nat):Int):=by rw[Sbm (by omega)];omega
    rw[this,wrap_i64 (by omega) (by omega)]
    rfl
   have em:(aO.bin .rem).run [i64 n,i64 10]=some [i64 ((n % 10:Nat):Int)]:=by
    show (if (10:Int)=0 then none else some (D.int .i64 ((n:Int).tmod 10))).map (fun d=>[d])=_
    rw[if_neg (by decide)]
    have:(n:Int).tmod 10=((n % 10:Nat):Int):=by rw[Rb2 (by omega)];omega
    rw[this]
    rfl
   have ei:=ih (n / 10) (by omega) (by omega)
   obtain⟨e1,e2⟩:=hdig (n % 10) (by omega)
   have hl:=Nab (n / 10)
   have ea:=bS (a:=Jax (n / 10)) (b:=[UInt8.ofNat (48+n % 10)]) (by simp only[Qbt,Qbu];omega)
   rw[wQ (by omega)]
   simp (disch:=first|assumption|omega) only[S0,rA,rQ,rB,rT,rE,d,eq,em,ei,e1,hmk,e2,ea]
theorem dK (n:Int)(h0:0<=n)(h1:n<=9999):Fun T 53 [i64 n]=some [.str (aX n)]:=by
 have:=Eau n.toNat (by omega)
 rw[show ((n.toNat:Nat):Int)=n by omega]at this
 exact this
theorem Bar (k i f t a:Int)(h:dC ⟨k,i,f,t,a⟩=true):Fun T 54 [i64 k,i64 i,i64 f,i64 t,i64 a]=some [.str (pG ⟨k,i,f,t,a⟩)]:=by
 rw[aK (t:=Ib5) rfl];unfold Ib5
 have hr:=nO h
 simp only at hr
 obtain⟨⟨i0,i1⟩,⟨f0,f1⟩,⟨t0,t1⟩,a0,a1⟩:=hr
 have li:=bC i1
 have lf:=bC f1
 have lt:=bC t1
 have la:=bC a1
 have ni:=dK i i0 i1
 have nf:=dK f f0 f1
 have nt:=dK t t0 t1
 have na:=dK a a0 a1
 have hk:=vQ h
 simp only at hk
 unfold pG
 rcases hk with rfl|rfl|rfl
 ·simp (disch:=first|assumption|omega) only[S0,rA,rQ,rB,rT,rE]
 ·have g1:=bS (a:=[109,111,118,101,32]) (b:=aX i) (by simp only[Qbt,Qbu];omega)
  have g2:=bS (a:=[109,111,118,101,32]++aX i) (b:=[32]) (by simp only[Qbs,Qbt,Qbu];omega)
  have g3:=bS (a:=[109,111,118,101,32]++aX i++[32]) (b:=aX f) (by simp only[Qbs,Qbt,Qbu];omega)
  have g4:=bS (a:=[109,111,118,101,32]++aX i++[32]++aX f) (b:=[32]) (by simp only[Qbs,Qbt,Qbu];omega)
  have g5:=bS (a:=[109,111,118,101,32]++aX i++[32]++aX f++[32]) (b:=aX t) (by simp only[Qbs,Qbt,Qbu];omega)
  have g6:=bS (a:=[109,111,118,101,32]++aX i++[32]++aX f++[32]++aX t) (b:=[32]) (by simp only[Qbs,Qbt,Qbu];omega)
  have g7:=bS (a:=[109,111,118,101,32]++aX i++[32]++aX f++[32]++aX t++[32]) (b:=aX a) (by simp only[Qbs,Qbt,Qbu];omega)
  simp (disch:=first|assumption|omega) only[S0,rA,rQ,rB,rT,rE,ni,nf,nt,na,g1,g2,g3,g4,g5,g6,g7]
 ·have g1:=bS (a:=[114,101,97,100,32]) (b:=aX i) (by simp only[Qbt,Qbu];omega)
  have g2:=bS (a:=[114,101,97,100,32]++aX i) (b:=[32]) (by simp only[Qbs,Qbt,Qbu];omega)
  have g3:=bS (a:=[114,101,97,100,32]++aX i++[32]) (b:=aX f) (by simp only[Qbs,Qbt,Qbu];omega)
  simp (disch:=first|assumption|omega) only[S0,rA,rQ,rB,rT,rE,ni,nf,g1,g2,g3]
theorem Baq (xs:List Int)(hr:∀ x∈xs,0<=x/\x<=9999)(hx:xs.length<=1000):Fun T 56 [rL xs]=some [.str (bH 44 (xs.map aX))]:=by
 rw[aK (t:=Mbv) rfl];unfold Mbv
 simp (disch:=first|assumption|omega) only[S0,rA,rQ,rB,rT,rE]
 have hj:∀ i:Nat,i<=xs.length->(bH 44 ((xs.take i).map aX)).length<=10010000:=by
  intro i hi
  have:=lK (b:=44) (ws:=(xs.take i).map aX) (by
   intro w hw
   obtain⟨x,h1,rfl⟩:=List.mem_map.1 hw
   exact bC (hr x (Sb0 h1)).2)
  rw[Rbf,Qb9]at this
  omega
 rw[bV (.yield 1,[.str (bH 44 (xs.map aX))]) (fun i:Nat=>xs.length-i) (fun i:Nat=>i<=xs.length) (fun i=>[.str (bH 44 ((xs.take i).map aX)),i64 i]) 0 rfl (by simp) (by simp)]
 rotate_left
 ·intro i hi
  by_cases hlt:i<xs.length
  ·have d:decide ((i:Int)<(xs.length:Int))=true:=by simpa using hlt
   have hb:InB xs (i:Int):=aP.2 hlt
   have hm:=hr _ (at_mem hlt)
   have e:=dK (atI xs (i:Int)) hm.1 hm.2
   have l1:=bC hm.2
   have l2:=hj i hi
   refine .inl ⟨i+1,?_,by omega,by omega⟩
   by_cases h0:0<i
   ·have d0:decide ((0:Int)<(i:Int))=true:=by simpa using h0
    have g1:=bS (a:=bH 44 ((xs.take i).map aX)) (b:=[44]) (by simp only[Qbt,Qbu];omega)
    have g2:=bS (a:=bH 44 ((xs.take i).map aX)++[44]) (b:=aX (atI xs (i:Int))) (by simp only[Qbs,Qbt,Qbu];omega)
    have e3:bH 44 ((xs.take i).map aX)++[44]++aX (atI xs (i:Int))=bH 44 ((xs.take (i+1)).map aX):=by
     rw[<- take_at hlt,List.map_append]
     refine (Ea9 ?_).symm
     intro hn
     have:=congrArg List.length hn
     simp only[Rbf,Qb9,Qbu]at this
     omega
    simp (disch:=first|assumption|omega) only[S0,rA,rQ,rB,rT,rE,d,aJ,e,d0,g1,g2,e3]
   ·obtain rfl:i=0:=by omega
    have d0:decide ((0:Int)<((0:Nat):Int))=false:=rfl
    have g2:=bS (a:=bH 44 ((xs.take 0).map aX)) (b:=aX (atI xs ((0:Nat):Int))) (by omega)
    have e3:bH 44 ((xs.take 0).map aX)++aX (atI xs ((0:Nat):Int))=bH 44 ((xs.take (0+1)).map aX):=by
     rw[<- take_at hlt]
     simp[bH]
    simp (disch:=first|assumption|omega) only[S0,rA,rQ,rB,rT,rE,d,aJ,e,d0,g2,e3]
  ·have d:decide ((i:Int)<(xs.length:Int))=false:=by simpa using hlt
   obtain rfl:i=xs.length:=by omega
   right
   rw[Qbx (Qbw _)]
   simp (disch:=first|assumption|omega) only[S0,rA,rQ,rB,rT,rE,d]
 ·simp (disch:=first|assumption|omega) only[S0,rA,rQ,rB,rT,rE]
theorem Bap (sq:Int)(xs:List Int)(h0:0<=sq)(h1:sq<=9999)(hr:∀ x∈xs,0<=x/\x<=9999)(hx:xs.length<=1000):Fun T 55 [i64 sq,rL xs]=some [.str (gL ⟨sq,xs⟩)]/\(gL ⟨sq,xs⟩).length<=20000000:=by
 have l1:=bC h1
 have l2:(bH 44 (xs.map aX)).length<=10001*xs.length:=by
  have:=lK (b:=44) (ws:=xs.map aX) (by
   intro w hw
   obtain⟨x,h1,rfl⟩:=List.mem_map.1 hw
   exact bC (hr x h1).2)
  rwa[Rbf]at this
 refine⟨?_,by simp only[gL,Qbs,Qbt];omega⟩
 rw[aK (t:=Mbw) rfl];unfold Mbw
 have e:=dK sq h0 h1
 have e2:=Baq xs hr hx
 have g1:=bS (a:=aX sq) (b:=[58]) (by simp only[Qbt,Qbu];omega)
 have g2:=bS (a:=aX sq++[58]) (b:=bH 44 (xs.map aX)) (by simp only[Qbs,Qbt,Qbu];omega)
 have e3:aX sq++[58]++bH 44 (xs.map aX)=gL ⟨sq,xs⟩:=by simp[gL]
 simp (disch:=first|assumption|omega) only[S0,rA,rQ,rB,rT,rE,e,g1,e2,g2,e3]
theorem rO (rep no bal vot sta k i f t a sq:Int)(xs:List Int)(h0:0<=rep/\rep<=9999)(hn:∀ x∈[no,bal,vot,sta],0<=x/\x<=9999)(hc:dC ⟨k,i,f,t,a⟩=true)(h1:0<=sq/\sq<=9999)(hr:∀ x∈xs,0<=x/\x<=9999)(hx:xs.length<=1000) :
  Fun T 52 [i64 rep,i64 no,i64 bal,i64 vot,i64 sta,i64 k,i64 i,i64 f,i64 t,i64 a,i64 sq,rL xs]=some [.str (gN rep no ⟨bal,vot,sta,⟨k,i,f,t,a⟩,⟨sq,xs⟩⟩)]:=by
 rw[aK (t:=Mby) rfl];unfold Mby
 have e0:=dK rep h0.1 h0.2
 have ec:=Bar k i f t a hc
 obtain⟨ea,la⟩:=Bap sq xs h1.1 h1.2 hr hx
 have lc:(pG ⟨k,i,f,t,a⟩).length<=100000:=by
  have hr:=nO hc
  simp only at hr
  obtain⟨⟨i0,i1⟩,⟨f0,f1⟩,⟨t0,t1⟩,a0,a1⟩:=hr
  have li:=bC i1
  have lf:=bC f1
  have lt:=bC t1
  have la:=bC a1
  unfold pG
  split
  ·simp only[Qbs,Qbt,Qbu];omega
  ·split
   ·simp only[Qbs,Qbt,Qbu];omega
   ·simp
 have hL:[no,bal,vot,sta].length=4:=rfl
 have hfin:aX rep++[no,bal,vot,sta].flatMap (fun x=>32::aX x)++[124]++pG ⟨k,i,f,t,a⟩++[124]++gL ⟨sq,xs⟩=gN rep no ⟨bal,vot,sta,⟨k,i,f,t,a⟩,⟨sq,xs⟩⟩:=by
  simp[gN]
 have l0:=bC h0.2
 have emk:(aO.mk 1 4).run [i64 no,i64 bal,i64 vot,i64 sta]=some [rL [no,bal,vot,sta]]:=iZ.2.2.2.1
 generalize [no,bal,vot,sta]=L at *
 simp (disch:=first|assumption|omega) only[S0,rA,rQ,rB,rT,rE,e0,emk]
 have hj:∀ j:Nat,j<=L.length->(aX rep++(L.take j).flatMap (fun x=>32::aX x)).length<=10000+10001*4:=by
  intro j hj
  have:=Uaw (xs:=L.take j) (fun x hx=>hn x (Sb0 hx))
  rw[Qb9]at this
  rw[Qbs]
  omega
 rw[bV (.yield 1,[.str (aX rep++L.flatMap (fun x=>32::aX x))]) (fun j:Nat=>L.length-j) (fun j:Nat=>j<=L.length) (fun j=>[.str (aX rep++(L.take j).flatMap (fun x=>32::aX x)),i64 j]) 0 (by simp[aM.val]) (by simp) (by simp)]
 rotate_left
 ·intro j hjl
  by_cases hlt:j<L.length
  ·have d:decide ((j:Int)<(L.length:Int))=true:=by simpa using hlt
   have hb:InB L (j:Int):=aP.2 hlt
   have hm:=hn _ (at_mem hlt)
   have e:=dK (atI L (j:Int)) hm.1 hm.2
   have l1:=bC hm.2
   have l2:=hj j hjl
   have e9:([32]++aX (atI L (j:Int))).length=(aX (atI L (j:Int))).length+1:=by simp
   have g1:=bS (a:=[32]) (b:=aX (atI L (j:Int))) (by simp only[Qbt,Qbu];omega)
   have g2:=bS (a:=aX rep++(L.take j).flatMap (fun x=>32::aX x)) (b:=[32]++aX (atI L (j:Int))) (by omega)
   have e3:aX rep++(L.take j).flatMap (fun x=>32::aX x)++([32]++aX (atI L (j:Int)))=aX rep++(L.take (j+1)).flatMap (fun x=>32::aX x):=by
    rw[<- take_at hlt]
    simp
   refine .inl ⟨j+1,?_,by omega,by omega⟩
   simp (disch:=first|assumption|omega) only[S0,rA,rQ,rB,rT,rE,d,aJ,e,g1,g2,e3]
  ·have d:decide ((j:Int)<(L.length:Int))=false:=by simpa using hlt
   obtain rfl:j=L.length:=by omega
   right
   rw[Qbx (Qbw _)]
   simp (disch:=first|assumption|omega) only[S0,rA,rQ,rB,rT,rE,d]
 ·have lF:=hj L.length (Qbw _)
  rw[Qbx (Qbw _)]at lF
  generalize aX rep++L.flatMap (fun x=>32::aX x)=A at *
  have g1:=bS (a:=A) (b:=[124]) (by simp only[Qbt,Qbu];omega)
  have g2:=bS (a:=A++[124]) (b:=pG ⟨k,i,f,t,a⟩) (by simp only[Qbs,Qbt,Qbu];omega)
  have g3:=bS (a:=A++[124]++pG ⟨k,i,f,t,a⟩) (b:=[124]) (by simp only[Qbs,Qbt,Qbu];omega)
  have g4:=bS (a:=A++[124]++pG ⟨k,i,f,t,a⟩++[124]) (b:=gL ⟨sq,xs⟩) (by simp only[Qbs,Qbt,Qbu];omega)
  simp (disch:=first|assumption|omega) only[S0,rA,rQ,rB,rT,rE,g1,ec,g2,g3,ea,g4,hfin]
theorem jT (n rep no bal vot sta k i f t a sq:Int)(xs:List Int)(hx:xs.length<=1099511627776) :
  Fun T 40 [i64 n,i64 rep,i64 no,i64 bal,i64 vot,i64 sta,i64 k,i64 i,i64 f,i64 t,i64 a,i64 sq,rL xs]=some [.str (gW n rep no ⟨bal,vot,sta,⟨k,i,f,t,a⟩,⟨sq,xs⟩⟩).1,.bool (gW n rep no ⟨bal,vot,sta,⟨k,i,f,t,a⟩,⟨sq,xs⟩⟩).2]:=by
 rw[aK (t:=Cb0) rfl];unfold Cb0
 unfold gW
 cases hg:bD n
 ·simp (disch:=first|assumption|omega) only[S0,rA,rQ,rB,rT,rE,aZ,hg]
 cases hi:inst n rep no
 ·have e:=rH n rep no hg
  simp (disch:=first|assumption|omega) only[S0,rA,rQ,rB,rT,rE,aZ,hg,e,hi]
 have e:=rH n rep no hg
 have er:=uX n bal vot sta k i f t a sq xs hg hx
 cases hr:rowOk n ⟨bal,vot,sta,⟨k,i,f,t,a⟩,⟨sq,xs⟩⟩
 ·simp (disch:=first|assumption|omega) only[S0,rA,rQ,rB,rT,rE,aZ,hg,e,hi,er,hr]
 have h1:=dS hi
 have hn:=aY hg
 have h2:=lH hr
 have h3:=nG hr
 have h4:=gP (kM hr hg)
 simp only at h2 h3 h4
 have et:=rO rep no bal vot sta k i f t a sq xs ⟨by omega,by omega⟩ (by
  intro x hx
  simp only[Rbk,Rbs,or_false]at hx
  omega) h3 ⟨h4.1,by omega⟩ (fun x hx=>⟨(h4.2.2.2 x hx).1,by have:=(h4.2.2.2 x hx).2;omega⟩) (by omega)
 simp (disch:=first|assumption|omega) only[S0,rA,rQ,rB,rT,rE,aZ,hg,e,hi,er,hr,et]
theorem tL (n:Int)(s:List UInt8)(hs:s.length<=1000000000):Fun T 88 [i64 n,.str s]=some [i64 (aN n s).1,i64 (aN n s).2.1,i64 (aN n s).2.2.1.ballot,i64 (aN n s).2.2.1.vote,i64 (aN n s).2.2.1.state,
  i64 (aN n s).2.2.1.cmd.kind,i64 (aN n s).2.2.1.cmd.id,i64 (aN n s).2.2.1.cmd.src,i64 (aN n s).2.2.1.cmd.dst,i64 (aN n s).2.2.1.cmd.amt,i64 (aN n s).2.2.1.attr.seq,rL (aN n s).2.2.1.attr.deps,.bool (aN n s).2.2.2]:=by
 rw[aK (t:=Gbg) rfl];unfold Gbg
 have esp:Fun T 89 [.str s,.int .u8 124]=some [rL (splitB 124 s)]:=fK s 124 hs
 have hsm:∀ w∈splitB 124 s,w.length<=s.length:=fun w hw=>(dB hw).2
 have ht:=@Kax n s
 unfold aN at ht ⊢
 generalize splitB 124 s=ps at *
 cases hg:bD n
 ·rw[oW (.inr (.inr (.inr (.inr (.inl (by rw[hg];rfl))))))]
  simp (disch:=first|assumption|omega) only[S0,rA,rQ,rB,rT,rE,esp,aZ,hg]
  rfl
 by_cases hl3:(ps.length:Int)=3
 rotate_left
 ·have d3:((ps.length:Int)==3)=false:=by simpa using hl3
  rw[oW (.inl hl3)]
  simp (disch:=first|assumption|omega) only[S0,rA,rQ,rB,rT,rE,esp,aZ,hg,d3]
  rfl
 have d3:((ps.length:Int)==3)=true:=by simpa using hl3
 have b0:InB ps 0:=by unfold InB;omega
 have b1:InB ps 1:=by unfold InB;omega
 have b2:InB ps 2:=by unfold InB;omega
 have m0:=hsm _ (dG b0)
 have m1:=hsm _ (dG b1)
 have m2:=hsm _ (dG b2)
 have hyes:=Ea0 (n:=n) hl3
 have hno:=oW (n:=n) (ps:=ps)
 have esp2:Fun T 89 [.str (atI ps 0),.int .u8 32]=some [rL (splitB 32 (atI ps 0))]:=fK (atI ps 0) 32 (by omega)
 have htm:∀ w∈splitB 32 (atI ps 0),w.length<=1000000000:=fun w hw=>by have:=(dB hw).2;omega
 have htl:(splitB 32 (atI ps 0)).length<=1000000001:=by
  rw[gZ]
  have:(atI ps 0).count 32<=(atI ps 0).length:=Sbe
  omega
 obtain⟨code,eC⟩:=yH (atI ps 1) (by omega)
 have eA:=wF n (atI ps 2) (by omega)
 have lA:=zX (n:=n) (s:=atI ps 2)
 simp (disch:=first|assumption|omega) only[S0,rA,rQ,rB,rT,rE,esp,aZ,hg,d3,aJ,esp2]
 generalize splitB 32 (atI ps 0)=ws at *
 rw[bV (.yield 1,[rL (numsOf 6 ws)]) (fun i:Nat=>ws.length-i) (fun i:Nat=>i<=ws.length) (fun i=>[rL (numsOf 6 (ws.take i)),i64 i]) 0 rfl (by simp) (by simp)]
 rotate_left
 ·intro i hi
  by_cases hlt:i<ws.length
  ·have d:decide ((i:Int)<(ws.length:Int))=true:=by simpa using hlt
   have hb:InB ws (i:Int):=aP.2 hlt
   have e:=bN (atI ws (i:Int)) (htm _ (at_mem hlt))
   have z:(numsOf 6 (ws.take i)).length+([bP (atI ws (i:Int)) 6]:List Int).length<=100000000000:=by rw[bR,Qb9];simp only[Qbt,Qbu];omega
   have e3:=(lW (m:=6) hlt).symm
   refine .inl ⟨i+1,?_,by omega,by omega⟩
   simp (disch:=first|assumption|omega) only[S0,rA,rQ,rB,rT,rE,d,aJ,e,iZ,iQ,e3]
  ·have d:decide ((i:Int)<(ws.length:Int))=false:=by simpa using hlt
   obtain rfl:i=ws.length:=by omega
   right
   rw[Qbx (Qbw _)]
   simp (disch:=first|assumption|omega) only[S0,rA,rQ,rB,rT,rE,d]
 have hnl:(numsOf 6 ws).length=ws.length:=bR
 by_cases hl5:ws.length=5
 rotate_left
 ·have d5:(((numsOf 6 ws).length:Int)==5)=false:=by rw[hnl];simp;omega
  rw[hno (.inr (.inl hl5))]
  simp (disch:=first|assumption|omega) only[S0,rA,rQ,rB,rT,rE,aJ,eC,eA,d5]
  rfl
 have d5:(((numsOf 6 ws).length:Int)==5)=true:=by rw[hnl,hl5];rfl
 have hyes:=hyes hl5
 generalize numsOf 6 ws=ns at *
 generalize nQ (atI ps 1)=cb at *
 generalize fH n (atI ps 2)=ab at *
 obtain⟨⟨k,i,f,t,a⟩,co⟩:=cb
 obtain⟨⟨sq,xs⟩,ao⟩:=ab
 simp only at eC eA hyes hno lA
 cases co
 ·rw[hno (.inr (.inr (.inl rfl)))]
  simp (disch:=first|assumption|omega) only[S0,rA,rQ,rB,rT,rE,aJ,eC,eA,d5]
  rfl
 cases ao
 ·rw[hno (.inr (.inr (.inr (.inl rfl))))]
  simp (disch:=first|assumption|omega) only[S0,rA,rQ,rB,rT,rE,aJ,eC,eA,d5]
  rfl
 have c0:InB ns 0:=by unfold InB;omega
 have c1:InB ns 1:=by unfold InB;omega
 have c2:InB ns 2:=by unfold InB;omega
 have c3:InB ns 3:=by unfold InB;omega
 have c4:InB ns 4:=by unfold InB;omega
 have eT:=jT n (atI ns 0) (atI ns 1) (atI ns 2) (atI ns 3) (atI ns 4) k i f t a sq xs (by omega)
 cases hin:inst n (atI ns 0) (atI ns 1)
 ·rw[hno (.inr (.inr (.inr (.inr (.inl (by rw[hg,hin];rfl))))))]
  have eR:gW n (atI ns 0) (atI ns 1) ⟨atI ns 2,atI ns 3,atI ns 4,⟨k,i,f,t,a⟩,⟨sq,xs⟩⟩=([],false):=by
   unfold gW;rw[hin,hg];rfl
  rw[eR]at eT
  simp (disch:=first|assumption|omega) only[S0,rA,rQ,rB,rT,rE,aJ,eC,eA,d5,eT]
  rfl
 cases hro:rowOk n (Eah ns ⟨k,i,f,t,a⟩ ⟨sq,xs⟩)
 ·rw[hno (.inr (.inr (.inr (.inr (.inr hro)))))]
  have eR:gW n (atI ns 0) (atI ns 1) ⟨atI ns 2,atI ns 3,atI ns 4,⟨k,i,f,t,a⟩,⟨sq,xs⟩⟩=([],false):=by
   unfold gW
   unfold Eah at hro
   rw[hro,Sba]
   rfl
  rw[eR]at eT
  simp (disch:=first|assumption|omega) only[S0,rA,rQ,rB,rT,rE,aJ,eC,eA,d5,eT]
  rfl
 have hy:=hyes rfl rfl (by rw[hg,hin];rfl) hro
 rw[hy]at ht ⊢
 have ht:=ht rfl
 unfold Eah at ht hro ⊢
 simp only at ht
 have eR:gW n (atI ns 0) (atI ns 1) ⟨atI ns 2,atI ns 3,atI ns 4,⟨k,i,f,t,a⟩,⟨sq,xs⟩⟩=(s,true):=by
  unfold gW
  rw[hro,hin,hg,ht]
  rfl
 rw[eR]at eT
 simp (disch:=first|assumption|omega) only[S0,rA,rQ,rB,rT,rE,aJ,eC,eA,d5,eT,Gaj]
theorem pE (n:Int)(s:List UInt8)(hs:s.length<=1000000000):Fun T 57 [i64 n,.str s]=some [i64 (aN n s).1,i64 (aN n s).2.1,i64 (aN n s).2.2.1.ballot,i64 (aN n s).2.2.1.vote,i64 (aN n s).2.2.1.state,
  i64 (aN n s).2.2.1.cmd.kind,i64 (aN n s).2.2.1.cmd.id,i64 (aN n s).2.2.1.cmd.src,i64 (aN n s).2.2.1.cmd.dst,i64 (aN n s).2.2.1.cmd.amt,i64 (aN n s).2.2.1.attr.seq,rL (aN n s).2.2.1.attr.deps,.bool (aN n s).2.2.2]:=by
 rw[aK (t:=Mbu) rfl];unfold Mbu
 have esp:=strings_Split s 124 hs
 have hsm:∀ w∈splitB 124 s,w.length<=s.length:=fun w hw=>(dB hw).2
 unfold aN
 generalize splitB 124 s=ps at *
 by_cases hl3:(ps.length:Int)=3
 rotate_left
 ·have d3:((ps.length:Int)==3)=false:=by simpa using hl3
  rw[oW (.inl hl3)]
  simp (disch:=first|assumption|omega) only[S0,rA,rQ,rB,rT,rE,esp,d3]
  rfl
 have d3:((ps.length:Int)==3)=true:=by simpa using hl3
 have b0:InB ps 0:=by unfold InB;omega
 have b1:InB ps 1:=by unfold InB;omega
 have b2:InB ps 2:=by unfold InB;omega
 have m0:=hsm _ (dG b0)
 have m1:=hsm _ (dG b1)
 have m2:=hsm _ (dG b2)
 have hyes:=Kaw (n:=n) hl3
 have hno:=Pao (n:=n) (ps:=ps)
 have esp2:=strings_Split (atI ps 0) 32 (by omega)
 have htm:∀ w∈splitB 32 (atI ps 0),w.length<=1000000000:=fun w hw=>by have:=(dB hw).2;omega
 have htl:(splitB 32 (atI ps 0)).length<=1000000001:=by
  rw[gZ]
  have:(atI ps 0).count 32<=(atI ps 0).length:=Sbe
  omega
 obtain⟨code,eC⟩:=zM (atI ps 1) (by omega)
 have eA:=wX n (atI ps 2) (by omega)
 have lA:=zX (n:=n) (s:=atI ps 2)
 generalize splitB 32 (atI ps 0)=ws at *
 have en:=iF ws 4 (by decide) (by decide) htm htl
 cases hA:aT 4 ws
 ·have hN:=uM hA
  rw[hno (.inr (.inl hA))]
  simp (disch:=first|assumption|omega) only[S0,rA,rQ,rB,rT,rE,esp,d3,aJ,esp2,en,hN,eC,eA]
  rfl
 have hN:=lS hA
 have hnl:(numsOf 4 ws).length=ws.length:=bR
 have hyes:=hyes hA
 generalize numsOf 4 ws=ns at *
 generalize nQ (atI ps 1)=cb at *
 generalize fH n (atI ps 2)=ab at *
 obtain⟨⟨k,i,f,t,a⟩,co⟩:=cb
 obtain⟨⟨sq,xs⟩,ao⟩:=ab
 simp only at eC eA hyes hno lA
 cases co
 ·rw[hno (.inr (.inr (.inr (.inl rfl))))]
  simp (disch:=first|assumption|omega) only[S0,rA,rQ,rB,rT,rE,esp,d3,aJ,esp2,en,hN,eC,eA]
  rfl
 cases ao
 ·rw[hno (.inr (.inr (.inr (.inr (.inl rfl)))))]
  simp (disch:=first|assumption|omega) only[S0,rA,rQ,rB,rT,rE,esp,d3,aJ,esp2,en,hN,eC,eA]
  rfl
 by_cases hl5:ws.length=5
 rotate_left
 ·have d5:((ns.length:Int)==5)=false:=by rw[hnl];simp;omega
  rw[hno (.inr (.inr (.inl hl5)))]
  simp (disch:=first|assumption|omega) only[S0,rA,rQ,rB,rT,rE,esp,d3,aJ,esp2,en,hN,eC,eA,d5]
  rfl
 have d5:((ns.length:Int)==5)=true:=by rw[hnl,hl5];rfl
 have hyes:=hyes hl5
 have c0:InB ns 0:=by unfold InB;omega
 have c1:InB ns 1:=by unfold InB;omega
 have c2:InB ns 2:=by unfold InB;omega
 have c3:InB ns 3:=by unfold InB;omega
 have c4:InB ns 4:=by unfold InB;omega
 cases hin:bD n&&inst n (atI ns 0) (atI ns 1)
 ·rw[hno (.inr (.inr (.inr (.inr (.inr (.inl hin))))))]
  simp (disch:=first|assumption|omega) only[S0,rA,rQ,rB,rT,rE,esp,d3,aJ,esp2,en,hN,eC,eA,d5,bO,hin]
  rfl
 have hg:bD n=true:=by
  simp only[Qbq]at hin
  exact hin.1
 have eG:=mK n (atI ns 2) (atI ns 3) (atI ns 4) k i f t a sq xs hg (by omega)
 cases hro:rowOk n (Eah ns ⟨k,i,f,t,a⟩ ⟨sq,xs⟩)
 ·rw[hno (.inr (.inr (.inr (.inr (.inr (.inr hro))))))]
  unfold Eah at hro
  simp (disch:=first|assumption|omega) only[S0,rA,rQ,rB,rT,rE,esp,d3,aJ,esp2,en,hN,eC,eA,d5,bO,hin,eG,hro]
  rfl
 rw[hyes rfl rfl hin hro]
 unfold Eah at hro ⊢
 simp (disch:=first|assumption|omega) only[S0,rA,rQ,rB,rT,rE,esp,d3,aJ,esp2,en,hN,eC,eA,d5,bO,hin,eG,hro]
theorem Faa (s:List UInt8)(h:Int)(hs:s.length<=1000)(h0:0<=h)(h1:h<65521):Fun T 79 [.str s,i64 h,i64 33]=some [i64 (pO s h)]:=by
 rw[aK (t:=Cbd) rfl];unfold Cbd
 simp (disch:=first|assumption|omega) only[S0,rA,rQ,rB,rT,rE,aG]
 rw[bV (.yield 1,[i64 (pO s h)]) (fun i:Nat=>s.length-i) (fun i:Nat=>i<=s.length) (fun i=>[i64 (pO (s.take i) h),i64 i]) 0 rfl (by simp) (by simp)]
 rotate_left
 ·intro i hi
  by_cases hlt:i<s.length
  ·have d:decide ((i:Int)<(s.length:Int))=true:=by simpa using hlt
   have es:=kS (s:=s) (k:=(i:Int)) (by omega) (by omega)
   have hc:(atI s (i:Int)).toNat<256:=UInt8.toNat_lt _
   obtain⟨v0,v1⟩:=qH (s.take i) h h0 h1
   have ec:(aO.conv .i64).run [u8 (atI s (i:Int))]=some [i64 (((atI s (i:Int)).toNat:Nat):Int)]:=pM (by omega) (by omega)
   have er:(aO.bin .mul).run [i64 (pO (s.take i) h),i64 33]=some [i64 (33*pO (s.take i) h)]:=by rw[jN (by omega) (by omega),Int.mul_comm]
   have em:(aO.bin .rem).run [i64 (33*pO (s.take i) h+(((atI s (i:Int)).toNat:Nat):Int)),i64 65521]=some [i64 (pO (s.take (i+1)) h)]:=by
    show (if (65521:Int)=0 then none else some (D.int .i64 ((33*pO (s.take i) h+(((atI s (i:Int)).toNat:Nat):Int)).tmod 65521))).map (fun d=>[d])=_
    rw[if_neg (by decide),Rb2 (by omega),<- take_at hlt,Gaw]
    rfl
   refine .inl ⟨i+1,?_,by omega,by omega⟩
   simp (disch:=first|assumption|omega) only[S0,rA,rQ,rB,rT,rE,aG,d,es,ec,er,em]
  ·have d:decide ((i:Int)<(s.length:Int))=false:=by simpa using hlt
   obtain rfl:i=s.length:=by omega
   right
   rw[Qbx (Qbw _)]
   simp (disch:=first|assumption|omega) only[S0,rA,rQ,rB,rT,rE,aG,d]
 ·simp (disch:=first|assumption|omega) only[S0,rA,rQ,rB,rT,rE]
theorem wT (x:Int)(n0:0<=x)(n1:x<65521):Fun T 80 [i64 x]=some [.str (rC x)]:=by
 rw[aK (t:=Cbc) rfl];unfold Cbc
 have hcv:∀ k:Int,0<=k->k<=255->(aO.conv .u8).run [i64 k]=some [.int .u8 k]:=by
  intro k h0 h1
  show some [D.int .u8 (IntKind.u8.wrap k)]=_
  have:IntKind.u8.wrap k=k:=by simp[IntKind.wrap,IntKind.bits,IntKind.signed];omega
  rw[this]
 have eq:(aO.bin .quo).run [i64 x,i64 256]=some [i64 (x / 256)]:=by
  show (if (256:Int)=0 then none else some (D.int .i64 (IntKind.i64.wrap (x.tdiv 256)))).map (fun d=>[d])=_
  rw[if_neg (by decide),Sbm n0,wrap_i64 (by omega) (by omega)]
  rfl
 have em:(aO.bin .rem).run [i64 x,i64 256]=some [i64 (x % 256)]:=by
  show (if (256:Int)=0 then none else some (D.int .i64 (x.tmod 256))).map (fun d=>[d])=_
  rw[if_neg (by decide),Rb2 n0]
  rfl
 have c1:=hcv (x / 256) (by omega) (by omega)
 have c2:=hcv (x % 256) (by omega) (by omega)
 have ek:(aO.mk 1 2).run [.int .u8 (x / 256),.int .u8 (x % 256)]=some [.rows 1 [[.int .u8 (x / 256)],[.int .u8 (x % 256)]]]:=rfl
 have eb:aO.bstr.run [.rows 1 [[.int .u8 (x / 256)],[.int .u8 (x % 256)]]]=some [.str (rC x)]:=rfl
 simp (disch:=first|assumption|omega) only[S0,rA,rQ,rB,rT,rE,eq,em,c1,c2,ek,eb]
theorem mM (w:List UInt8)(hw:w.length<=200):Fun T 78 [.str w]=some [.str (bI w)]:=by
 rw[aK (t:=Cbe) rfl];unfold Cbe
 have hcv:∀ k:Int,0<=k->k<=255->(aO.conv .u8).run [i64 k]=some [.int .u8 k]:=by
  intro k h0 h1
  show some [D.int .u8 (IntKind.u8.wrap k)]=_
  have:IntKind.u8.wrap k=k:=by simp[IntKind.wrap,IntKind.bits,IntKind.signed];omega
  rw[this]
 have c1:=hcv (w.length:Int) (by omega) (by omega)
 have ek:(aO.mk 1 1).run [.int .u8 (w.length:Int)]=some [.rows 1 [[.int .u8 (w.length:Int)]]]:=rfl
 have eb:aO.bstr.run [.rows 1 [[.int .u8 (w.length:Int)]]]=some [.str [UInt8.ofNat w.length]]:=by
  show some [D.str [UInt8.ofNat ((w.length:Int)).toNat]]=_
  rw[Rbd]
 have g1:=bS (a:=[UInt8.ofNat w.length]) (b:=w) (by simp only[Qbt,Qbu];omega)
 have hh:[UInt8.ofNat w.length]++w=iN w:=rfl
 rw[hh]at g1
 have hl:(iN w).length=w.length+1:=by simp[iN]
 have es:=Faa (iN w) 7 (by omega) (by decide) (by decide)
 obtain⟨n0,n1⟩:=qH (iN w) 7 (by decide) (by decide)
 have et:=wT (pO (iN w) 7) n0 n1
 have htl:(rC (pO (iN w) 7)).length=2:=rfl
 have g2:=bS (a:=iN w) (b:=rC (pO (iN w) 7)) (by omega)
 have g3:=bS (a:=iN w++rC (pO (iN w) 7)) (b:=[1]) (by simp only[Qbs,Qbt,Qbu];omega)
 have hf:iN w++rC (pO (iN w) 7)++[1]=bI w:=rfl
 simp (disch:=first|assumption|omega) only[S0,rA,rQ,rB,rT,rE,aG,c1,ek,eb,g1,es,et,g2,g3,hf]
theorem sG (s:List UInt8)(hs:s.length<=1000000000):Fun T 82 [.str s]=some [rL (aF s)]:=by
 rw[aK (t:=Cba) rfl];unfold Cba
 have em0:(aO.mk 1 0).run []=some [rL ([]:List (List UInt8))]:=rfl
 simp (disch:=first|assumption|omega) only[S0,rA,rQ,rB,rT,rE,em0]
 generalize hE:Er T (Tm.loop _ _) _=E
 have key:∃ q,E=some q/\q=(.yield 1,[rL (aF s)]):=by
  rw[<- hE]
  refine nJ (γ:=List UInt8×List (List UInt8)) (fun c=>c.1.length) (fun c=>c.2++aF c.1=aF s/\c.2.length+c.1.length<=s.length) (fun c=>[.str c.1,rL c.2]) _ (s,[]) rfl ⟨by simp,by simp⟩ ?_
  rintro⟨t,out⟩ ⟨h1,h2⟩
  simp only at h1 h2
  by_cases hne:t=[]
  ·subst hne
   have e0:(([]:List UInt8)==[])=true:=rfl
   have hf:aF []=[]:=bX (by decide)
   rw[hf,Rbm]at h1
   refine .inr ⟨(.yield 1,[rL out]),?_,by simp,by rw[h1]⟩
   simp (disch:=first|assumption|omega) only[S0,rA,rQ,rB,rT,rE,Gaj,e0]
  have e0:(t==[])=false:=by simpa using hne
  have hl0:0<t.length:=List.length_pos_iff.2 hne
  have es:=kS (s:=t) (k:=0) (by omega) (by omega)
  have hc:(atI t 0).toNat<256:=UInt8.toNat_lt _
  have ec:(aO.conv .i64).run [u8 (atI t 0)]=some [i64 (bQ t:Nat)]:=pM (by omega) (by omega)
  have hlf:bQ t<256:=hc
  cases hok:okF t
  ·have hstop:=bX hok
   rw[hstop,Rbm]at h1
   refine .inr ⟨(.yield 1,[rL out]),?_,by simp,by rw[h1]⟩
   by_cases k200:200<((bQ t:Nat):Int)
   ·have d1:decide (200<((bQ t:Nat):Int))=true:=by simpa using k200
    simp (disch:=first|assumption|omega) only[S0,rA,rQ,rB,rT,rE,Gaj,e0,es,ec,d1]
   have d1:decide (200<((bQ t:Nat):Int))=false:=by simpa using k200
   by_cases k4:(t.length:Int)<((bQ t:Nat):Int)+4
   ·have d2:decide ((t.length:Int)<((bQ t:Nat):Int)+4)=true:=by simpa using k4
    simp (disch:=first|assumption|omega) only[S0,rA,rQ,rB,rT,rE,Gaj,e0,es,ec,d1,aG,d2]
   have d2:decide ((t.length:Int)<((bQ t:Nat):Int)+4)=false:=by simpa using k4
   have eb1:=dX (s:=t) (lo:=1) (hi:=((bQ t:Nat):Int)+1) (by omega) (by omega) (by omega)
   have ep:(t.take (((bQ t:Nat):Int)+1).toNat).drop (1:Int).toNat=pJ t:=by
    rw[show (((bQ t:Nat):Int)+1).toNat=bQ t+1 by omega];rfl
   rw[ep]at eb1
   have ef:=mM (pJ t) (Sbn oN (by omega))
   have eb2:=dX (s:=t) (lo:=0) (hi:=((bQ t:Nat):Int)+4) (by omega) (by omega) (by omega)
   have ep2:(t.take (((bQ t:Nat):Int)+4).toNat).drop (0:Int).toNat=t.take (bQ t+4):=by
    rw[show (((bQ t:Nat):Int)+4).toNat=bQ t+4 by omega];simp
   rw[ep2]at eb2
   have dn:(bI (pJ t)==t.take (bQ t+4))=false:=by
    simp only[okF]at hok
    rw[decide_eq_true (show bQ t<=200 by omega),decide_eq_true (show bQ t+4<=t.length by omega)]at hok
    simpa using hok
   simp (disch:=first|assumption|omega) only[S0,rA,rQ,rB,rT,rE,Gaj,e0,es,ec,d1,aG,d2,eb1,ef,eb2,dn]
  ·obtain⟨r1,r2⟩:=oF hok
   have d1:decide (200<((bQ t:Nat):Int))=false:=by simp;omega
   have d2:decide ((t.length:Int)<((bQ t:Nat):Int)+4)=false:=by simp;omega
   have eb1:=dX (s:=t) (lo:=1) (hi:=((bQ t:Nat):Int)+1) (by omega) (by omega) (by omega)
   have ep:(t.take (((bQ t:Nat):Int)+1).toNat).drop (1:Int).toNat=pJ t:=by
    rw[show (((bQ t:Nat):Int)+1).toNat=bQ t+1 by omega];rfl
   rw[ep]at eb1
   have ef:=mM (pJ t) (Sbn oN (by omega))
   have eb2:=dX (s:=t) (lo:=0) (hi:=((bQ t:Nat):Int)+4) (by omega) (by omega) (by omega)
   have ep2:(t.take (((bQ t:Nat):Int)+4).toNat).drop (0:Int).toNat=t.take (bQ t+4):=by
    rw[show (((bQ t:Nat):Int)+4).toNat=bQ t+4 by omega];simp
   rw[ep2]at eb2
   have eb3:=dX (s:=t) (lo:=((bQ t:Nat):Int)+4) (hi:=(t.length:Int)) (by omega) (by omega) (by omega)
   have ep3:(t.take (t.length:Int).toNat).drop (((bQ t:Nat):Int)+4).toNat=t.drop (bQ t+4):=by
    rw[Rbd,Qbx (Qbw _),show (((bQ t:Nat):Int)+4).toNat=bQ t+4 by omega]
   rw[ep3]at eb3
   have dn:(bI (pJ t)==t.take (bQ t+4))=true:=by
    simp only[okF,Qbq]at hok
    exact hok.2
   have z:out.length+([pJ t]:List (List UInt8)).length<=100000000000:=by simp only[Qbt,Qbu];omega
   refine .inl ⟨(t.drop (bQ t+4),out++[pJ t]),?_,⟨?_,?_⟩,?_⟩
   ·simp (disch:=first|assumption|omega) only[S0,rA,rQ,rB,rT,rE,Gaj,e0,es,ec,d1,aG,d2,eb1,ef,eb2,dn,iZ,iQ,eb3]
   ·simp only
    rw[<- h1,iA hok,Qb1]
    rfl
   ·simp only[Qbs,Qbt,Qbu,Rbn]
    omega
   ·simp only[Rbn]
    omega
 obtain⟨q,rfl,rfl⟩:=key
 simp (disch:=first|assumption|omega) only[S0,rA,rQ,rB,rT,rE]
theorem fD (w:List UInt8)(hw:w.length<=200):Fun T 96 [.str w]=some [.str (bI w)]:=by
 rw[aK (t:=Bb1) rfl];unfold Bb1
 have hcv:∀ k:Int,0<=k->k<=255->(aO.conv .u8).run [i64 k]=some [.int .u8 k]:=by
  intro k h0 h1
  show some [D.int .u8 (IntKind.u8.wrap k)]=_
  have:IntKind.u8.wrap k=k:=by simp[IntKind.wrap,IntKind.bits,IntKind.signed];omega
  rw[this]
 have c1:=hcv (w.length:Int) (by omega) (by omega)
 have ek:(aO.mk 1 1).run [.int .u8 (w.length:Int)]=some [.rows 1 [[.int .u8 (w.length:Int)]]]:=rfl
 have eb:aO.bstr.run [.rows 1 [[.int .u8 (w.length:Int)]]]=some [.str [UInt8.ofNat w.length]]:=by
  show some [D.str [UInt8.ofNat ((w.length:Int)).toNat]]=_
  rw[Rbd]
 have g1:=bS (a:=[UInt8.ofNat w.length]) (b:=w) (by simp only[Qbt,Qbu];omega)
 have hh:[UInt8.ofNat w.length]++w=iN w:=rfl
 rw[hh]at g1
 have hl:(iN w).length=w.length+1:=by simp[iN]
 have hfin:iN w++(rC (pO (iN w) 7)++[1])=bI w:=by unfold bI;rw[Qb1]
 simp (disch:=first|assumption|omega) only[S0,rA,rQ,rB,rT,rE,aG,c1,ek,eb,g1]
 generalize iN w=s at *
 have h0:(0:Int)<=7:=by decide
 have h1:(7:Int)<65521:=by decide
 generalize h7:(7:Int)=h at h0 h1
 subst h7
 rw[bV (.yield 1,[i64 (pO s 7)]) (fun i:Nat=>s.length-i) (fun i:Nat=>i<=s.length) (fun i=>[i64 (pO (s.take i) 7),i64 i]) 0 rfl (by simp) (by simp)]
 rotate_left
 ·intro i hi
  by_cases hlt:i<s.length
  ·have d:decide ((i:Int)<(s.length:Int))=true:=by simpa using hlt
   have es:=kS (s:=s) (k:=(i:Int)) (by omega) (by omega)
   have hc:(atI s (i:Int)).toNat<256:=UInt8.toNat_lt _
   obtain⟨v0,v1⟩:=qH (s.take i) 7 h0 h1
   have ec:(aO.conv .i64).run [u8 (atI s (i:Int))]=some [i64 (((atI s (i:Int)).toNat:Nat):Int)]:=pM (by omega) (by omega)
   have er:(aO.bin .mul).run [i64 33,i64 (pO (s.take i) 7)]=some [i64 (33*pO (s.take i) 7)]:=jN (by omega) (by omega)
   have em:(aO.bin .rem).run [i64 (33*pO (s.take i) 7+(((atI s (i:Int)).toNat:Nat):Int)),i64 65521]=some [i64 (pO (s.take (i+1)) 7)]:=by
    show (if (65521:Int)=0 then none else some (D.int .i64 ((33*pO (s.take i) 7+(((atI s (i:Int)).toNat:Nat):Int)).tmod 65521))).map (fun d=>[d])=_
    rw[if_neg (by decide),Rb2 (by omega),<- take_at hlt,Gaw]
    rfl
   refine .inl ⟨i+1,?_,by omega,by omega⟩
   simp (disch:=first|assumption|omega) only[S0,rA,rQ,rB,rT,rE,aG,d,es,ec,er,em]
  ·have d:decide ((i:Int)<(s.length:Int))=false:=by simpa using hlt
   obtain rfl:i=s.length:=by omega
   right
   rw[Qbx (Qbw _)]
   simp (disch:=first|assumption|omega) only[S0,rA,rQ,rB,rT,rE,aG,d]
 obtain⟨n0,n1⟩:=qH s 7 (by decide) (by decide)
 generalize pO s 7=x at *
 have eq:(aO.bin .quo).run [i64 x,i64 256]=some [i64 (x / 256)]:=by
  show (if (256:Int)=0 then none else some (D.int .i64 (IntKind.i64.wrap (x.tdiv 256)))).map (fun d=>[d])=_
  rw[if_neg (by decide),Sbm n0,wrap_i64 (by omega) (by omega)]
  rfl
 have em:(aO.bin .rem).run [i64 x,i64 256]=some [i64 (x % 256)]:=by
  show (if (256:Int)=0 then none else some (D.int .i64 (x.tmod 256))).map (fun d=>[d])=_
  rw[if_neg (by decide),Rb2 n0]
  rfl
 have c1:=hcv (x / 256) (by omega) (by omega)
 have c2:=hcv (x % 256) (by omega) (by omega)
 have ek:(aO.mk 1 3).run [.int .u8 (x / 256),.int .u8 (x % 256),.int .u8 1]=some [.rows 1 [[.int .u8 (x / 256)],[.int .u8 (x % 256)],[.int .u8 1]]]:=rfl
 have eb:aO.bstr.run [.rows 1 [[.int .u8 (x / 256)],[.int .u8 (x % 256)],[.int .u8 1]]]=some [.str (rC x++[1])]:=rfl
 have htl:(rC x++[1]).length=3:=rfl
 have g2:=bS (a:=s) (b:=rC x++[1]) (by omega)
 simp (disch:=first|assumption|omega) only[S0,rA,rQ,rB,rT,rE,eq,em,c1,c2,ek,eb,g2,hfin]
theorem nA (s:List UInt8)(hs:s.length<=1000000000):Fun T 117 [.str s]=some [rL (aF s),i64 (lG (aF s):Nat)]:=by
 rw[aK (t:=Mae) rfl];unfold Mae
 simp (disch:=first|assumption|omega) only[S0,rA,rQ,rB,rT,rE]
 generalize hE:Er T (Tm.loop _ _) _=E
 have key:∃ q,E=some q/\∃ p:Nat,q=(.yield 1,[rL (aF s),i64 p])/\p=lG (aF s):=by
  rw[<- hE]
  refine nJ (γ:=Nat×List (List UInt8)) (fun c=>s.length-c.1) (fun c=>c.1<=s.length/\c.2++aF (s.drop c.1)=aF s/\c.2.length<=c.1/\c.1+lG (aF (s.drop c.1))=lG (aF s)) (fun c=>[rL c.2,i64 c.1]) _ (0,[]) rfl ⟨by simp,by simp,by simp,by simp⟩ ?_
  rintro⟨f,out⟩ ⟨h3,h1,h2,h9⟩
  simp only at h1 h2 h3 h9
  by_cases hlt:f<s.length
  rotate_left
  ·have hd:s.drop f=[]:=Tbb (by omega)
   have hf:aF []=[]:=bX (by decide)
   rw[hd,hf,Rbm]at h1
   rw[hd,hf]at h9
   have e0:lG ([]:List (List UInt8))=0:=rfl
   have d:decide ((f:Int)<(s.length:Int))=false:=by simpa using hlt
   refine .inr ⟨(.yield 1,[rL out,i64 f]),?_,by simp,f,by rw[h1],by omega⟩
   simp (disch:=first|assumption|omega) only[S0,rA,rQ,rB,rT,rE,aG,d]
  have d:decide ((f:Int)<(s.length:Int))=true:=by simpa using hlt
  have es:=kS (s:=s) (k:=(f:Int)) (by omega) (by omega)
  have hc:(atI s (f:Int)).toNat<256:=UInt8.toNat_lt _
  have hk:=Pa1 hlt
  have hpay:=Pav (s:=s) (f:=f)
  have hcut:=Qa0 (s:=s) (f:=f) (m:=bQ (s.drop f)+4)
  have htl:(s.drop f).length=s.length-f:=Rbn
  have ec:(aO.conv .i64).run [u8 (atI s (f:Int))]=some [i64 (bQ (s.drop f):Nat)]:=by rw[hk];exact pM (by omega) (by omega)
  rw[<- hk]at hc
  have hdd:s.drop (f+(bQ (s.drop f)+4))=(s.drop f).drop (bQ (s.drop f)+4):=by rw[List.drop_drop]
  generalize s.drop f=t at *
  cases hok:okF t
  ·have hstop:=bX hok
   rw[hstop,Rbm]at h1
   rw[hstop]at h9
   have e0:lG ([]:List (List UInt8))=0:=rfl
   refine .inr ⟨(.yield 1,[rL out,i64 f]),?_,by simp,f,by rw[h1],by omega⟩
   by_cases k200:200<((bQ t:Nat):Int)
   ·have d1:decide (200<((bQ t:Nat):Int))=true:=by simpa using k200
    simp (disch:=first|assumption|omega) only[S0,rA,rQ,rB,rT,rE,aG,d,es,ec,d1]
   have d1:decide (200<((bQ t:Nat):Int))=false:=by simpa using k200
   by_cases k4:(s.length:Int)<(f:Int)+((bQ t:Nat):Int)+4
   ·have d2:decide ((s.length:Int)<(f:Int)+((bQ t:Nat):Int)+4)=true:=by simpa using k4
    simp (disch:=first|assumption|omega) only[S0,rA,rQ,rB,rT,rE,aG,d,es,ec,d1,d2]
   have d2:decide ((s.length:Int)<(f:Int)+((bQ t:Nat):Int)+4)=false:=by simpa using k4
   have eb1:=dX (s:=s) (lo:=(f:Int)+1) (hi:=(f:Int)+1+((bQ t:Nat):Int)) (by omega) (by omega) (by omega)
   have ep:(s.take ((f:Int)+1+((bQ t:Nat):Int)).toNat).drop ((f:Int)+1).toNat=pJ t:=by
    rw[show ((f:Int)+1+((bQ t:Nat):Int)).toNat=f+1+bQ t by omega,show ((f:Int)+1).toNat=f+1 by omega];exact hpay.symm
   rw[ep]at eb1
   have ef:=fD (pJ t) (Sbn oN (by omega))
   have eb2:=dX (s:=s) (lo:=(f:Int)) (hi:=(f:Int)+((bQ t:Nat):Int)+4) (by omega) (by omega) (by omega)
   have ep2:(s.take ((f:Int)+((bQ t:Nat):Int)+4).toNat).drop (f:Int).toNat=t.take (bQ t+4):=by
    rw[show ((f:Int)+((bQ t:Nat):Int)+4).toNat=f+(bQ t+4) by omega,Rbd];exact hcut.symm
   rw[ep2]at eb2
   have dn:(bI (pJ t)==t.take (bQ t+4))=false:=by
    simp only[okF]at hok
    rw[decide_eq_true (show bQ t<=200 by omega),decide_eq_true (show bQ t+4<=t.length by omega)]at hok
    simpa using hok
   simp (disch:=first|assumption|omega) only[S0,rA,rQ,rB,rT,rE,aG,d,es,ec,d1,d2,eb1,ef,eb2,Gaj,dn]
  ·obtain⟨r1,r2⟩:=oF hok
   have d1:decide (200<((bQ t:Nat):Int))=false:=by simp;omega
   have d2:decide ((s.length:Int)<(f:Int)+((bQ t:Nat):Int)+4)=false:=by simp;omega
   have eb1:=dX (s:=s) (lo:=(f:Int)+1) (hi:=(f:Int)+1+((bQ t:Nat):Int)) (by omega) (by omega) (by omega)
   have ep:(s.take ((f:Int)+1+((bQ t:Nat):Int)).toNat).drop ((f:Int)+1).toNat=pJ t:=by
    rw[show ((f:Int)+1+((bQ t:Nat):Int)).toNat=f+1+bQ t by omega,show ((f:Int)+1).toNat=f+1 by omega];exact hpay.symm
   rw[ep]at eb1
   have ef:=fD (pJ t) (Sbn oN (by omega))
   have eb2:=dX (s:=s) (lo:=(f:Int)) (hi:=(f:Int)+((bQ t:Nat):Int)+4) (by omega) (by omega) (by omega)
   have ep2:(s.take ((f:Int)+((bQ t:Nat):Int)+4).toNat).drop (f:Int).toNat=t.take (bQ t+4):=by
    rw[show ((f:Int)+((bQ t:Nat):Int)+4).toNat=f+(bQ t+4) by omega,Rbd];exact hcut.symm
   rw[ep2]at eb2
   have dn:(bI (pJ t)==t.take (bQ t+4))=true:=by
    simp only[okF,Qbq]at hok
    exact hok.2
   have z:out.length+([pJ t]:List (List UInt8)).length<=100000000000:=by simp only[Qbt,Qbu];omega
   have ei:(f:Int)+(((bQ t:Nat):Int)+4)=((f+(bQ t+4):Nat):Int):=by omega
   refine .inl ⟨(f+(bQ t+4),out++[pJ t]),?_,⟨?_,?_,?_,?_⟩,?_⟩
   ·simp (disch:=first|assumption|omega) only[S0,rA,rQ,rB,rT,rE,aG,d,es,ec,d1,d2,eb1,ef,eb2,Gaj,dn,iZ,iQ,ei]
   ·simp only
    omega
   ·simp only
    rw[<- h1,hdd,iA hok,Qb1]
    rfl
   ·simp only[Qbs,Qbt,Qbu]
    omega
   ·simp only
    rw[hdd]
    rw[iA hok]at h9
    have e0:lG (pJ t::aF (t.drop (bQ t+4)))=(pJ t).length+4+lG (aF (t.drop (bQ t+4))):=rfl
    have e1:=(Naa hok).1
    omega
   ·simp only
    omega
 obtain⟨q,rfl,p,rfl,rfl⟩:=key
 simp (disch:=first|assumption|omega) only[S0,rA,rQ,rB,rT,rE]
theorem uI (s:List UInt8)(hs:s.length<=1000000000):∃ p:Int,Fun T 117 [.str s]=some [rL (aF s),i64 p]:=⟨_,nA s hs⟩
theorem tK (n:Int)(s:List UInt8)(hg:bD n=true)(hs:s.length<=20000):Fun T 116 [i64 n,.str s]=some [i64 (jJ n (aF s) 0 (nU n)).2.n,rL (jJ n (aF s) 0 (nU n)).2.rows,i64 (jJ n (aF s) 0 (nU n)).1]:=by
 rw[aK (t:=Maf) rfl];unfold Maf
 have hn:=aY hg
 have e0:=uY n hg
 obtain⟨p,ef⟩:=uI s (by omega)
 obtain⟨hws,hwl⟩:=jF s
 simp (disch:=first|assumption|omega) only[S0,rA,rQ,rB,rT,rE,e0,ef]
 have hfi:=Aax hg (aF s) 0 (nU n) (qU (by omega))
 generalize aF s=ws at *
 rw[bV (.yield 1,[i64 (jJ n ws 0 (nU n)).1,i64 n,rL (jJ n ws 0 (nU n)).2.rows]) (fun c:Nat×Int×aR=>ws.length-c.1) (fun c=>c.1<=ws.length/\Bbn n c.2.2/\0<=c.2.1/\c.2.1<=1000*(c.1:Int)/\jJ n (ws.drop c.1) c.2.1 c.2.2=jJ n ws 0 (nU n)) (fun c=>[i64 c.2.1,i64 c.1,i64 n,rL c.2.2.rows]) (0,0,nU n) rfl ⟨by simp,qU (by omega),by simp,by simp,by simp⟩ (by simp)]
 rotate_left
 ·rintro⟨i,l,t⟩ ⟨h1,hT,h2,h3,h4⟩
  simp only at h1 hT h2 h3 h4
  by_cases hlt:i<ws.length
  ·have d:decide ((i:Int)<(ws.length:Int))=true:=by simpa using hlt
   have hb:InB ws (i:Int):=aP.2 hlt
   have hwl:=hws _ (at_mem hlt)
   have e:=tL n (atI ws (i:Int)) (by omega)
   rw[Da0 hlt,jJ]at h4
   cases hok:(aN n (atI ws (i:Int))).2.2.2
   ·rw[hok]at h4 e
    simp only[Qbr,if_false]at h4
    right
    rw[<- h4]
    simp (disch:=first|assumption|omega) only[S0,rA,rQ,rB,rT,rE,d,aJ,e]
   ·rw[hok]at h4 e
    simp only[if_true]at h4
    have hi2:=dS (qW hok).2
    have hb2:InB t.rows (aN n (atI ws (i:Int))).1:=by have:=hT.2.1;unfold InB;omega
    have hrl:=vF (n:=n) (s:=atI ws (i:Int))
    have est:=uW n t.rows (aN n (atI ws (i:Int))).1 (aN n (atI ws (i:Int))).2.1 (aN n (atI ws (i:Int))).2.2.1.ballot (aN n (atI ws (i:Int))).2.2.1.vote (aN n (atI ws (i:Int))).2.2.1.state (aN n (atI ws (i:Int))).2.2.1.cmd.kind (aN n (atI ws (i:Int))).2.2.1.cmd.id (aN n (atI ws (i:Int))).2.2.1.cmd.src (aN n (atI ws (i:Int))).2.2.1.cmd.dst (aN n (atI ws (i:Int))).2.2.1.cmd.amt (aN n (atI ws (i:Int))).2.2.1.attr.seq (aN n (atI ws (i:Int))).2.2.1.attr.deps hg hT.2.1 (Oab hT (by omega)) hb2 hi2.2.2.1 (by omega) (by omega)
    have htn:t.n=n:=hT.1
    have eta:(⟨n,t.rows⟩:aR)=t:=by rw[<- htn]
    rw[eta]at est
    have er:(⟨(aN n (atI ws (i:Int))).2.2.1.ballot,(aN n (atI ws (i:Int))).2.2.1.vote,(aN n (atI ws (i:Int))).2.2.1.state,⟨(aN n (atI ws (i:Int))).2.2.1.cmd.kind,(aN n (atI ws (i:Int))).2.2.1.cmd.id,(aN n (atI ws (i:Int))).2.2.1.cmd.src,(aN n (atI ws (i:Int))).2.2.1.cmd.dst,(aN n (atI ws (i:Int))).2.2.1.cmd.amt⟩,⟨(aN n (atI ws (i:Int))).2.2.1.attr.seq,(aN n (atI ws (i:Int))).2.2.1.attr.deps⟩⟩:bL)=(aN n (atI ws (i:Int))).2.2.1:=rfl
    rw[er]at est
    have hT2:=Ead hT (by omega) hb2 hi2.2.2.1 hi2.2.2.2 hrl
    rw[hT2.1]at est
    refine .inl ⟨(i+1,l+(((atI ws (i:Int)).length:Int)+4),sV t (aN n (atI ws (i:Int))).1 (aN n (atI ws (i:Int))).2.1 (aN n (atI ws (i:Int))).2.2.1),?_,⟨by simp only;omega,hT2,by simp only;omega,by simp only;omega,h4⟩,by simp only;omega⟩
    simp (disch:=first|assumption|omega) only[S0,rA,rQ,rB,rT,rE,d,aJ,e,est,aG]
  ·have d:decide ((i:Int)<(ws.length:Int))=false:=by simpa using hlt
   have hd:ws.drop i=[]:=Tbb (by omega)
   rw[hd]at h4
   right
   rw[<- h4]
   simp (disch:=first|assumption|omega) only[S0,rA,rQ,rB,rT,rE,d]
   rfl
 ·have hfn:(jJ n ws 0 (nU n)).2.n=n:=hfi.1
  rw[hfn]
  simp (disch:=first|assumption|omega) only[S0,rA,rQ,rB,rT,rE]
theorem Oa6 (n:Int)(s:List UInt8):Fun T 126 [i64 n,.str s]=some [i64 (Bah n s).1.n,rL (Bah n s).1.rows,i64 (Bah n s).2.1,.bool (Bah n s).2.2]:=by
 rw[aK (t:=La6) rfl];unfold La6
 unfold Bah
 cases hg:bD n
 ·simp (disch:=first|assumption|omega) only[S0,rA,rQ,rB,rT,rE,aZ,hg]
  rfl
 cases d:decide (20000<(s.length:Int))
 ·have e:=tK n s hg (by simp only[decide_eq_false_iff_not]at d;omega)
  simp only[Rbr,Tbl,if_true]
  simp (disch:=first|assumption|omega) only[S0,rA,rQ,rB,rT,rE,aZ,hg,aG,d,e]
 ·simp (disch:=first|assumption|omega) only[S0,rA,rQ,rB,rT,rE,aZ,hg,aG,d]
  rfl
theorem kD (n:Int)(s:List UInt8):Fun T 120 [i64 n,.str s]=some [i64 (Bah n s).1.n,rL (Bah n s).1.rows,i64 (Bah n s).2.1,.bool (Bah n s).2.2]:=by
 rw[aK (t:=Mab) rfl];unfold Mab
 unfold Bah
 cases hg:bD n
 ·simp (disch:=first|assumption|omega) only[S0,rA,rQ,rB,rT,rE,dU,hg]
  rfl
 cases d:decide (20000<(s.length:Int))
 rotate_left
 ·simp (disch:=first|assumption|omega) only[S0,rA,rQ,rB,rT,rE,dU,hg,aG,d]
  rfl
 have hs:s.length<=20000:=by simp only[decide_eq_false_iff_not]at d;omega
 simp only[Rbr,Tbl,if_true]
 have hn:=aY hg
 have e0:=wU n hg
 have ef:=sG s (by omega)
 obtain⟨hws,hwl⟩:=jF s
 simp (disch:=first|assumption|omega) only[S0,rA,rQ,rB,rT,rE,dU,hg,aG,d,e0,ef]
 have hfi:=Aax hg (aF s) 0 (nU n) (qU (by omega))
 generalize aF s=ws at *
 rw[bV (.yield 1,[i64 (jJ n ws 0 (nU n)).1,i64 n,rL (jJ n ws 0 (nU n)).2.rows]) (fun c:Nat×Int×aR=>ws.length-c.1) (fun c=>c.1<=ws.length/\Bbn n c.2.2/\0<=c.2.1/\c.2.1<=1000*(c.1:Int)/\jJ n (ws.drop c.1) c.2.1 c.2.2=jJ n ws 0 (nU n)) (fun c=>[i64 c.2.1,i64 c.1,i64 n,rL c.2.2.rows]) (0,0,nU n) rfl ⟨by simp,qU (by omega),by simp,by simp,by simp⟩ (by simp)]
 rotate_left
 ·rintro⟨i,l,t⟩ ⟨h1,hT,h2,h3,h4⟩
  simp only at h1 hT h2 h3 h4
  by_cases hlt:i<ws.length
  ·have d:decide ((i:Int)<(ws.length:Int))=true:=by simpa using hlt
   have hb:InB ws (i:Int):=aP.2 hlt
   have hwl:=hws _ (at_mem hlt)
   have e:=pE n (atI ws (i:Int)) (by omega)
   rw[Da0 hlt,jJ]at h4
   cases hok:(aN n (atI ws (i:Int))).2.2.2
   ·rw[hok]at h4 e
    simp only[Qbr,if_false]at h4
    right
    rw[<- h4]
    simp (disch:=first|assumption|omega) only[S0,rA,rQ,rB,rT,rE,d,aJ,e]
   ·rw[hok]at h4 e
    simp only[if_true]at h4
    have hi2:=dS (qW hok).2
    have hb2:InB t.rows (aN n (atI ws (i:Int))).1:=by have:=hT.2.1;unfold InB;omega
    have hrl:=vF (n:=n) (s:=atI ws (i:Int))
    have est:=uP n t.rows (aN n (atI ws (i:Int))).1 (aN n (atI ws (i:Int))).2.1 (aN n (atI ws (i:Int))).2.2.1.ballot (aN n (atI ws (i:Int))).2.2.1.vote (aN n (atI ws (i:Int))).2.2.1.state (aN n (atI ws (i:Int))).2.2.1.cmd.kind (aN n (atI ws (i:Int))).2.2.1.cmd.id (aN n (atI ws (i:Int))).2.2.1.cmd.src (aN n (atI ws (i:Int))).2.2.1.cmd.dst (aN n (atI ws (i:Int))).2.2.1.cmd.amt (aN n (atI ws (i:Int))).2.2.1.attr.seq (aN n (atI ws (i:Int))).2.2.1.attr.deps hg (Oab hT (by omega)) hb2 hi2.2.2.1 (by omega) (by omega)
    have htn:t.n=n:=hT.1
    have eta:(⟨n,t.rows⟩:aR)=t:=by rw[<- htn]
    rw[eta]at est
    have er:(⟨(aN n (atI ws (i:Int))).2.2.1.ballot,(aN n (atI ws (i:Int))).2.2.1.vote,(aN n (atI ws (i:Int))).2.2.1.state,⟨(aN n (atI ws (i:Int))).2.2.1.cmd.kind,(aN n (atI ws (i:Int))).2.2.1.cmd.id,(aN n (atI ws (i:Int))).2.2.1.cmd.src,(aN n (atI ws (i:Int))).2.2.1.cmd.dst,(aN n (atI ws (i:Int))).2.2.1.cmd.amt⟩,⟨(aN n (atI ws (i:Int))).2.2.1.attr.seq,(aN n (atI ws (i:Int))).2.2.1.attr.deps⟩⟩:bL)=(aN n (atI ws (i:Int))).2.2.1:=rfl
    rw[er]at est
    have hT2:=Ead hT (by omega) hb2 hi2.2.2.1 hi2.2.2.2 hrl
    rw[hT2.1]at est
    refine .inl ⟨(i+1,l+(((atI ws (i:Int)).length:Int)+4),sV t (aN n (atI ws (i:Int))).1 (aN n (atI ws (i:Int))).2.1 (aN n (atI ws (i:Int))).2.2.1),?_,⟨by simp only;omega,hT2,by simp only;omega,by simp only;omega,h4⟩,by simp only;omega⟩
    simp (disch:=first|assumption|omega) only[S0,rA,rQ,rB,rT,rE,d,aJ,e,est,aG]
  ·have d:decide ((i:Int)<(ws.length:Int))=false:=by simpa using hlt
   have hd:ws.drop i=[]:=Tbb (by omega)
   rw[hd]at h4
   right
   rw[<- h4]
   simp (disch:=first|assumption|omega) only[S0,rA,rQ,rB,rT,rE,d]
   rfl
 ·have hfn:(jJ n ws 0 (nU n)).2.n=n:=hfi.1
  rw[hfn]
  simp (disch:=first|assumption|omega) only[S0,rA,rQ,rB,rT,rE]
theorem nX (n:Int)(h0:0<=n)(h1:n<=9999):Fun T 30 [i64 n,i64 10]=some [.str (aX n)]:=by
 rw[uS (e:=Ebm) rfl]
 exact Uau h0 h1
theorem wD (n:Int)(h0:0<=n)(h1:n<=9999):Fun T 29 [i64 n]=some [.str (aX n)]:=by
 rw[aK (t:=Cb3) rfl];unfold Cb3
 simp (disch:=first|assumption|omega) only[S0,rA,rQ,rB,rT,rE,nX]
theorem strconv_Itoa (n:Int)(h0:0<=n)(h1:n<=9999):Fun T 28 [i64 n]=some [.str (aX n)]:=by
 rw[aK (t:=Cb4) rfl];unfold Cb4
 simp (disch:=first|assumption|omega) only[S0,rA,rQ,rB,rT,rE,wD]
theorem strings_Join (xs:List (List UInt8))(b:UInt8)(hne:xs≠[])(hl:xs.length<=100000)(hw:∀ w∈xs,w.length<=10000):Fun T 33 [rL xs,.str [b]]=some [.str (bH b xs)]:=by
 rw[uS (e:=Nap) rfl]
 exact Za4 hne hl hw
theorem sF (xs:List Int)(b:UInt8)(hne:xs≠[])(hl:xs.length<=1000)(hr:∀ x∈xs,0<=x/\x<=9999):Fun T 27 [.str [b],rL xs]=some [.str (bH b (xs.map aX))]:=by
 rw[aK (t:=Cb5) rfl];unfold Cb5
 have em0:(aO.mk 1 0).run []=some [rL ([]:List (List UInt8))]:=rfl
 simp (disch:=first|assumption|omega) only[S0,rA,rQ,rB,rT,rE,em0]
 rw[bV (.yield 1,[rL (xs.map aX)]) (fun i:Nat=>xs.length-i) (fun i:Nat=>i<=xs.length) (fun i=>[rL ((xs.take i).map aX),i64 i]) 0 rfl (by simp) (by simp)]
 rotate_left
 ·intro i hi
  by_cases hlt:i<xs.length
  ·have d:decide ((i:Int)<(xs.length:Int))=true:=by simpa using hlt
   have hb:InB xs (i:Int):=aP.2 hlt
   have hm:=hr _ (at_mem hlt)
   have e:=strconv_Itoa (atI xs (i:Int)) hm.1 hm.2
   have z:((xs.take i).map aX).length+([aX (atI xs (i:Int))]:List (List UInt8)).length<=100000000000:=by rw[Rbf,Qb9];simp only[Qbt,Qbu];omega
   have e3:(xs.take i).map aX++[aX (atI xs (i:Int))]=(xs.take (i+1)).map aX:=by
    rw[<- take_at hlt]
    simp
   refine .inl ⟨i+1,?_,by omega,by omega⟩
   simp (disch:=first|assumption|omega) only[S0,rA,rQ,rB,rT,rE,d,aJ,e,iZ,iQ,e3]
  ·have d:decide ((i:Int)<(xs.length:Int))=false:=by simpa using hlt
   obtain rfl:i=xs.length:=by omega
   right
   rw[Qbx (Qbw _)]
   simp (disch:=first|assumption|omega) only[S0,rA,rQ,rB,rT,rE,d]
 ·have ej:=strings_Join (xs.map aX) b (by simpa using hne) (by rw[Rbf];omega) (by
   intro w hw
   obtain⟨x,h1,rfl⟩:=List.mem_map.1 hw
   exact bC (hr x h1).2)
  simp (disch:=first|assumption|omega) only[S0,rA,rQ,rB,rT,rE,ej]
theorem jZ (xs:List Int)(hne:xs≠[])(hl:xs.length<=1000)(hr:∀ x∈xs,0<=x/\x<=9999):Fun T 26 [rL xs]=some [.str (bH 32 (xs.map aX))]:=by
 rw[aK (t:=Cb6) rfl];unfold Cb6
 have e:=sF xs 32 hne hl hr
 simp (disch:=first|assumption|omega) only[S0,rA,rQ,rB,rT,rE,e]
theorem wV (sq:Int)(xs:List Int)(hne:xs≠[])(h0:0<=sq)(h1:sq<=9999)(hr:∀ x∈xs,0<=x/\x<=9999)(hx:xs.length<=1000):Fun T 39 [i64 sq,rL xs]=some [.str (gL ⟨sq,xs⟩)]/\(gL ⟨sq,xs⟩).length<=20000000:=by
 have l1:=bC h1
 have l2:(bH 44 (xs.map aX)).length<=10001*xs.length:=by
  have:=lK (b:=44) (ws:=xs.map aX) (by
   intro w hw
   obtain⟨x,h1,rfl⟩:=List.mem_map.1 hw
   exact bC (hr x h1).2)
  rwa[Rbf]at this
 refine⟨?_,by simp only[gL,Qbs,Qbt];omega⟩
 rw[aK (t:=Cb1) rfl];unfold Cb1
 have e:=strconv_Itoa sq h0 h1
 have e2:=sF xs 44 hne hx hr
 have g1:=bS (a:=aX sq) (b:=[58]) (by simp only[Qbt,Qbu];omega)
 have g2:=bS (a:=aX sq++[58]) (b:=bH 44 (xs.map aX)) (by simp only[Qbs,Qbt,Qbu];omega)
 have e3:aX sq++[58]++bH 44 (xs.map aX)=gL ⟨sq,xs⟩:=by simp[gL]
 simp (disch:=first|assumption|omega) only[S0,rA,rQ,rB,rT,rE,e,g1,e2,g2,e3]
theorem zK (k i f t a:Int)(h:dC ⟨k,i,f,t,a⟩=true):Fun T 38 [i64 k,i64 i,i64 f,i64 t,i64 a]=some [.str (pG ⟨k,i,f,t,a⟩)]:=by
 rw[aK (t:=Cb2) rfl];unfold Cb2
 have hr:=nO h
 simp only at hr
 obtain⟨⟨i0,i1⟩,⟨f0,f1⟩,⟨t0,t1⟩,a0,a1⟩:=hr
 have li:=bC i1
 have lf:=bC f1
 have lt:=bC t1
 have la:=bC a1
 have hk:=vQ h
 simp only at hk
 unfold pG
 rcases hk with rfl|rfl|rfl
 ·simp (disch:=first|assumption|omega) only[S0,rA,rQ,rB,rT,rE]
 ·have e:=jZ [i,f,t,a] (by simp) (by simp) (by
   intro x hx
   simp only[Rbk,Rbs,or_false]at hx
   omega)
  have g1:=bS (a:=[109,111,118,101,32]) (b:=bH 32 ([i,f,t,a].map aX)) (by simp only[Rbh,Rbq,bH,Qbs,Qbt,Qbu];omega)
  have e3:[109,111,118,101,32]++bH 32 ([i,f,t,a].map aX)=[109,111,118,101,32]++aX i++[32]++aX f++[32]++aX t++[32]++aX a:=by simp[bH]
  simp (disch:=first|assumption|omega) only[S0,rA,rQ,rB,rT,rE,iZ,e,g1,e3]
 ·have e:=jZ [i,f] (by simp) (by simp) (by
   intro x hx
   simp only[Rbk,Rbs,or_false]at hx
   omega)
  have g1:=bS (a:=[114,101,97,100,32]) (b:=bH 32 ([i,f].map aX)) (by simp only[Rbh,Rbq,bH,Qbs,Qbt,Qbu];omega)
  have e3:[114,101,97,100,32]++bH 32 ([i,f].map aX)=[114,101,97,100,32]++aX i++[32]++aX f:=by simp[bH]
  simp (disch:=first|assumption|omega) only[S0,rA,rQ,rB,rT,rE,iZ,e,g1,e3]
theorem tQ (rep no bal vot sta k i f t a sq:Int)(xs:List Int)(hne:xs≠[])(hn:∀ x∈[rep,no,bal,vot,sta],0<=x/\x<=9999)(hc:dC ⟨k,i,f,t,a⟩=true)(h1:0<=sq/\sq<=9999)(hr:∀ x∈xs,0<=x/\x<=9999)(hx:xs.length<=1000) :
  Fun T 25 [i64 rep,i64 no,i64 bal,i64 vot,i64 sta,i64 k,i64 i,i64 f,i64 t,i64 a,i64 sq,rL xs]=some [.str (gN rep no ⟨bal,vot,sta,⟨k,i,f,t,a⟩,⟨sq,xs⟩⟩)]:=by
 rw[aK (t:=Cb7) rfl];unfold Cb7
 have e0:=jZ [rep,no,bal,vot,sta] (by simp) (by simp) hn
 have ec:=zK k i f t a hc
 obtain⟨ea,la⟩:=wV sq xs hne h1.1 h1.2 hr hx
 have lc:=Ua7 hc
 have lA:=lK (b:=32) (ws:=[rep,no,bal,vot,sta].map aX) (by
  intro w hw
  obtain⟨x,h1,rfl⟩:=List.mem_map.1 hw
  exact bC (hn x h1).2)
 have hfin:bH 32 ([rep,no,bal,vot,sta].map aX)++[124]++pG ⟨k,i,f,t,a⟩++[124]++gL ⟨sq,xs⟩=gN rep no ⟨bal,vot,sta,⟨k,i,f,t,a⟩,⟨sq,xs⟩⟩:=by
  simp[gN,bH]
 have emk:(aO.mk 1 5).run [i64 rep,i64 no,i64 bal,i64 vot,i64 sta]=some [rL [rep,no,bal,vot,sta]]:=iZ.2.2.2.2.1
 rw[Rbf,show [rep,no,bal,vot,sta].length=5 from rfl]at lA
 generalize bH 32 ([rep,no,bal,vot,sta].map aX)=A at *
 have g1:=bS (a:=A) (b:=[124]) (by simp only[Qbt,Qbu];omega)
 have g2:=bS (a:=A++[124]) (b:=pG ⟨k,i,f,t,a⟩) (by simp only[Qbs,Qbt,Qbu];omega)
 have g3:=bS (a:=A++[124]++pG ⟨k,i,f,t,a⟩) (b:=[124]) (by simp only[Qbs,Qbt,Qbu];omega)
 have g4:=bS (a:=A++[124]++pG ⟨k,i,f,t,a⟩++[124]) (b:=gL ⟨sq,xs⟩) (by simp only[Qbs,Qbt,Qbu];omega)
 simp (disch:=first|assumption|omega) only[S0,rA,rQ,rB,rT,rE,emk,e0,g1,ec,g2,g3,ea,g4,hfin]
theorem zL (n rep no bal vot sta k i f t a sq:Int)(xs:List Int)(hx:xs.length<=1099511627776) :
  Fun T 11 [i64 n,i64 rep,i64 no,i64 bal,i64 vot,i64 sta,i64 k,i64 i,i64 f,i64 t,i64 a,i64 sq,rL xs]=some [.str (gW n rep no ⟨bal,vot,sta,⟨k,i,f,t,a⟩,⟨sq,xs⟩⟩).1,.bool (gW n rep no ⟨bal,vot,sta,⟨k,i,f,t,a⟩,⟨sq,xs⟩⟩).2]:=by
 rw[aK (t:=Dbq) rfl];unfold Dbq
 unfold gW
 cases hi:bD n&&inst n rep no
 ·simp (disch:=first|assumption|omega) only[S0,rA,rQ,rB,rT,rE,bO,hi]
 have hg:bD n=true:=by
  simp only[Qbq]at hi
  exact hi.1
 have hi2:inst n rep no=true:=by
  simp only[Qbq]at hi
  exact hi.2
 have er:=mK n bal vot sta k i f t a sq xs hg hx
 cases hr:rowOk n ⟨bal,vot,sta,⟨k,i,f,t,a⟩,⟨sq,xs⟩⟩
 ·simp (disch:=first|assumption|omega) only[S0,rA,rQ,rB,rT,rE,bO,hi,er,hr]
 have h1:=dS hi2
 have hn:=aY hg
 have h2:=lH hr
 have h3:=nG hr
 have h4:=gP (kM hr hg)
 simp only at h2 h3 h4
 have hne:xs≠[]:=by
  intro e
  rw[e]at h4
  simp only[Qbu]at h4
  omega
 have et:=tQ rep no bal vot sta k i f t a sq xs hne (by
  intro x hx
  simp only[Rbk,Rbs,or_false]at hx
  omega) h3 ⟨h4.1,by omega⟩ (fun x hx=>⟨(h4.2.2.2 x hx).1,by have:=(h4.2.2.2 x hx).2;omega⟩) (by omega)
 simp (disch:=first|assumption|omega) only[S0,rA,rQ,rB,rT,rE,bO,hi,er,hr,et]
theorem wH (n:Int)(s:List UInt8)(rep no bal vot sta k i f t a sq:Int)(xs:List Int)(hx:xs.length<=1099511627776):Fun T 115 [i64 n,.str s,i64 rep,i64 no,i64 bal,i64 vot,i64 sta,i64 k,i64 i,i64 f,i64 t,i64 a,i64 sq,rL xs]=some [.str (Gap n s rep no ⟨bal,vot,sta,⟨k,i,f,t,a⟩,⟨sq,xs⟩⟩).1,.bool (Gap n s rep no ⟨bal,vot,sta,⟨k,i,f,t,a⟩,⟨sq,xs⟩⟩).2]:=by
 rw[aK (t:=Mag) rfl];unfold Mag
 have eT:=jT n rep no bal vot sta k i f t a sq xs hx
 unfold Gap
 cases ho:(gW n rep no ⟨bal,vot,sta,⟨k,i,f,t,a⟩,⟨sq,xs⟩⟩).2
 ·rw[ho]at eT
  simp only[Rbp,Qbr,if_false]
  simp (disch:=first|assumption|omega) only[S0,rA,rQ,rB,rT,rE,eT]
 rw[ho]at eT
 have hok:(bD n&&inst n rep no&&rowOk n ⟨bal,vot,sta,⟨k,i,f,t,a⟩,⟨sq,xs⟩⟩)=true:=by
  unfold gW at ho
  cases h:(bD n&&inst n rep no&&rowOk n ⟨bal,vot,sta,⟨k,i,f,t,a⟩,⟨sq,xs⟩⟩)
  ·rw[h]at ho;cases ho
  ·rfl
 have ht:(gW n rep no ⟨bal,vot,sta,⟨k,i,f,t,a⟩,⟨sq,xs⟩⟩).1=gN rep no ⟨bal,vot,sta,⟨k,i,f,t,a⟩,⟨sq,xs⟩⟩:=by
  unfold gW
  rw[hok]
  rfl
 rw[ht]at eT
 simp only[Qbq]at hok
 obtain⟨⟨hg,hi⟩,hr⟩:=hok
 have hfew:=nE hg hi hr
 generalize gN rep no ⟨bal,vot,sta,⟨k,i,f,t,a⟩,⟨sq,xs⟩⟩=w at *
 cases d1:decide (20000<(s.length:Int))
 rotate_left
 ·simp only[Rbl,Sba,Rbp,Qbr,if_false]
  simp (disch:=first|assumption|omega) only[S0,rA,rQ,rB,rT,rE,eT,aG,d1]
 have hs:s.length<=20000:=by simp only[decide_eq_false_iff_not]at d1;omega
 have eF:=tK n s hg hs
 have ef:=fD w (by omega)
 have hfl:=fA (w:=w)
 have g1:=bS (a:=s) (b:=bI w) (by omega)
 have el:((s++bI w).length:Int)=(s.length:Int)+(w.length:Int)+4:=by rw[Qbs,hfl];omega
 cases d2:decide ((jJ n (aF s) 0 (nU n)).1<(s.length:Int))
 ·cases d3:decide (20000<(s.length:Int)+(w.length:Int)+4)
  ·simp only[Rbr,Tbl,if_true]
   simp (disch:=first|assumption|omega) only[S0,rA,rQ,rB,rT,rE,eT,aG,d1,eF,ef,g1,d2,el,d3]
  ·simp only[Rbl,Sba,Qbr,if_false]
   simp (disch:=first|assumption|omega) only[S0,rA,rQ,rB,rT,rE,eT,aG,d1,eF,ef,g1,d2,el,d3]
 ·simp only[Rbl,Sba,Rbp,Qbr,if_false]
  simp (disch:=first|assumption|omega) only[S0,rA,rQ,rB,rT,rE,eT,aG,d1,eF,ef,g1,d2]
theorem yG (n rep no:Int)(r:bL)(hg:bD n=true)(hi:inst n rep no=true)(hr:rowOk n r=true):Fun T 52 [i64 rep,i64 no,i64 r.ballot,i64 r.vote,i64 r.state,i64 r.cmd.kind,i64 r.cmd.id,i64 r.cmd.src,i64 r.cmd.dst,i64 r.cmd.amt,i64 r.attr.seq,rL r.attr.deps]=some [.str (gN rep no r)]:=by
 have h1:=dS hi
 have hn:=aY hg
 have h2:=lH hr
 have h3:=nG hr
 have h4:=gP (kM hr hg)
 exact rO rep no r.ballot r.vote r.state r.cmd.kind r.cmd.id r.cmd.src r.cmd.dst r.cmd.amt r.attr.seq r.attr.deps ⟨by omega,by omega⟩ (by
  intro x hx
  simp only[Rbk,Rbs,or_false]at hx
  omega) h3 ⟨h4.1,by omega⟩ (fun x hx=>⟨(h4.2.2.2 x hx).1,by have:=(h4.2.2.2 x hx).2;omega⟩) (by omega)
theorem Aah (n:Int)(rows:List (List bL))(hs:mR rows):Fun T 113 [i64 n,rL rows]=some [.str (Pa0 ⟨n,rows⟩).1,.bool (Pa0 ⟨n,rows⟩).2]:=by
 rw[aK (t:=Mai) rfl];unfold Mai
 unfold Pa0
 have eg:=uJ n rows hs
 cases hT:eQ ⟨n,rows⟩
 ·simp only[Rbp,Qbr,if_false]
  simp (disch:=first|assumption|omega) only[S0,rA,rQ,rB,rT,rE,eg,hT]
 have hl:=lD hT
 have hgr:=aY (gB hT)
 have htl:=Gau hT
 simp only at hl hgr htl
 simp only[Sbg]
 simp (disch:=first|assumption|omega) only[S0,rA,rQ,rB,rT,rE,eg,hT]
 rw[bV (.yield 1,[.str (yC rows rows.length)]) (fun i:Nat=>rows.length-i) (fun i:Nat=>i<=rows.length) (fun i=>[.str (yC rows i),i64 i]) 0 rfl (by simp) (by simp)]
 rotate_left
 ·intro i hi
  by_cases hlt:i<rows.length
  ·have d:decide ((i:Int)<(rows.length:Int))=true:=by simpa using hlt
   have hb:InB rows (i:Int):=aP.2 hlt
   have hl6:=(kJ hT (at_mem hlt)).1
   have hta:=fun (j:Nat) (hj:j<(atI rows (i:Int)).length)=>Har hT (i:=i) (j:=j) hlt hj
   have hrl:=Ca2 hT (i:=i) hlt
   have htli:=htl i (by omega)
   have htf:yC rows (i+1)=yC rows i++Cac (i:Int) (atI rows (i:Int)) (atI rows (i:Int)).length:=rfl
   simp only at hl6 hta hrl
   refine .inl ⟨i+1,?_,by omega,by omega⟩
   rw[htf]
   simp (disch:=first|assumption|omega) only[S0,rA,rQ,rB,rT,rE,d,aJ]
   generalize atI rows (i:Int)=xs at *
   generalize yC rows i=A at *
   rw[bV (.yield 3,[.str (A++Cac (i:Int) xs xs.length)]) (fun j:Nat=>xs.length-j) (fun j:Nat=>j<=xs.length) (fun j=>[.str (A++Cac (i:Int) xs j),i64 j]) 0 (by simp[aM.val,Cac]) (by simp) (by simp)]
   rotate_left
   ·intro j hj
    by_cases hlt2:j<xs.length
    ·have d2:decide ((j:Int)<(xs.length:Int))=true:=by simpa using hlt2
     have hb2:InB xs (j:Int):=aP.2 hlt2
     obtain⟨q1,q2,q3,q4⟩:=hta j hlt2
     have er:=yG n (i:Int) ((j:Int)+1) (atI xs (j:Int)) q1 q2 q3
     have hfew:=nE q1 q2 q3
     have ef:=fD (gN (i:Int) ((j:Int)+1) (atI xs (j:Int))) (by omega)
     have hrf:Cac (i:Int) xs (j+1)=Cac (i:Int) xs j++bI (gN (i:Int) ((j:Int)+1) (atI xs (j:Int))):=rfl
     have hrlj:=hrl j (by omega)
     have hfl:=fA (w:=gN (i:Int) ((j:Int)+1) (atI xs (j:Int)))
     have g1:=bS (a:=A++Cac (i:Int) xs j) (b:=bI (gN (i:Int) ((j:Int)+1) (atI xs (j:Int)))) (by rw[Qbs];omega)
     rw[Qb1,<- hrf]at g1
     refine .inl ⟨j+1,?_,by omega,by omega⟩
     simp (disch:=first|assumption|omega) only[S0,rA,rQ,rB,rT,rE,d2,aJ,er,ef,g1]
    ·have d2:decide ((j:Int)<(xs.length:Int))=false:=by simpa using hlt2
     obtain rfl:j=xs.length:=by omega
     right
     simp (disch:=first|assumption|omega) only[S0,rA,rQ,rB,rT,rE,d2]
   ·simp (disch:=first|assumption|omega) only[S0,rA,rQ,rB,rT,rE]
  ·have d:decide ((i:Int)<(rows.length:Int))=false:=by simpa using hlt
   obtain rfl:i=rows.length:=by omega
   right
   simp (disch:=first|assumption|omega) only[S0,rA,rQ,rB,rT,rE,d]
 ·cases d:decide (20000<((yC rows rows.length).length:Int))
  ·simp only[Rbr,if_true]
   simp (disch:=first|assumption|omega) only[S0,rA,rQ,rB,rT,rE,aG,d]
  ·simp only[Rbl,Qbr,if_false]
   simp (disch:=first|assumption|omega) only[S0,rA,rQ,rB,rT,rE,aG,d]
theorem Aa2 (code:D)(hc:isBytes code)(x y:List UInt8)(a s:Int)(hx:x.length<=1000000)(hy:0<y.length/\y.length<=100)(h0:0<=a)(h1:a<=100000000):∃ (z:List UInt8) (a' s':Int),Fun T 87 [.str x,.str y,code,i64 a,u64 s]=some [.str z,code,i64 a',u64 s']/\z.length<=x.length+2/\a<=a'/\a'<=a+100:=by
 rw[aK (t:=Bb5) rfl];unfold Bb5
 obtain⟨v1,a1,s1,e1,p1,q1,g1,j1⟩:=aS code hc 2 a s h0 (by omega)
 have q1':=q1 (by omega)
 simp (disch:=first|assumption|omega) only[S0,rA,rQ,rB,rT,rE,e1]
 generalize hE:Er T (Tm.loop _ _) _=E
 have key:∃ q,E=some q/\∃ (z:List UInt8) (a' s':Int),q=(.yield 1,[.str z,code,i64 a',u64 s'])/\z.length<=x.length+2/\a<=a'/\a'<=a+100:=by
  rw[<- hE]
  refine nJ (γ:=Nat×List UInt8×Int×Int) (fun c=>c.1) (fun c=>c.1<=2/\c.2.1.length+c.1<=x.length+2/\a<=c.2.2.1/\c.2.2.1+10*c.1<=a+22) (fun c=>[.str c.2.1,i64 c.1,code,i64 c.2.2.1,u64 c.2.2.2]) _ ((1+v1).toNat,x,a1,s1) (by rw[show (((1+v1).toNat:Nat):Int)=1+v1 by omega];rfl) (by simp only;omega) ?_
  rintro⟨k,t,a2,s2⟩ ⟨h2,h3,h4,h5⟩
  simp only at h2 h3 h4 h5
  by_cases hk:0<k
  rotate_left
  ·have d:decide (0<(k:Int))=false:=by simpa using hk
   refine .inr ⟨(.yield 1,[.str t,code,i64 a2,u64 s2]),?_,by simp,t,a2,s2,rfl,by omega,by omega,by omega⟩
   simp (disch:=first|assumption|omega) only[S0,rA,rQ,rB,rT,rE,d]
  have d:decide (0<(k:Int))=true:=by simpa using hk
  by_cases hz:0<(t.length:Int)
  rotate_left
  ·have d2:decide (0<(t.length:Int))=false:=by simpa using hz
   refine .inr ⟨(.yield 1,[.str t,code,i64 a2,u64 s2]),?_,by simp,t,a2,s2,rfl,by omega,by omega,by omega⟩
   simp (disch:=first|assumption|omega) only[S0,rA,rQ,rB,rT,rE,d,aG,d2]
  have d2:decide (0<(t.length:Int))=true:=by simpa using hz
  obtain⟨v3,a3,s3,e3,p3,q3,g3,j3⟩:=aS code hc t.length a2 s2 (by omega) (by omega)
  obtain⟨v4,a4,s4,e4,p4,q4,g4,j4⟩:=aS code hc y.length a3 s3 (by omega) (by omega)
  obtain⟨v5,a5,s5,e5,p5,q5,g5,j5⟩:=aS code hc 3 a4 s4 (by omega) (by omega)
  have q3':=q3 (by omega)
  have q4':=q4 (by omega)
  have ei:=kS (s:=y) (k:=v4) (by omega) (by omega)
  have ek:(aO.mk 1 1).run [u8 (atI y v4)]=some [.rows 1 [[u8 (atI y v4)]]]:=rfl
  have eb:aO.bstr.run [.rows 1 [[u8 (atI y v4)]]]=some [.str [atI y v4]]:=by
   show some [D.str [UInt8.ofNat ((atI y v4).toNat:Int).toNat]]=_
   rw[Rbd,UInt8.ofNat_toNat]
  have b1:=dX (s:=t) (lo:=0) (hi:=v3) (by omega) (by omega) (by omega)
  have b2:=dX (s:=t) (lo:=v3) (hi:=(t.length:Int)) (by omega) (by omega) (by omega)
  have b3:=dX (s:=t) (lo:=v3+1) (hi:=(t.length:Int)) (by omega) (by omega) (by omega)
  have l1:((t.take v3.toNat).drop (0:Int).toNat).length=v3.toNat:=by rw[Rbn,Qb9];simp;omega
  have l2:((t.take (t.length:Int).toNat).drop v3.toNat).length=t.length-v3.toNat:=by rw[Rbn,Qb9];omega
  have l3:((t.take (t.length:Int).toNat).drop (v3+1).toNat).length=t.length-(v3.toNat+1):=by rw[Rbn,Qb9];omega
  have ek1:(k:Int)-1=((k-1:Nat):Int):=by omega
  generalize (t.take v3.toNat).drop (0:Int).toNat=A at *
  generalize (t.take (t.length:Int).toNat).drop v3.toNat=B at *
  generalize (t.take (t.length:Int).toNat).drop (v3+1).toNat=C at *
  have f1:=bS (a:=A) (b:=[atI y v4]) (by simp only[Qbt,Qbu];omega)
  have f2:=bS (a:=A++[atI y v4]) (b:=B) (by simp only[Qbs,Qbt,Qbu];omega)
  have f3:=bS (a:=A++[atI y v4]) (b:=C) (by simp only[Qbs,Qbt,Qbu];omega)
  have f4:=bS (a:=A) (b:=C) (by omega)
  cases c0:v5==0
  rotate_left
  ·refine .inl ⟨(k-1,A++[atI y v4]++B,a5,s5),?_,⟨by simp only;omega,by simp only[Qbs,Qbt,Qbu];omega,by simp only;omega,by simp only;omega⟩,by simp only;omega⟩
   simp (disch:=first|assumption|omega) only[S0,rA,rQ,rB,rT,rE,d,aG,d2,e3,e4,ei,ek,eb,e5,c0,b1,f1,b2,f2,ek1]
  cases c1:v5==1
  rotate_left
  ·refine .inl ⟨(k-1,A++[atI y v4]++C,a5,s5),?_,⟨by simp only;omega,by simp only[Qbs,Qbt,Qbu];omega,by simp only;omega,by simp only;omega⟩,by simp only;omega⟩
   simp (disch:=first|assumption|omega) only[S0,rA,rQ,rB,rT,rE,d,aG,d2,e3,e4,ei,ek,eb,e5,c0,c1,b1,f1,b3,f3,ek1]
  ·refine .inl ⟨(k-1,A++C,a5,s5),?_,⟨by simp only;omega,by simp only[Qbs];omega,by simp only;omega,by simp only;omega⟩,by simp only;omega⟩
   simp (disch:=first|assumption|omega) only[S0,rA,rQ,rB,rT,rE,d,aG,d2,e3,e4,ei,ek,eb,e5,c0,c1,b1,b3,f4,ek1]
 obtain⟨q,rfl,z,a2,s2,rfl,z1,z2,z3⟩:=key
 simp (disch:=first|assumption|omega) only[S0,rA,rQ,rB,rT,rE]
 exact⟨_,_,_,rfl,z1,z2,z3⟩
theorem Fa3 (s:List UInt8):Fun T 77 [.str s]=some [.str (Ebi s).1,.bool (Ebi s).2]:=by
 rw[aK (t:=Cbf) rfl];unfold Cbf
 unfold Ebi
 cases d:decide (200<(s.length:Int))
 ·have e:=mM s (by simp only[decide_eq_false_iff_not]at d;omega)
  simp only[Qbr,if_false]
  simp (disch:=first|assumption|omega) only[S0,rA,rQ,rB,rT,rE,aG,d,e]
 ·simp only[if_true]
  simp (disch:=first|assumption|omega) only[S0,rA,rQ,rB,rT,rE,aG,d]
theorem Oa5 (s:List UInt8):Fun T 95 [.str s]=some [.str (Ebi s).1,.bool (Ebi s).2]:=by
 rw[aK (t:=Bb2) rfl];unfold Bb2
 unfold Ebi
 cases d:decide (200<(s.length:Int))
 ·have e:=fD s (by simp only[decide_eq_false_iff_not]at d;omega)
  simp only[Qbr,if_false]
  simp (disch:=first|assumption|omega) only[S0,rA,rQ,rB,rT,rE,aG,d,e]
 ·simp only[if_true]
  simp (disch:=first|assumption|omega) only[S0,rA,rQ,rB,rT,rE,aG,d]
theorem Bay (s:List UInt8)(k:Int):Fun T 128 [.str s,i64 k]=some [.str (Wa8 s k).1,.bool (Wa8 s k).2]:=by
 rw[aK (t:=La4) rfl];unfold La4
 unfold Wa8
 cases d:decide (20000<(s.length:Int))
 ·cases c:inR k 0 (s.length:Int)
  ·simp only[Rbr,Sb6,if_true]
   simp (disch:=first|assumption|omega) only[S0,rA,rQ,rB,rT,rE,aG,d,dL,c]
  ·have hr:=kV.1 c
   have e:=dX (s:=s) (lo:=0) (hi:=k) (by omega) hr.1 hr.2
   rw[show (0:Int).toNat=0 from rfl,Sb9]at e
   simp only[Rbl,Tba,Qbr,if_false]
   simp (disch:=first|assumption|omega) only[S0,rA,rQ,rB,rT,rE,aG,d,dL,c,e]
 ·simp only[Sbw,if_true]
  simp (disch:=first|assumption|omega) only[S0,rA,rQ,rB,rT,rE,aG,d]
theorem Ra1 (s:List UInt8)(k:Int):Fun T 129 [.str s,i64 k]=some [.str (Wa8 s k).1,.bool (Wa8 s k).2]:=by
 rw[aK (t:=La3) rfl];unfold La3
 unfold Wa8
 cases d:decide (20000<(s.length:Int))
 ·cases c:inR k 0 (s.length:Int)
  ·simp only[Rbr,Sb6,if_true]
   simp (disch:=first|assumption|omega) only[S0,rA,rQ,rB,rT,rE,aG,d,bZ,c]
  ·have hr:=kV.1 c
   have e:=dX (s:=s) (lo:=0) (hi:=k) (by omega) hr.1 hr.2
   rw[show (0:Int).toNat=0 from rfl,Sb9]at e
   simp only[Rbl,Tba,Qbr,if_false]
   simp (disch:=first|assumption|omega) only[S0,rA,rQ,rB,rT,rE,aG,d,bZ,c,e]
 ·simp only[Sbw,if_true]
  simp (disch:=first|assumption|omega) only[S0,rA,rQ,rB,rT,rE,aG,d]
theorem Bao (n:Int)(rows:List (List bL))(c_kind c_id c_src c_dst c_amt:Int)(rep no:Int)(hn0:0<=n)(hn1:n<=1000)(hl:(rows.length:Int)<=n)(hs:mR rows)(hc:dC ⟨c_kind,c_id,c_src,c_dst,c_amt⟩=true)(hr:∀ l∈rows,∀ r∈l,dC r.cmd=true/\r.attr.seq<=1000000):Fun T 102 [i64 n,rL rows,i64 c_kind,i64 c_id,i64 c_src,i64 c_dst,i64 c_amt,i64 rep,i64 no]=some [i64 (Xaa ⟨n,rows⟩ ⟨c_kind,c_id,c_src,c_dst,c_amt⟩ rep no).seq,rL (Xaa ⟨n,rows⟩ ⟨c_kind,c_id,c_src,c_dst,c_amt⟩ rep no).deps]:=by
 rw[aK (t:=Mar) rfl];unfold Mar;unfold Xaa
 have hq:∀ l∈rows,∀ r∈l,r.attr.seq<=1000000:=fun l h r h2=>(hr l h r h2).2
 have hK:=fun k hk=>Eaa (t:=⟨n,rows⟩) (c:=⟨c_kind,c_id,c_src,c_dst,c_amt⟩) (rep:=rep) (no:=no) (M:=1000000) (by omega) k hk hq
 have hfin:=hK rows.length (Qbw _)
 simp only at hfin hK
 generalize hC:(⟨c_kind,c_id,c_src,c_dst,c_amt⟩:nS)=C at hc hK hfin ⊢
 have e0:=jS n hn0 hn1
 simp (disch:=first|assumption|omega) only[S0,rA,rQ,rB,rT,rE,e0]
 rw[Gak rows.length (fun k=>[i64 k,i64 (Jaq ⟨n,rows⟩ C rep no k).seq,rL (Jaq ⟨n,rows⟩ C rep no k).deps]) (.yield 1,[i64 (Jaq ⟨n,rows⟩ C rep no rows.length).seq,rL (Jaq ⟨n,rows⟩ C rep no rows.length).deps]) rfl (by simp)]
 ·simp (disch:=first|assumption|omega) only[S0,rA,rQ,rB,rT,rE]
 ·intro k hk hlt
  have hbk:InB rows (k:Int):=aP.2 hk
  have hsm:=(hs.2 _ (at_mem hk)).1
  have hrl:=hr _ (at_mem hk)
  obtain⟨a1,a2,a3⟩:=hK k (by omega)
  have eS:Jaq ⟨n,rows⟩ C rep no (k+1)=Eai C rep no k (atI rows (k:Int)) (Jaq ⟨n,rows⟩ C rep no k) (atI rows (k:Int)).length:=rfl
  rw[eS]
  generalize hL:atI rows (k:Int)=L at hsm hrl ⊢
  generalize Jaq ⟨n,rows⟩ C rep no k=A at a1 a2 a3 ⊢
  have hI:=fun i hi=>Eab (c:=C) (rep:=rep) (no:=no) (k:=k) (l:=L) (M:=1000000) a2 a3 i hi (fun r h=>(hrl r h).2)
  simp (disch:=first|assumption|omega) only[S0,rA,rQ,rB,rT,rE,aJ,hlt,hL]
  rw[Gak L.length (fun i=>[i64 i,i64 (Eai C rep no k L A i).seq,rL (Eai C rep no k L A i).deps]) (.yield 3,[i64 (Eai C rep no k L A L.length).seq,rL (Eai C rep no k L A L.length).deps]) rfl (by simp)]
  ·simp (disch:=first|assumption|omega) only[S0,rA,rQ,rB,rT,rE]
  ·intro i hi hlti
   have hbi:InB L (i:Int):=aP.2 hi
   have hrr:=(hrl _ (at_mem hi)).1
   obtain⟨b1,b2,b3⟩:=hI i (by omega)
   have eI:Eai C rep no k L A (i+1)=if Xa2 C rep no k i (atI L (i:Int)) then Eai C rep no k L A i
    else ⟨max (Eai C rep no k L A i).seq (atI L (i:Int)).attr.seq,cZ (Eai C rep no k L A i).deps (k:Int) ((i:Int)+1)⟩:=rfl
   rw[eI]
   generalize hR:atI L (i:Int)=r at hrr ⊢
   generalize Eai C rep no k L A i=B at b1 b2 b3 ⊢
   have hbb:InB B.deps (k:Int):=by unfold InB;omega
   subst hC
   have hI2:=pQ c_kind c_id c_src c_dst c_amt r.cmd.kind r.cmd.id r.cmd.src r.cmd.dst r.cmd.amt hc hrr
   have eR:(⟨r.cmd.kind,r.cmd.id,r.cmd.src,r.cmd.dst,r.cmd.amt⟩:nS)=r.cmd:=rfl
   rw[eR]at hI2
   unfold Xa2
   cases c1:(r.state==0)
   rotate_left
   ·simp (disch:=first|assumption|omega) only[S0,rA,rQ,rB,rT,rE,aJ,hlti,hR,c1,Sbw]
   cases c2:Iak ⟨c_kind,c_id,c_src,c_dst,c_amt⟩ r.cmd
   ·rw[c2]at hI2
    simp (disch:=first|assumption|omega) only[S0,rA,rQ,rB,rT,rE,aJ,hlti,hR,c1,hI2,Rbr,Sb3,Sbw]
   rw[c2]at hI2
   cases c3:((k:Int)==rep)
   ·simp (disch:=first|assumption|omega) only[S0,rA,rQ,rB,rT,rE,aJ,hlti,hR,c1,hI2,c3,Rbl,Rbp,Tba,Qbr,dI,rM]
   cases c4:((i:Int)+1==no)
   ·simp (disch:=first|assumption|omega) only[S0,rA,rQ,rB,rT,rE,aJ,hlti,hR,c1,hI2,c3,c4,Rbl,Sba,Tba,Qbr,dI,rM]
   ·simp (disch:=first|assumption|omega) only[S0,rA,rQ,rB,rT,rE,aJ,hlti,hR,c1,hI2,c3,c4,Rbl,Sbh,Sb3,Qbr]
  ·intro hlti
   simp (disch:=first|assumption|omega) only[S0,rA,rQ,rB,rT,rE,hlti]
 ·intro hlt
  simp (disch:=first|assumption|omega) only[S0,rA,rQ,rB,rT,rE,hlt]
theorem Na3 (code:D)(hc:isBytes code)(a s:Int)(h0:0<=a)(h1:a<=1152921504606846976):∃ (c:nS) (a' s':Int),Fun T 8 [code,i64 a,u64 s]=some [i64 c.kind,i64 c.id,i64 c.src,i64 c.dst,i64 c.amt,code,i64 a',u64 s']/\dC c=true/\a<=a'/\a'<=a+10:=by
 rw[aK (t:=tm8) rfl];unfold tm8
 obtain⟨v1,a1,s1,e1,p1,q1,g1,k1⟩:=aS code hc 9 a s h0 (by omega)
 obtain⟨v2,a2,s2,e2,p2,q2,g2,k2⟩:=aS code hc 4 a1 s1 (by omega) (by omega)
 obtain⟨v3,a3,s3,e3,p3,q3,g3,k3⟩:=aS code hc 30 a2 s2 (by omega) (by omega)
 obtain⟨v4,a4,s4,e4,p4,q4,g4,k4⟩:=aS code hc 3 a3 s3 (by omega) (by omega)
 obtain⟨v5,a5,s5,e5,g5,k5⟩:=iY code hc 4 a4 s4 (by omega) (by omega)
 have r2:=oL (a:=v2+1+v4) (b:=4) (by omega) (by omega)
 have q1':=q1 (by omega)
 have q2':=q2 (by omega)
 have q3':=q3 (by omega)
 have q4':=q4 (by omega)
 have h1:inR (1+v1) 1 999=true:=kV.2 (by omega)
 have h2:inR v2 0 3=true:=kV.2 (by omega)
 cases v5
 ·have h3:inR ((v2+1+v4) % 4) 0 3=true:=kV.2 (by omega)
  have h4:inR (1+v3) 1 1000=true:=kV.2 (by omega)
  have h5:(v2==(v2+1+v4) % 4)=false:=by simp;omega
  simp (disch:=first|assumption|omega) only[S0,rA,rQ,rB,rT,rE,e1,e2,e3,e4,e5,r2]
  refine⟨⟨_,_,_,_,_⟩,_,_,rfl,?_,by omega,by omega⟩
  unfold dC
  rw[if_neg (by simp),if_pos (by simp)]
  simp only[h1,h2,h3,h4,h5]
  rfl
 ·simp (disch:=first|assumption|omega) only[S0,rA,rQ,rB,rT,rE,e1,e2,e3,e4,e5,r2]
  refine⟨⟨_,_,_,_,_⟩,_,_,rfl,?_,by omega,by omega⟩
  unfold dC
  rw[if_neg (by simp),if_neg (by simp)]
  simp only[h1,h2]
  rfl
theorem xH (code:D)(hc:isBytes code)(a s:Int)(h0:0<=a)(h1:a<=144115188075855872):∃ (t:aR) (a' s':Int),Fun T 101 [code,i64 a,u64 s]=some [i64 t.n,rL t.rows,code,i64 a',u64 s']/\(0<=t.n/\t.n<=5)/\t.rows.length<=5/\(∀ l∈t.rows,l.length<=5/\∀ r∈l,r.attr.deps.length<=10)/\a<=a'/\a'<=a+4000:=by
 rw[aK (t:=Mas) rfl];unfold Mas
 have e0:=vN 3 (by omega) (by omega)
 obtain⟨v1,a1,s1,e1,p1,q1,g1,k1⟩:=aS code hc 9 a s h0 (by omega)
 have q1':=q1 (by omega)
 simp (disch:=first|assumption|omega) only[S0,rA,rQ,rB,rT,rE,e0,e1]
 generalize hE:Er T (Tm.loop _ _) _=E
 have key:∃ q,E=some q/\∃ (rows:List (List bL)) (a' s':Int),q=(.yield 1,[code,i64 a',u64 s',i64 3,rL rows])/\rows.length=3/\(∀ l∈rows,l.length<=4/\∀ r∈l,r.attr.deps.length<=10)/\a<=a'/\a'<=a+1500:=by
  rw[<- hE]
  refine nJ (γ:=Nat×Int×Int×List (List bL)) (fun c=>c.1) (fun c=>c.1<=8/\c.2.2.2.length=3/\(∀ l∈c.2.2.2,l.length<=4/\∀ r∈l,r.attr.deps.length<=10/\dC r.cmd=true/\r.attr.seq+c.1<=10)/\a1<=c.2.1/\c.2.1+100*c.1<=a1+900)
   (fun c=>[i64 c.1,code,i64 c.2.1,u64 c.2.2.1,i64 3,rL c.2.2.2]) _ (v1.toNat,a1,s1,[[],[],[]]) ?_ ⟨by simp only;omega,rfl,by intro l hl;simp at hl;rw[hl];simp,by simp only;omega,by simp only;omega⟩ ?_
  ·show [i64 v1,code,i64 a1,u64 s1,i64 3,_]=[i64 ((v1.toNat:Nat):Int),code,i64 a1,u64 s1,i64 3,_]
   rw[show ((v1.toNat:Nat):Int)=v1 by omega]
   rfl
  rintro⟨m,a2,s2,rows⟩ ⟨h2,h3,h4,h5,h6⟩
  simp only at h2 h3 h4 h5 h6
  by_cases hm:0<m
  ·have d:decide (0<(m:Int))=true:=by simpa using hm
   obtain⟨rep,a3,s3,e3,p3,q3,g3,k3⟩:=aS code hc 3 a2 s2 (by omega) (by omega)
   have q3':=q3 (by omega)
   have hb:InB rows rep:=by unfold InB;omega
   obtain⟨hl1,hl2⟩:=h4 _ (dG hb)
   have hsm:mR rows:=⟨by omega,fun l hl=>⟨by have:=(h4 l hl).1;omega,fun r hr=>by have:=((h4 l hl).2 r hr).1;omega⟩⟩
   have em:((m-1:Nat):Int)=(m:Int)-1:=by omega
   left
   cases c4:decide (4<((atI rows rep).length:Int)+1)
   rotate_left
   ·refine⟨(m-1,a3,s3,rows),?_,⟨by simp only;omega,h3,fun l hl=>⟨(h4 l hl).1,fun r hr=>by obtain⟨x1,x2,x3⟩:=(h4 l hl).2 r hr;exact⟨x1,x2,by simp only;omega⟩⟩,by simp only;omega,by simp only;omega⟩,by simp only;omega⟩
    simp (disch:=first|assumption|omega) only[S0,rA,rQ,rB,rT,rE,d,e3,aJ,c4,em]
   have c4':=of_decide_eq_false c4
   obtain⟨c,a5,s5,e5,p5,g5,k5⟩:=Na3 code hc a3 s3 (by omega) (by omega)
   have e6:=Bao 3 rows c.kind c.id c.src c.dst c.amt rep ((atI rows rep).length+1) (by omega) (by omega) (by omega) hsm p5 (fun l hl r hr=>by obtain⟨x1,x2,x3⟩:=(h4 l hl).2 r hr;exact⟨x2,by omega⟩)
   obtain⟨z1,z2,z3⟩:=Rae (t:=⟨3,rows⟩) (c:=c) (rep:=rep) (no:=(atI rows rep).length+1) (M:=10-m) (by omega) (fun l hl r hr=>by obtain⟨x1,x2,x3⟩:=(h4 l hl).2 r hr;omega)
   have ec:(⟨c.kind,c.id,c.src,c.dst,c.amt⟩:nS)=c:=rfl
   rw[ec]at e6
   generalize Xaa ⟨3,rows⟩ c rep ((atI rows rep).length+1)=A at e6 z1 z2 z3
   simp only at z1
   obtain⟨w7,a7,s7,e7,g7,k7⟩:=iY code hc 3 a5 s5 (by omega) (by omega)
   -- the dependencies, as they may have been changed
   have mid:∃ (ds:List Int) (a8 s8:Int),ds.length=3/\a7<=a8/\a8<=a7+10/\((w7=false/\ds=A.deps/\a8=a7/\s8=s7)\/(w7=true/\∃ k a9 s9 v,Fun T 4 [i64 3,code,i64 a7,u64 s7]=some [i64 k,code,i64 a9,u64 s9]/\Fun T 4 [i64 4,code,i64 a9,u64 s9]=some [i64 v,code,i64 a8,u64 s8]/\InB A.deps k/\ds=cZ A.deps k v)):=by
    cases w7
    ·exact⟨A.deps,a7,s7,z1,by omega,by omega,.inl ⟨rfl,rfl,rfl,rfl⟩⟩
    ·obtain⟨k,a9,s9,e9,p9,q9,g9,k9⟩:=aS code hc 3 a7 s7 (by omega) (by omega)
     obtain⟨v,a8,s8,e8,p8,q8,g8,k8⟩:=aS code hc 4 a9 s9 (by omega) (by omega)
     have q9':=q9 (by omega)
     exact⟨cZ A.deps k v,a8,s8,by rw[dR];exact z1,by omega,by omega,.inr ⟨rfl,k,a9,s9,v,e9,e8,by unfold InB;omega,rfl⟩⟩
   obtain⟨ds,a8,s8,y1,y2,y3,hmid⟩:=mid
   obtain⟨w10,a10,s10,e10,g10,k10⟩:=iY code hc 5 a8 s8 (by omega) (by omega)
   have goon:∀ (st a11 s11:Int) (t:Option (Kind×List D)),a10<=a11->a11<=a10+10->t=some (.cont,[i64 ((m:Int)-1),code,i64 a11,u64 s11,i64 3,rL (sV ⟨3,rows⟩ rep ((atI rows rep).length+1) ⟨0,0,st,c,⟨A.seq,ds⟩⟩).rows])->∃ c':Nat×Int×Int×List (List bL),t=some (.cont,[i64 c'.1,code,i64 c'.2.1,u64 c'.2.2.1,i64 3,rL c'.2.2.2]) /\
     (c'.1<=8/\c'.2.2.2.length=3/\(∀ l∈c'.2.2.2,l.length<=4/\∀ r∈l,r.attr.deps.length<=10/\dC r.cmd=true/\r.attr.seq+c'.1<=10)/\a1<=c'.2.1/\c'.2.1+100*c'.1<=a1+900)/\c'.1<m:=by
    intro st a11 s11 t g11 k11 ht
    refine⟨(m-1,a11,s11,(sV ⟨3,rows⟩ rep ((atI rows rep).length+1) ⟨0,0,st,c,⟨A.seq,ds⟩⟩).rows),by rw[ht,<- em],⟨by simp only;omega,by unfold sV;simp only[dR];exact h3,?_,by simp only;omega,by simp only;omega⟩,by simp only;omega⟩
    intro l hl
    unfold sV at hl
    simp only at hl
    rcases oO hl with hl|rfl
    ·exact⟨(h4 l hl).1,fun r hr=>by obtain⟨x1,x2,x3⟩:=(h4 l hl).2 r hr;exact⟨x1,x2,by simp only;omega⟩⟩
    ·refine⟨by rw[dR];unfold ext;rw[Qbs,Rbo];omega,fun r hr=>?_⟩
     rcases oO hr with hr|rfl
     ·unfold ext at hr
      rcases List.mem_append.1 hr with hr|hr
      ·obtain⟨x1,x2,x3⟩:=hl2 r hr;exact⟨x1,x2,by simp only;omega⟩
      ·rw[Sbs hr]
       exact⟨by unfold row0 none0;simp only[Rbo];omega,rfl,by show (0:Int)+((m-1:Nat):Int)<=10;omega⟩
     ·exact⟨by simp only;omega,p5,by simp only;omega⟩
   have hset:=fun st:Int=>uW 3 rows rep ((atI rows rep).length+1) 0 0 st c.kind c.id c.src c.dst c.amt A.seq ds rfl (by omega) hsm hb (by omega) (by omega) (by omega)
   simp only[ec]at hset
   have h3n:∀ r:bL,(sV ⟨3,rows⟩ rep ((atI rows rep).length+1) r).n=3:=fun r=>rfl
   rcases hmid with ⟨rfl,rfl,rfl,rfl⟩|⟨rfl,k,a9,s9,v,e9,e8,hbk,rfl⟩
   ·cases w10
    ·refine goon 3 a10 s10 _ (by omega) (by omega) ?_
     simp (disch:=first|assumption|omega) only[S0,rA,rQ,rB,rT,rE,d,e3,aJ,c4,em,e5,e6,e7,e10,hset,h3n]
    ·obtain⟨v11,a11,s11,e11,p11,q11,g11,k11⟩:=aS code hc 2 a10 s10 (by omega) (by omega)
     refine goon (1+v11) a11 s11 _ (by omega) (by omega) ?_
     have q11':=q11 (by omega)
     simp (disch:=first|assumption|omega) only[S0,rA,rQ,rB,rT,rE,d,e3,aJ,c4,em,e5,e6,e7,e10,e11,hset,h3n]
   ·cases w10
    ·refine goon 3 a10 s10 _ (by omega) (by omega) ?_
     simp (disch:=first|assumption|omega) only[S0,rA,rQ,rB,rT,rE,d,e3,aJ,c4,em,e5,e6,e7,e9,e8,dI,e10,hset,h3n]
    ·obtain⟨v11,a11,s11,e11,p11,q11,g11,k11⟩:=aS code hc 2 a10 s10 (by omega) (by omega)
     refine goon (1+v11) a11 s11 _ (by omega) (by omega) ?_
     have q11':=q11 (by omega)
     simp (disch:=first|assumption|omega) only[S0,rA,rQ,rB,rT,rE,d,e3,aJ,c4,em,e5,e6,e7,e9,e8,dI,e10,e11,hset,h3n]
  ·have d:decide (0<(m:Int))=false:=by simpa using hm
   refine .inr ⟨(.yield 1,[code,i64 a2,u64 s2,i64 3,rL rows]),?_,by simp,rows,a2,s2,rfl,h3,fun l hl=>⟨(h4 l hl).1,fun r hr=>((h4 l hl).2 r hr).1⟩,by omega,by omega⟩
   simp (disch:=first|assumption|omega) only[S0,rA,rQ,rB,rT,rE,d]
 obtain⟨q,rfl,rows,a2,s2,rfl,h2,h3,h4,h5⟩:=key
 obtain⟨w6,a6,s6,e6,g6,k6⟩:=iY code hc 20 a2 s2 (by omega) (by omega)
 cases w6
 ·simp (disch:=first|assumption|omega) only[S0,rA,rQ,rB,rT,rE,e6]
  exact⟨⟨_,_⟩,_,_,rfl,by simp only;omega,by simp only;omega,fun l hl=>⟨by have:=(h3 l hl).1;omega,(h3 l hl).2⟩,by omega,by omega⟩
 ·obtain⟨t,a7,s7,e7,t1,t2,t3,g7,k7⟩:=vO code hc a6 s6 (by omega) (by omega)
  simp (disch:=first|assumption|omega) only[S0,rA,rQ,rB,rT,rE,e6,e7]
  exact⟨t,_,_,rfl,t1,t2,t3,by omega,by omega⟩
theorem nN (s:List UInt8):Fun T 81 [.str s]=some [rL (Jao s).1,i64 (Jao s).2.1,.bool (Jao s).2.2]:=by
 rw[aK (t:=Cbb) rfl];unfold Cbb
 unfold Jao
 cases d:decide (20000<(s.length:Int))
 rotate_left
 ·simp only[if_true]
  simp (disch:=first|assumption|omega) only[S0,rA,rQ,rB,rT,rE,aG,d,Oad]
  rfl
 have hd:=of_decide_eq_false d
 have hf:=sG s (by omega)
 obtain⟨m1,m2⟩:=jF s
 have hsl:=wB s
 simp (disch:=first|assumption|omega) only[S0,rA,rQ,rB,rT,rE,aG,d,hf]
 have hk:∀ k,k<=(aF s).length->lG ((aF s).take k)<=s.length:=by
  intro k _
  have h1:=Gav ((aF s).take k) ((aF s).drop k)
  rw[List.take_append_drop]at h1
  omega
 rw[Gak (aF s).length (fun k=>[i64 (lG ((aF s).take k):Nat),i64 k]) (.yield 1,[i64 (lG (aF s):Nat)]) rfl (by simp)]
 ·simp (disch:=first|assumption|omega) only[S0,rA,rQ,rB,rT,rE,Qbr]
 ·intro i hi hlt
  have hb:InB (aF s) (i:Int):=aP.2 hi
  have hw:=m1 _ (at_mem hi)
  have h1:=hk i (by omega)
  have h2:=hk (i+1) (by omega)
  have es:(lG ((aF s).take (i+1)):Int)=(lG ((aF s).take i):Nat)+(((atI (aF s) (i:Int)).length:Int)+4):=by
   rw[<- take_at hi,Gav]
   show ((_+(_+4+0):Nat):Int)=_
   omega
  rw[es]
  simp (disch:=first|assumption|omega) only[S0,rA,rQ,rB,rT,rE,aJ,aG,hlt]
 ·intro hlt
  rw[Sbx]
  simp (disch:=first|assumption|omega) only[S0,rA,rQ,rB,rT,rE,hlt]
theorem Maz (s:List UInt8):Fun T 118 [.str s]=some [rL (Jao s).1,i64 (Jao s).2.1,.bool (Jao s).2.2]:=by
 rw[aK (t:=Mad) rfl];unfold Mad
 unfold Jao
 cases d:decide (20000<(s.length:Int))
 rotate_left
 ·simp only[if_true]
  simp (disch:=first|assumption|omega) only[S0,rA,rQ,rB,rT,rE,aG,d,Oad]
  rfl
 have hd:=of_decide_eq_false d
 have hf:=nA s (by omega)
 simp (disch:=first|assumption|omega) only[S0,rA,rQ,rB,rT,rE,aG,d,hf,Qbr]
theorem Eaw (xs ys:List (List UInt8))(hx:xs.length<=10000000000):Fun T 130 [rL xs,rL ys]=some [.bool (decide (xs=ys))]:=by
 rw[aK (t:=La2) rfl];unfold La2
 by_cases hl:ys.length=xs.length
 ·have e1:((xs.length:Int)==ys.length)=true:=by simp[hl]
  simp (disch:=first|assumption|omega) only[S0,rA,rQ,rB,rT,rE,e1]
  rw[Pag 1 xs.length (fun i=>decide (atI xs (i:Int)=atI ys (i:Int))) [.bool false],qB hl.symm]
  ·cases decide (xs=ys)<;>simp (disch:=first|assumption|omega) only[S0,rA,rQ,rB,rT,rE]
  ·intro i hi hlt
   have hb:InB xs (i:Int):=aP.2 hi
   have hb2:InB ys (i:Int):=aP.2 (by omega)
   have e:decide (atI xs (i:Int)=atI ys (i:Int))=(atI xs (i:Int)==atI ys (i:Int)):=by rw[Rb7]
   rw[e]
   cases c:(atI xs (i:Int)==atI ys (i:Int))<;>simp (disch:=first|assumption|omega) only[S0,rA,rQ,rB,rT,rE,aJ,hlt,Gaj,c,Rbr,Rbl]
  ·intro hlt
   simp (disch:=first|assumption|omega) only[S0,rA,rQ,rB,rT,rE,hlt]
 ·have e1:((xs.length:Int)==ys.length)=false:=by simp;omega
  rw[xY (fun e=>hl e.symm)]
  simp (disch:=first|assumption|omega) only[S0,rA,rQ,rB,rT,rE,e1]
theorem Ia2 (code:D)(hc:isBytes code):∃ (n rep no:Int) (r:bL),Fun T 2 [code]=some [i64 n,i64 rep,i64 no,i64 r.ballot,i64 r.vote,i64 r.state,i64 r.cmd.kind,i64 r.cmd.id,i64 r.cmd.src,i64 r.cmd.dst,i64 r.cmd.amt,i64 r.attr.seq,rL r.attr.deps]/\r.attr.deps.length<=10:=by
 rw[aK (t:=tm2) rfl];unfold tm2
 obtain⟨n,a1,s1,e1,p1,g1,k1⟩:=pF code hc [3,3,5,4] 0 0 (by simp) (by simp) (by omega) (by omega)
 have hn:3<=n/\n<=5:=by simp at p1;omega
 have z:(aO.mk 1 4).run [i64 3,i64 3,i64 5,i64 4]=some [rL ([3,3,5,4]:List Int)]:=rfl
 obtain⟨k,i,a2,s2,e2,g2,k2⟩:=Na2 code hc a1 s1 (by omega) (by omega)
 obtain⟨r,a3,s3,e3,p3,g3,k3⟩:=Ba5 code hc n a2 s2 (by omega) (by omega) (by omega) (by omega)
 have u0:D.int .u64 0=u64 0:=rfl
 simp (disch:=first|assumption|omega) only[S0,rA,rQ,rB,rT,rE,z,e1,e2,e3,u0]
 exact⟨n,k,i,r,rfl,by omega⟩
theorem Ia3 (code:D)(hc:isBytes code):∃ (n:Int) (z:List UInt8),Fun T 86 [code]=some [i64 n,.str z]/\z.length<=200:=by
 rw[aK (t:=Bb6) rfl];unfold Bb6
 obtain⟨n,rep,no,r,e,h⟩:=Ia2 code hc
 have et:=jT n rep no r.ballot r.vote r.state r.cmd.kind r.cmd.id r.cmd.src r.cmd.dst r.cmd.amt r.attr.seq r.attr.deps (by omega)
 have eta:(⟨r.ballot,r.vote,r.state,⟨r.cmd.kind,r.cmd.id,r.cmd.src,r.cmd.dst,r.cmd.amt⟩,⟨r.attr.seq,r.attr.deps⟩⟩:bL)=r:=rfl
 rw[eta]at et
 have hl:=Xaq (n:=n) (rep:=rep) (no:=no) (r:=r)
 have u0:D.int .u64 0=u64 0:=rfl
 obtain⟨v,a1,s1,e1,g1,j1⟩:=iY code hc 3 0 0 (by omega) (by omega)
 cases v
 ·simp (disch:=first|assumption|omega) only[S0,rA,rQ,rB,rT,rE,e,et,u0,e1]
  exact⟨_,_,rfl,by omega⟩
 ·obtain⟨z,a2,s2,e2,z1,z2,z3⟩:=Aa2 code hc (gW n rep no r).1 [48,49,32,124,58,44] a1 s1 (by omega) (by decide) (by omega) (by omega)
  simp (disch:=first|assumption|omega) only[S0,rA,rQ,rB,rT,rE,e,et,u0,e1,e2]
  exact⟨_,_,rfl,by omega⟩
theorem Sa4 (code:D)(hc:isBytes code):∃ (z:List UInt8),Fun T 94 [code]=some [.str z]:=by
 rw[aK (t:=Bb3) rfl];unfold Bb3
 have u0:D.int .u64 0=u64 0:=rfl
 obtain⟨v,a1,s1,e1,g1,j1⟩:=iY code hc 20 0 0 (by omega) (by omega)
 cases v
 ·obtain⟨n,z,e2,h2⟩:=Ia3 code hc
  simp (disch:=first|assumption|omega) only[S0,rA,rQ,rB,rT,rE,u0,e1,e2]
  exact⟨_,rfl⟩
 ·obtain⟨v2,a2,s2,e2,p2,q2,g2,k2⟩:=aS code hc 2 a1 s1 (by omega) (by omega)
  have q2':=q2 (by omega)
  have e3:=Va9 (n:=200+v2) (by omega) (by omega)
  have e4:=Eb6 (200+v2).toNat
  simp (disch:=first|assumption|omega) only[S0,rA,rQ,rB,rT,rE,u0,e1,e2,e3,e4]
  exact⟨_,rfl⟩
theorem Ia5 (code:D)(hc:isBytes code)(a s:Int)(h0:0<=a)(h1:a<=1000000):∃ (n:Int) (z:List UInt8) (a' s':Int),Fun T 98 [code,i64 a,u64 s]=some [i64 n,.str z,code,i64 a',u64 s']/\(0<=n/\n<=5)/\z.length<=20010/\a<=a'/\a'<=a+20000:=by
 rw[aK (t:=Bb0) rfl];unfold Bb0
 have smOf:∀ rows:List (List bL),rows.length<=5->(∀ l∈rows,l.length<=5/\∀ r∈l,r.attr.deps.length<=10)->mR rows:=fun rows h1 h2=>⟨by omega,fun l hl=>⟨by have:=(h2 l hl).1;omega,fun r hr=>by have:=(h2 l hl).2 r hr;omega⟩⟩
 obtain⟨t1,a1,s1,e1,p1,p2,p3,g1,k1⟩:=vO code hc a s h0 (by omega)
 obtain⟨w2,a2,s2,e2,g2,k2⟩:=iY code hc 2 a1 s1 (by omega) (by omega)
 have st3:∃ (t:aR) (a3 s3:Int),(0<=t.n/\t.n<=5)/\mR t.rows/\a2<=a3/\a3<=a2+4000/\((w2=false/\t=t1/\a3=a2/\s3=s2)\/(w2=true/\Fun T 101 [code,i64 a2,u64 s2]=some [i64 t.n,rL t.rows,code,i64 a3,u64 s3])):=by
  cases w2
  ·exact⟨t1,a2,s2,p1,smOf _ p2 p3,by omega,by omega,.inl ⟨rfl,rfl,rfl,rfl⟩⟩
  ·obtain⟨t,a3,s3,e3,q1,q2,q3,g3,k3⟩:=xH code hc a2 s2 (by omega) (by omega)
   exact⟨t,a3,s3,q1,smOf _ q2 q3,by omega,by omega,.inr ⟨rfl,e3⟩⟩
 obtain⟨t,a3,s3,q1,q2,g3,k3,h3⟩:=st3
 have e4:=Aah t.n t.rows q2
 have l4:=Ual ⟨t.n,t.rows⟩
 generalize Pa0 ⟨t.n,t.rows⟩=L at e4 l4
 obtain⟨w5,a5,s5,e5,g5,k5⟩:=iY code hc 4 a3 s3 (by omega) (by omega)
 have e6:Fun T 41 [i64 t.n]=some [.bool (bD t.n)]:=aZ t.n
 -- a row may be added
 have st7:∃ (z:List UInt8) (a7 s7:Int),z.length<=20000/\a5<=a7/\a7<=a5+4000/\(((w5&&bD t.n)=false/\z=L.1/\a7=a5/\s7=s5)\/((w5&&bD t.n)=true/\∃ (k a8 s8 i a9 s9:Int) (r:bL) (B:List UInt8×Bool),
   Fun T 4 [i64 3,code,i64 a5,u64 s5]=some [i64 k,code,i64 a8,u64 s8]/\Fun T 4 [i64 3,code,i64 a8,u64 s8]=some [i64 i,code,i64 a9,u64 s9]/\(0<=i/\i<3) /\
   Fun T 7 [i64 t.n,code,i64 a9,u64 s9]=some [i64 r.ballot,i64 r.vote,i64 r.state,i64 r.cmd.kind,i64 r.cmd.id,i64 r.cmd.src,i64 r.cmd.dst,i64 r.cmd.amt,i64 r.attr.seq,rL r.attr.deps,code,i64 a7,u64 s7] /\
   Fun T 115 [i64 t.n,.str L.1,i64 k,i64 (1+i),i64 r.ballot,i64 r.vote,i64 r.state,i64 r.cmd.kind,i64 r.cmd.id,i64 r.cmd.src,i64 r.cmd.dst,i64 r.cmd.amt,i64 r.attr.seq,rL r.attr.deps]=some [.str B.1,.bool B.2]/\z=if B.2 then B.1 else L.1)):=by
  cases hw:(w5&&bD t.n)
  ·exact⟨L.1,a5,s5,l4,by omega,by omega,.inl ⟨rfl,rfl,rfl,rfl⟩⟩
  ·obtain⟨k,a8,s8,e8,p8,q8,g8,k8⟩:=aS code hc 3 a5 s5 (by omega) (by omega)
   obtain⟨i,a9,s9,e9,p9,q9,g9,k9⟩:=aS code hc 3 a8 s8 (by omega) (by omega)
   have q9':=q9 (by omega)
   obtain⟨r,a7,s7,e7,p7,g7,k7⟩:=Ba5 code hc t.n a9 s9 (by omega) (by omega) (by omega) (by omega)
   have ea:=wH t.n L.1 k (1+i) r.ballot r.vote r.state r.cmd.kind r.cmd.id r.cmd.src r.cmd.dst r.cmd.amt r.attr.seq r.attr.deps (by omega)
   have la:=Vad (n:=t.n) (s:=L.1) (rep:=k) (no:=1+i) (r:=⟨r.ballot,r.vote,r.state,⟨r.cmd.kind,r.cmd.id,r.cmd.src,r.cmd.dst,r.cmd.amt⟩,⟨r.attr.seq,r.attr.deps⟩⟩)
   generalize Gap t.n L.1 k (1+i) ⟨r.ballot,r.vote,r.state,⟨r.cmd.kind,r.cmd.id,r.cmd.src,r.cmd.dst,r.cmd.amt⟩,⟨r.attr.seq,r.attr.deps⟩⟩=B at ea la
   refine⟨if B.2 then B.1 else L.1,a7,s7,?_,by omega,by omega,.inr ⟨rfl,k,a8,s8,i,a9,s9,r,B,e8,e9,⟨p9,q9'⟩,e7,ea,rfl⟩⟩
   split
   ·exact la
   ·exact l4
 obtain⟨z,a7,s7,l7,g7,k7,h7⟩:=st7
 obtain⟨v10,a10,s10,e10,p10,q10,g10,k10⟩:=aS code hc 6 a7 s7 (by omega) (by omega)
 -- it may be cut or spoilt
 have st11:∃ (y:List UInt8) (a11 s11:Int),y.length<=20010/\a10<=a11/\a11<=a10+4000/\((∃ k,(v10==0)=true/\Fun T 4 [i64 ((z.length:Int)+1),code,i64 a10,u64 s10]=some [i64 k,code,i64 a11,u64 s11]/\aO.ssub.run [.str z,i64 0,i64 k]=some [.str y]) \/
   ((v10==0)=false/\(v10==1)=true/\Fun T 87 [.str z,.str [48,124,1],code,i64 a10,u64 s10]=some [.str y,code,i64 a11,u64 s11])\/((v10==0)=false/\(v10==1)=false/\y=z/\a11=a10/\s11=s10)):=by
  cases c0:v10==0
  rotate_left
  ·obtain⟨k,a11,s11,e11,p11,q11,g11,k11⟩:=aS code hc ((z.length:Int)+1) a10 s10 (by omega) (by omega)
   have q11':=q11 (by omega)
   refine⟨_,a11,s11,?_,by omega,by omega,.inl ⟨k,rfl,e11,dX (by omega) p11 (by omega)⟩⟩
   rw[Rbn,Qb9];omega
  cases c1:v10==1
  ·exact⟨z,a10,s10,by omega,by omega,by omega,.inr (.inr ⟨rfl,rfl,rfl,rfl,rfl⟩)⟩
  ·obtain⟨y,a11,s11,e11,z1,z2,z3⟩:=Aa2 code hc z [48,124,1] a10 s10 (by omega) (by decide) (by omega) (by omega)
   exact⟨y,a11,s11,by omega,by omega,by omega,.inr (.inl ⟨rfl,rfl,e11⟩)⟩
 obtain⟨y,a11,s11,l11,g11,k11,h11⟩:=st11
 refine⟨t.n,y,a11,s11,?_,q1,l11,by omega,by omega⟩
 have low:∀ (z0:List UInt8),z0=z->True:=fun _ _=>trivial
 rcases h3 with ⟨rfl,rfl,rfl,rfl⟩|⟨rfl,e3⟩
 ·rcases h7 with ⟨hw,rfl,rfl,rfl⟩|⟨hw,k,a8,s8,i,a9,s9,r,B,e8,e9,hi,e7,ea,rfl⟩
  ·rcases h11 with ⟨k,c0,e11,e12⟩|⟨c0,c1,e11⟩|⟨c0,c1,rfl,rfl,rfl⟩
   ·cases w5<;>simp only[Rbp,Sbg]at hw<;>simp (disch:=first|assumption|omega) only[S0,rA,rQ,rB,rT,rE,e1,e2,e4,e5,e6,hw,e10,c0,aG,e11,e12]
   ·cases w5<;>simp only[Rbp,Sbg]at hw<;>simp (disch:=first|assumption|omega) only[S0,rA,rQ,rB,rT,rE,e1,e2,e4,e5,e6,hw,e10,c0,c1,e11]
   ·cases w5<;>simp only[Rbp,Sbg]at hw<;>simp (disch:=first|assumption|omega) only[S0,rA,rQ,rB,rT,rE,e1,e2,e4,e5,e6,hw,e10,c0,c1]
  ·simp only[Qbq]at hw
   obtain⟨rfl,hw⟩:=hw
   rcases h11 with ⟨k2,c0,e11,e12⟩|⟨c0,c1,e11⟩|⟨c0,c1,rfl,rfl,rfl⟩
   ·cases hB:B.2<;>rw[hB]at ea e11 e12 l7<;>simp only[if_true,Qbr,if_false]at e11 e12 l7<;>simp (disch:=first|assumption|omega) only[S0,rA,rQ,rB,rT,rE,e1,e2,e4,e5,e6,hw,e8,e9,e7,ea,e10,c0,aG,e11,e12]
   ·cases hB:B.2<;>rw[hB]at ea e11<;>simp only[if_true,Qbr,if_false]at e11<;>simp (disch:=first|assumption|omega) only[S0,rA,rQ,rB,rT,rE,e1,e2,e4,e5,e6,hw,e8,e9,e7,ea,e10,c0,c1,e11]
   ·cases hB:B.2<;>rw[hB]at ea<;>simp (disch:=first|assumption|omega) only[S0,rA,rQ,rB,rT,rE,e1,e2,e4,e5,e6,hw,e8,e9,e7,ea,e10,c0,c1,Qbr]
 ·rcases h7 with ⟨hw,rfl,rfl,rfl⟩|⟨hw,k,a8,s8,i,a9,s9,r,B,e8,e9,hi,e7,ea,rfl⟩
  ·rcases h11 with ⟨k,c0,e11,e12⟩|⟨c0,c1,e11⟩|⟨c0,c1,rfl,rfl,rfl⟩
   ·cases w5<;>simp only[Rbp,Sbg]at hw<;>simp (disch:=first|assumption|omega) only[S0,rA,rQ,rB,rT,rE,e1,e2,e3,e4,e5,e6,hw,e10,c0,aG,e11,e12]
   ·cases w5<;>simp only[Rbp,Sbg]at hw<;>simp (disch:=first|assumption|omega) only[S0,rA,rQ,rB,rT,rE,e1,e2,e3,e4,e5,e6,hw,e10,c0,c1,e11]
   ·cases w5<;>simp only[Rbp,Sbg]at hw<;>simp (disch:=first|assumption|omega) only[S0,rA,rQ,rB,rT,rE,e1,e2,e3,e4,e5,e6,hw,e10,c0,c1]
  ·simp only[Qbq]at hw
   obtain⟨rfl,hw⟩:=hw
   rcases h11 with ⟨k2,c0,e11,e12⟩|⟨c0,c1,e11⟩|⟨c0,c1,rfl,rfl,rfl⟩
   ·cases hB:B.2<;>rw[hB]at ea e11 e12 l7<;>simp only[if_true,Qbr,if_false]at e11 e12 l7<;>simp (disch:=first|assumption|omega) only[S0,rA,rQ,rB,rT,rE,e1,e2,e3,e4,e5,e6,hw,e8,e9,e7,ea,e10,c0,aG,e11,e12]
   ·cases hB:B.2<;>rw[hB]at ea e11<;>simp only[if_true,Qbr,if_false]at e11<;>simp (disch:=first|assumption|omega) only[S0,rA,rQ,rB,rT,rE,e1,e2,e3,e4,e5,e6,hw,e8,e9,e7,ea,e10,c0,c1,e11]
   ·cases hB:B.2<;>rw[hB]at ea<;>simp (disch:=first|assumption|omega) only[S0,rA,rQ,rB,rT,rE,e1,e2,e3,e4,e5,e6,hw,e8,e9,e7,ea,e10,c0,c1,Qbr]
theorem Qaw (code:D)(hc:isBytes code):∃ (z:List UInt8),Fun T 97 [code]=some [.str z]:=by
 rw[aK (t:=Ib1) rfl];unfold Ib1
 obtain⟨n,z,a1,s1,e1,p1,p2,g1,k1⟩:=Ia5 code hc 0 0 (by omega) (by omega)
 have u0:D.int .u64 0=u64 0:=rfl
 simp (disch:=first|assumption|omega) only[S0,rA,rQ,rB,rT,rE,e1,u0]
 exact⟨_,rfl⟩
theorem Sa5 (code:D)(hc:isBytes code):∃ (n:Int) (z:List UInt8),Fun T 119 [code]=some [i64 n,.str z]:=by
 rw[aK (t:=Mac) rfl];unfold Mac
 obtain⟨n,z,a1,s1,e1,p1,p2,g1,k1⟩:=Ia5 code hc 0 0 (by omega) (by omega)
 have u0:D.int .u64 0=u64 0:=rfl
 simp (disch:=first|assumption|omega) only[S0,rA,rQ,rB,rT,rE,e1,u0]
 exact⟨_,_,rfl⟩
theorem Wau (code:D)(hc:isBytes code):∃ (z:List UInt8) (k:Int),Fun T 127 [code]=some [.str z,i64 k]:=by
 rw[aK (t:=La5) rfl];unfold La5
 obtain⟨n,z,a1,s1,e1,p1,p2,g1,k1⟩:=Ia5 code hc 0 0 (by omega) (by omega)
 obtain⟨v2,a2,s2,e2,p3,q3,g2,k2⟩:=aS code hc ((z.length:Int)+2) a1 s1 (by omega) (by omega)
 obtain⟨v3,a3,s3,e3,p4,q4,g3,k3⟩:=aS code hc 20 a2 s2 (by omega) (by omega)
 have q3':=q3 (by omega)
 have q4':=q4 (by omega)
 have b3:0<=v3 / 19/\v3 / 19<=1:=by omega
 have u0:D.int .u64 0=u64 0:=rfl
 simp (disch:=first|assumption|omega) only[S0,rA,rQ,rB,rT,rE,e1,u0,aG,e2,e3]
 exact⟨_,_,rfl⟩
theorem law (code more:D)(hc:isBytes code)(hm:isBytes more):Fun T 0 [code,more]=some [.bool true]:=by
 rw[aK (t:=tm0) rfl];unfold tm0
 obtain⟨b,eb⟩:=Nam code more hc hm
 cases b
 rotate_left
 ·simp (disch:=first|assumption|omega) only[S0,rA,rQ,rB,rT,rE,eb]
 have eta:∀ r:bL,(⟨r.ballot,r.vote,r.state,⟨r.cmd.kind,r.cmd.id,r.cmd.src,r.cmd.dst,r.cmd.amt⟩,⟨r.attr.seq,r.attr.deps⟩⟩:bL)=r:=fun _=>rfl
 obtain⟨n,rep,no,r,e1,h1⟩:=Ia2 code hc
 have i1:=zL n rep no r.ballot r.vote r.state r.cmd.kind r.cmd.id r.cmd.src r.cmd.dst r.cmd.amt r.attr.seq r.attr.deps (by omega)
 have i2:=jT n rep no r.ballot r.vote r.state r.cmd.kind r.cmd.id r.cmd.src r.cmd.dst r.cmd.amt r.attr.seq r.attr.deps (by omega)
 rw[eta r]at i1 i2
 have hbeq:∀ z:List UInt8,(z==z)=true:=fun z=>by simp
 have ibeq:∀ z:Int,(z==z)=true:=fun z=>by simp
 have beq:∀ z:Bool,(aO.eqb true).run [.bool z,.bool z]=some [.bool false]:=by intro z;cases z<;>rfl
 have beq2:∀ z:Bool,(aO.eqb false).run [.bool z,.bool z]=some [.bool true]:=by intro z;cases z<;>rfl
 have same:∀ x:bL,x.attr.deps.length<=1099511627776->Fun T 83 [i64 x.ballot,i64 x.vote,i64 x.state,i64 x.cmd.kind,i64 x.cmd.id,i64 x.cmd.src,i64 x.cmd.dst,i64 x.cmd.amt,i64 x.attr.seq,rL x.attr.deps,i64 x.ballot,i64 x.vote,i64 x.state,i64 x.cmd.kind,i64 x.cmd.id,i64 x.cmd.src,i64 x.cmd.dst,i64 x.cmd.amt,i64 x.attr.seq,rL x.attr.deps]=some [.bool true]:=by
  intro x hx
  have:=Cau x.ballot x.vote x.state x.cmd.kind x.cmd.id x.cmd.src x.cmd.dst x.cmd.amt x.attr.seq x.attr.deps x.ballot x.vote x.state x.cmd.kind x.cmd.id x.cmd.src x.cmd.dst x.cmd.amt x.attr.seq x.attr.deps hx
  rw[decide_eq_true rfl]at this
  exact this
 -- what is read
 obtain⟨k,t,e2,h2⟩:=Ia3 more hm
 have r1:=pE k t (by omega)
 have r2:=tL k t (by omega)
 have rs:=same (aN k t).2.2.1 (by have:=vF (n:=k) (s:=t);omega)
 obtain⟨u,e3⟩:=Sa4 more hm
 have f1:=Fa3 u
 have f2:=Oa5 u
 obtain⟨v,e4⟩:=Qaw more hm
 have f3:=nN v
 have f4:=Maz v
 obtain⟨g,w,e5⟩:=Sa5 more hm
 have f5:=kD g w
 have f6:=Oa6 g w
 obtain⟨c,keep,e6⟩:=Wau more hm
 have f7:=Bay c keep
 have f8:=Ra1 c keep
 have ft:=Eaw (Jao v).1 (Jao v).1 (by
  unfold Jao
  cases d:decide (20000<(v.length:Int))
  ·have:=of_decide_eq_false d
   have:=(jF v).2
   simp only[Qbr,if_false]
   omega
  ·simp)
 rw[decide_eq_true rfl]at ft
 have hsz:=Abo g w
 have hsm:mR (Bah g w).1.rows:=Ta4 (by omega)
 have fs:=Eax (Bah g w).1.n (Bah g w).1.n (Bah g w).1.rows (Bah g w).1.rows hsm
 rw[decide_eq_true rfl]at fs
 generalize aN k t=R at r1 r2 rs
 generalize Ebi u=U at f1 f2
 generalize Jao v=V at f3 f4 ft
 generalize Bah g w=W at f5 f6 fs
 generalize Wa8 c keep=C at f7 f8
 cases ho:(gW n rep no r).2
 ·rw[ho]at i1 i2
  simp (maxSteps:=4000000) (disch:=first|assumption|omega) only[S0,rA,rQ,rB,rT,rE,eb,e1,i1,i2,beq,Gaj,hbeq,e2,r1,r2,rs,e3,f1,f2,e4,f3,f4,ft,e5,f5,f6,fs,e6,f7,f8,beq2,ibeq,tH]
 ·have hk:bD n=true/\inst n rep no=true/\rowOk n r=true:=by
   unfold gW at ho
   cases h:bD n&&inst n rep no&&rowOk n r
   ·rw[h]at ho;cases ho
   ·simp only[Qbq]at h
    exact⟨h.1.1,h.1.2,h.2⟩
  obtain⟨k1,k2,k3⟩:=hk
  have et:gW n rep no r=(gN rep no r,true):=by unfold gW;rw[k1,k2,k3];rfl
  rw[et]at i1 i2
  simp only at i1 i2
  have lt:=nE k1 k2 k3
  have j1:=pE n (gN rep no r) (by omega)
  rw[Aaj k1 k2 k3]at j1
  simp only at j1
  have j2:=Fa3 (gN rep no r)
  have ef:Ebi (gN rep no r)=(bI (gN rep no r),true):=by
   unfold Ebi
   rw[decide_eq_false (by omega)]
   rfl
  rw[ef]at j2
  simp only at j2
  have lf:=fA (w:=gN rep no r)
  have j3:=nN (bI (gN rep no r)++bI (gN rep no r))
  have eb2:aF (bI (gN rep no r)++bI (gN rep no r))=[gN rep no r,gN rep no r]:=by
   have:=Aaw (ws:=[gN rep no r,gN rep no r]) (by intro w hw;simp at hw;subst hw;omega)
   simpa using this
  have es:lG [gN rep no r,gN rep no r]=(gN rep no r).length+4+((gN rep no r).length+4+0):=rfl
  have efr:Jao (bI (gN rep no r)++bI (gN rep no r))=([gN rep no r,gN rep no r],2*((bI (gN rep no r)).length:Int),true):=by
   unfold Jao
   rw[decide_eq_false (by rw[Qbs];omega),eb2,es]
   simp only[Qbr,if_false,Prod.mk.injEq,true_and,and_true]
   omega
  rw[efr]at j3
  simp only at j3
  have ja:=bS (a:=bI (gN rep no r)) (b:=bI (gN rep no r)) (by omega)
  have js:=same r (by omega)
  have jm:(aO.bin .mul).run [i64 2,i64 ((bI (gN rep no r)).length:Int)]=some [i64 (2*((bI (gN rep no r)).length:Int))]:=jN (by omega) (by omega)
  have jb:InB [gN rep no r,gN rep no r] 1:=by unfold InB;simp
  have jt:atI [gN rep no r,gN rep no r] 1=gN rep no r:=rfl
  have jl:((((0:Nat):Int)+1+1)==2)=true:=rfl
  generalize bI (gN rep no r)=F at *
  generalize gN rep no r=X at *
  simp (maxSteps:=4000000) (disch:=first|assumption|omega) only[S0,rA,rQ,rB,rT,rE,eb,e1,i1,i2,beq,Gaj,hbeq,j1,j2,j3,ja,js,jm,jl,aJ,jt,aG,e2,r1,r2,rs,e3,f1,f2,e4,f3,f4,ft,e5,f5,f6,fs,e6,f7,f8,beq2,ibeq,tH]
theorem hpure:∀ ds,WTs [.sl 1 [.int .u8],.sl 1 [.int .u8]] ds->∃ n,kY T n 0 ds=some [.bool true]:=by
 intro ds h
 simp only[WTs]at h
 obtain⟨d0,r0,rfl,w0,d1,r1,rfl,w1,rfl⟩:=h
 exact Zab (law d0 d1 w0 w1)
end FnFrames
end Go.Proofs.YtdpfilpckndhcaaGreatDoor
