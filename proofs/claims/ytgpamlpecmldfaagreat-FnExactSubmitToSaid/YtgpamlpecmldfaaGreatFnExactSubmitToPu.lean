import Derived.Test.YtgpamlpecmldfaaGreatFnExactSubmitToTab
set_option linter.all false
open Bool renaming and_eq_true → Rbu, false_eq_true → Sbb, not_eq_true' → Sbl, not_true → Sb3, not_false → Tbf, or_eq_true → Tbk, beq_eq_decide_eq → Tbt, false_or → Tby, and_false → Tb3, true_and → Ube, false_and → Ubk, decide_and → Ubs, true_or → Uby, and_eq_false_iff → Ub6, or_false → Ub7, and_assoc → Ub8, or_eq_false_iff → Vbb, or_true → Vbe
open Int renaming toNat_natCast → Tb9
open List renaming append_assoc → Rb3, length_append → Rb8, replicate → Sbi, length_cons → Sbm, length_take → Sbn, append_nil → Sbu, length_drop → Sb8, nil_append → Tba, length_nil → Tbb, take_length → Tbv, length_replicate → Tbz, not_all_eq_any_not → Ubl, length_set → Ubt, replicate_zero → Vbg
open Nat renaming le_refl → Sbg, lt_or_ge → Sbh, le_trans → Sb1
namespace Go.Proofs.YtgpamlpecmldfaaGreat
namespace FnExactSubmitTo
open Go Go.Proofs.YtgpamlpecmldfaaGreat.Rf
open Nat renaming reduceAdd → rA, reduceEqDiff → rQ
open Int renaming reduceBEq → rB, reduceLT → rT, reduceLE → rE
set_option maxHeartbeats 4000000
set_option maxRecDepth 10000
theorem Kaa (fY pN jb ja mB:Int):Fun T 15 [i64 fY,i64 pN,i64 jb,i64 ja,i64 mB]=some [i64 fY,i64 pN,i64 jb,i64 ja,i64 mB]:=by
 rw[aQ (t:=Kb3) rfl];unfold Kb3
 (refine aF ?_;repeat' (refine aD ?_ ?_<;>intro _<;>try simp (disch:=first|assumption|omega) only[S0,rA,rQ,rB,rT,rE, *]))
theorem Kaf (fY pN jb ja mB:Int)(jj ua ky ko qa:Int):Fun T 128 [i64 fY,i64 pN,i64 jb,i64 ja,i64 mB,i64 jj,i64 ua,i64 ky,i64 ko,i64 qa]=some [.bool (decide ((⟨fY,pN,jb,ja,mB⟩:kP)=⟨jj,ua,ky,ko,qa⟩))]:=by
 rw[aQ (t:=Zad) rfl];unfold Zad
 have e:decide ((⟨fY,pN,jb,ja,mB⟩:kP)=⟨jj,ua,ky,ko,qa⟩)=((fY==jj)&&(pN==ua)&&(jb==ky)&&(ja==ko)&&(mB==qa)):=by
  simp only[kP.mk.injEq,Tbt,Ubs,Ub8]
 rw[e]
 (refine aF ?_;repeat' (refine aD ?_ ?_<;>intro _<;>try simp (disch:=first|assumption|omega) only[S0,rA,rQ,rB,rT,rE, *]))
theorem Fak (xs:(List Int))(l:Int)(h0:0<=l)(h1:l<=1048576)(hw:xs.length<=140737488351232):Fun T 7 [rL xs,i64 l]=some [i64 (szR l (szL (fun _=>0) xs))]:=by
 rw[aQ (t:=tm7) rfl];unfold tm7
 have es:szL (fun _=>0) xs=xs.length:=jB;rw[es];by_cases c:(xs.length:Int)<=l
 ·have e:szR l xs.length=l-xs.length:=if_pos c
  have d:decide (l-(xs.length:Int)<0)=false:=by simp;omega
  (refine aF ?_;repeat' (refine aD ?_ ?_<;>intro _<;>try simp (disch:=first|assumption|omega) only[S0,rA,rQ,rB,rT,rE, *]))
 ·have e:szR l xs.length=-1:=if_neg c
  have d:decide (l-(xs.length:Int)<0)=true:=by simp;omega
  (refine aF ?_;repeat' (refine aD ?_ ?_<;>intro _<;>try simp (disch:=first|assumption|omega) only[S0,rA,rQ,rB,rT,rE, *]))
theorem Cbq (xs:(List Int))(hs:szL (fun _=>0) xs<=1048576):Fun T 17 [rL xs]=some [rL xs]:=by
 rw[aQ (t:=Kb1) rfl];unfold Kb1
 have hl:xs.length<=1048576:=Sb1 fU hs;simp (disch:=first|assumption|omega) only[S0,rA,rQ,rB,rT,rE,Dap,Tb9, *];rw[Qaq xs rfl]
 ·(refine aF ?_;repeat' (refine aD ?_ ?_<;>intro _<;>try simp (disch:=first|assumption|omega) only[S0,rA,rQ,rB,rT,rE, *]))
 ·intro i ys hi hb eJ ic
  (refine aF ?_;repeat' (refine aD ?_ ?_<;>intro _<;>try simp (disch:=first|assumption|omega) only[S0,rA,rQ,rB,rT,rE,aW,qI, *]))
 ·intro ys ic
  (refine aF ?_;repeat' (refine aD ?_ ?_<;>intro _<;>try simp (disch:=first|assumption|omega) only[S0,rA,rQ,rB,rT,rE, *]))
theorem Cbr (xs ys:(List Int))(hs:szL (fun _=>0) xs<=1099511627776):Fun T 130 [rL xs,rL ys]=some [.bool (decide (xs=ys))]:=by
 rw[aQ (t:=Zab) rfl];unfold Zab
 have hx:xs.length<=1099511627776:=Sb1 fU hs;by_cases hl:ys.length=xs.length
 ·simp (disch:=first|assumption|omega) only[S0,rA,rQ,rB,rT,rE, *]
  rw[Jav 1 xs.length (fun i=>decide (atI xs i=atI ys i)) [.bool false],yM hl.symm]
  ·(refine aF ?_;repeat' (refine aD ?_ ?_<;>intro _<;>try simp (disch:=first|assumption|omega) only[S0,rA,rQ,rB,rT,rE, *]))
  ·intro i hi hp
   have hb:InB xs (i:Int):=aU.2 hi;have eJ:InB ys (i:Int):=aU.2 (by omega);have h2:decide ((i:Int)<xs.length)=true:=by simp;omega
   have h3:(atI xs i==atI ys i)=true:=by simpa using hp
   (refine aF ?_;repeat' (refine aD ?_ ?_<;>intro _<;>try simp (disch:=first|assumption|omega) only[S0,rA,rQ,rB,rT,rE,aW, *]))
  ·intro i hi hp
   have hb:InB xs (i:Int):=aU.2 hi;have eJ:InB ys (i:Int):=aU.2 (by omega);have h2:decide ((i:Int)<xs.length)=true:=by simp;omega
   have h3:(atI xs i==atI ys i)=false:=by simpa using hp
   (refine aF ?_;repeat' (refine aD ?_ ?_<;>intro _<;>try simp (disch:=first|assumption|omega) only[S0,rA,rQ,rB,rT,rE,aW, *]))
  ·have h2:decide ((xs.length:Int)<xs.length)=false:=by simp
   (refine aF ?_;repeat' (refine aD ?_ ?_<;>intro _<;>try simp (disch:=first|assumption|omega) only[S0,rA,rQ,rB,rT,rE, *]))
 ·have ic:((xs.length:Int)==(ys.length:Int))=false:=by simp;omega
  have e:=Gab (fun h=>hl h.symm)
  (refine aF ?_;repeat' (refine aD ?_ ?_<;>intro _<;>try simp (disch:=first|assumption|omega) only[S0,rA,rQ,rB,rT,rE, *]))
theorem Va9 (xs:(List Int))(k:Int)(hk:0<=k)(hb:k+(ctL (fun _=>1) xs:Nat)<=1152921504606846976)(hl:xs.length<=1099511627776):Fun T 139 [rL xs,i64 k]=some [i64 (k+(ctL (fun _=>1) xs:Nat)),rL (mkL (fun _=>1) (fun _ k=>k) xs k)]:=by
 rw[aQ (t:=Ya2) rfl];unfold Ya2
 have hx:xs.length<=1099511627776:=hl;simp (disch:=first|assumption|omega) only[S0,rA,rQ,rB,rT,rE, *];rw[zY xs (fun _=>1) (fun _ k=>k) k rfl rfl rfl hk hb ?_ ?_ (by omega)]
 ·(refine aF ?_;repeat' (refine aD ?_ ?_<;>intro _<;>try simp (disch:=first|assumption|omega) only[S0,rA,rQ,rB,rT,rE, *]))
 ·intro i ys m hi hy hb aw jn hm hc hlen
  have ig:m+1<=1152921504606846976:=hc
  (refine aF ?_;repeat' (refine aD ?_ ?_<;>intro _<;>try simp (disch:=first|assumption|omega|(simp only[lW];assumption)) only[S0,rA,rQ,rB,rT,rE,aW,qI,lW, *]))
  rfl
 ·intro ys m hy aw
  (refine aF ?_;repeat' (refine aD ?_ ?_<;>intro _<;>try simp (disch:=first|assumption|omega) only[S0,rA,rQ,rB,rT,rE, *]))
theorem Wad (xs:(List Int))(k:Int)(hk:0<=k)(hb:k+(ctL (fun _=>1) xs:Nat)<=1152921504606846976)(hl:xs.length<=1099511627776):Fun T 146 [rL (mkL (fun _=>1) (fun _ k=>k) xs k),i64 k]=some [i64 (k+(ctL (fun _=>1) xs:Nat))]:=by
 rw[aQ (t:=Yav) rfl];unfold Yav
 have hx:xs.length<=1099511627776:=hl;simp (disch:=first|assumption|omega) only[S0,rA,rQ,rB,rT,rE, *];rw[Aan xs (fun _=>1) (fun _ k=>k) k rfl hk hb (by omega)]
 ·(refine aF ?_;repeat' (refine aD ?_ ?_<;>intro _<;>try simp (disch:=first|assumption|omega) only[S0,rA,rQ,rB,rT,rE, *]))
 ·intro i m hi hb hy aw jn hm hc hlen
  have ig:m+1<=1152921504606846976:=hc
  (refine aF ?_;repeat' (refine aD ?_ ?_<;>intro _<;>try simp (disch:=first|assumption|omega) only[S0,rA,rQ,rB,rT,rE,aW, *]))
  rfl
 ·intro m hy aw
  (refine aF ?_;repeat' (refine aD ?_ ?_<;>intro _<;>try simp (disch:=first|assumption|omega) only[S0,rA,rQ,rB,rT,rE, *]))
theorem iD (ia:Int)(dv:(List Int))(l:Int)(h0:0<=l)(h1:l<=1048576)(hw:yR ⟨ia,dv⟩):Fun T 6 [i64 ia,rL dv,i64 l]=some [i64 (szR l (aM ⟨ia,dv⟩))]:=by
 rw[aQ (t:=tm6) rfl];unfold tm6
 unfold yR at hw;simp only at hw;have w0:=hw;by_cases c0:((szL (fun _=>0) dv:Nat):Int)<=l
 rotate_left
 ·have e0:szR (l) (szL (fun _=>0) dv)=-1:=if_neg c0
  have d0:decide ((-1:Int)<0)=true:=rfl;have e:szR l (aM ⟨ia,dv⟩)=-1:=by unfold szR aM;simp only[];split<;>omega
  (refine aF ?_;repeat' (refine aD ?_ ?_<;>intro _<;>try simp (disch:=first|assumption|omega) only[S0,rA,rQ,rB,rT,rE,Fak, *]))
 have e0:szR (l) (szL (fun _=>0) dv)=l-(szL (fun _=>0) dv:Nat):=if_pos c0;have d0:decide (l-((szL (fun _=>0) dv:Nat):Int)<0)=false:=by simp;omega
 have e:szR l (aM ⟨ia,dv⟩)=l-((szL (fun _=>0) dv:Nat):Int):=by unfold szR aM;simp only[];split<;>omega
 (refine aF ?_;repeat' (refine aD ?_ ?_<;>intro _<;>try simp (disch:=first|assumption|omega) only[S0,rA,rQ,rB,rT,rE,Fak, *]))
theorem Mas (ia:Int)(dv:(List Int))(hs:aM ⟨ia,dv⟩<=1048576):Fun T 16 [i64 ia,rL dv]=some [i64 ia,rL dv]:=by
 rw[aQ (t:=Kb2) rfl];unfold Kb2
 unfold aM at hs;simp only at hs;have s0:szL (fun _=>0) dv<=1048576:=by omega
 (refine aF ?_;repeat' (refine aD ?_ ?_<;>intro _<;>try simp (disch:=first|assumption|omega) only[S0,rA,rQ,rB,rT,rE,Cbq, *]))
theorem Fan (ia:Int)(dv:(List Int))(qh:Int)(n2:(List Int))(hs:aM ⟨ia,dv⟩<=1099511627776):Fun T 129 [i64 ia,rL dv,i64 qh,rL n2]=some [.bool (decide ((⟨ia,dv⟩:cZ)=⟨qh,n2⟩))]:=by
 rw[aQ (t:=Zac) rfl];unfold Zac
 unfold aM at hs;simp only at hs;have s0:szL (fun _=>0) dv<=1099511627776:=by omega
 have e:decide ((⟨ia,dv⟩:cZ)=⟨qh,n2⟩)=((ia==qh)&&decide ((dv:(List Int))=n2)):=by
  simp only[cZ.mk.injEq,Tbt,Ubs,Ub8]
 rw[e]
 (refine aF ?_;repeat' (refine aD ?_ ?_<;>intro _<;>try simp (disch:=first|assumption|omega) only[S0,rA,rQ,rB,rT,rE,Cbr, *]))
theorem Rak (bg ew cW ay bf ba bb bc ah:Int)(af:(List Int))(l:Int)(h0:0<=l)(h1:l<=1048576)(hw:mW ⟨bg,ew,cW,⟨ay,bf,ba,bb,bc⟩,⟨ah,af⟩⟩):Fun T 5 [i64 bg,i64 ew,i64 cW,i64 ay,i64 bf,i64 ba,i64 bb,i64 bc,i64 ah,rL af,i64 l]=some [i64 (szR l (aH ⟨bg,ew,cW,⟨ay,bf,ba,bb,bc⟩,⟨ah,af⟩⟩))]:=by
 rw[aQ (t:=tm5) rfl];unfold tm5
 unfold mW at hw;simp only at hw;have w0:=hw;by_cases c0:((aM ⟨ah,af⟩:Nat):Int)<=l
 rotate_left
 ·have e0:szR (l) (aM ⟨ah,af⟩)=-1:=if_neg c0
  have d0:decide ((-1:Int)<0)=true:=rfl;have e:szR l (aH ⟨bg,ew,cW,⟨ay,bf,ba,bb,bc⟩,⟨ah,af⟩⟩)=-1:=by unfold szR aH;simp only[];split<;>omega
  (refine aF ?_;repeat' (refine aD ?_ ?_<;>intro _<;>try simp (disch:=first|assumption|omega) only[S0,rA,rQ,rB,rT,rE,iD, *]))
 have e0:szR (l) (aM ⟨ah,af⟩)=l-(aM ⟨ah,af⟩:Nat):=if_pos c0;have d0:decide (l-((aM ⟨ah,af⟩:Nat):Int)<0)=false:=by simp;omega
 have e:szR l (aH ⟨bg,ew,cW,⟨ay,bf,ba,bb,bc⟩,⟨ah,af⟩⟩)=l-((aM ⟨ah,af⟩:Nat):Int):=by unfold szR aH;simp only[];split<;>omega
 (refine aF ?_;repeat' (refine aD ?_ ?_<;>intro _<;>try simp (disch:=first|assumption|omega) only[S0,rA,rQ,rB,rT,rE,iD, *]))
theorem Abu (bg ew cW ay bf ba bb bc ah:Int)(af:(List Int))(hs:aH ⟨bg,ew,cW,⟨ay,bf,ba,bb,bc⟩,⟨ah,af⟩⟩<=1048576):Fun T 14 [i64 bg,i64 ew,i64 cW,i64 ay,i64 bf,i64 ba,i64 bb,i64 bc,i64 ah,rL af]=some [i64 bg,i64 ew,i64 cW,i64 ay,i64 bf,i64 ba,i64 bb,i64 bc,i64 ah,rL af]:=by
 rw[aQ (t:=Kb4) rfl];unfold Kb4
 unfold aH at hs;simp only at hs;have s0:aM ⟨ah,af⟩<=1048576:=by omega
 (refine aF ?_;repeat' (refine aD ?_ ?_<;>intro _<;>try simp (disch:=first|assumption|omega) only[S0,rA,rQ,rB,rT,rE,Kaa,Mas, *]))
theorem Ram (bg ew cW ay bf ba bb bc ah:Int)(af:(List Int))(eg jh gk cU et de db di cR:Int)(cE:(List Int))(hs:aH ⟨bg,ew,cW,⟨ay,bf,ba,bb,bc⟩,⟨ah,af⟩⟩<=1099511627776):Fun T 127 [i64 bg,i64 ew,i64 cW,i64 ay,i64 bf,i64 ba,i64 bb,i64 bc,i64 ah,rL af,i64 eg,i64 jh,i64 gk,i64 cU,i64 et,i64 de,i64 db,i64 di,i64 cR,rL cE]=some [.bool (decide ((⟨bg,ew,cW,⟨ay,bf,ba,bb,bc⟩,⟨ah,af⟩⟩:bD)=⟨eg,jh,gk,⟨cU,et,de,db,di⟩,⟨cR,cE⟩⟩))]:=by
 rw[aQ (t:=Zae) rfl];unfold Zae
 unfold aH at hs;simp only at hs;have s0:aM ⟨ah,af⟩<=1099511627776:=by omega
 have e:decide ((⟨bg,ew,cW,⟨ay,bf,ba,bb,bc⟩,⟨ah,af⟩⟩:bD)=⟨eg,jh,gk,⟨cU,et,de,db,di⟩,⟨cR,cE⟩⟩)=((bg==eg)&&(ew==jh)&&(cW==gk)&&decide ((⟨ay,bf,ba,bb,bc⟩:kP)=⟨cU,et,de,db,di⟩)&&decide ((⟨ah,af⟩:cZ)=⟨cR,cE⟩)):=by
  simp only[bD.mk.injEq,Tbt,Ubs,Ub8]
 rw[e]
 (refine aF ?_;repeat' (refine aD ?_ ?_<;>intro _<;>try simp (disch:=first|assumption|omega) only[S0,rA,rQ,rB,rT,rE,Kaf,Fan, *]))
theorem nJ (xs:(List bD))(l:Int)(h0:0<=l)(h1:l<=1048576)(hw:xs.length<=140737488351232/\∀ y0∈xs,mW y0):Fun T 4 [rL xs,i64 l]=some [i64 (szR l (szL aH xs))]:=by
 rw[aQ (t:=tm4) rfl];unfold tm4
 obtain⟨zl,tI⟩:=hw;by_cases c:(xs.length:Int)<=l
 ·have d:decide (l-(xs.length:Int)<0)=false:=by simp;omega
  simp (disch:=first|assumption|omega) only[S0,rA,rQ,rB,rT,rE, *];rw[Uay xs aH (l-xs.length) rfl (by omega) (by omega)]
  ·by_cases hd:((xs.map aH).sum:Int)<=l-xs.length
   ·have e:szR l (szL aH xs)=l-xs.length-((xs.map aH).sum:Nat):=by unfold szR;rw[show (szL aH xs)=xs.length+(xs.map aH).sum from rfl,if_pos (by omega)];omega
    rw[decide_eq_true hd]
    (refine aF ?_;repeat' (refine aD ?_ ?_<;>intro _<;>try simp (disch:=first|assumption|omega) only[S0,rA,rQ,rB,rT,rE, *]))
   ·have e:szR l (szL aH xs)=-1:=by unfold szR;rw[show (szL aH xs)=xs.length+(xs.map aH).sum from rfl,if_neg (by omega)]
    rw[decide_eq_false hd]
    (refine aF ?_;repeat' (refine aD ?_ ?_<;>intro _<;>try simp (disch:=first|assumption|omega) only[S0,rA,rQ,rB,rT,rE, *]))
  ·intro i m hi hb hl hm qc hf hr hd
   have hq:=tI _ (at_mem hi)
   (refine aF ?_;repeat' (refine aD ?_ ?_<;>intro _<;>try simp (disch:=first|assumption|omega) only[S0,rA,rQ,rB,rT,rE,aW,Rak, *]))
  ·intro i m hi hb hl hm qc hf hr hd
   have hq:=tI _ (at_mem hi)
   (refine aF ?_;repeat' (refine aD ?_ ?_<;>intro _<;>try simp (disch:=first|assumption|omega) only[S0,rA,rQ,rB,rT,rE,aW,Rak, *]))
  ·intro m hl
   (refine aF ?_;repeat' (refine aD ?_ ?_<;>intro _<;>try simp (disch:=first|assumption|omega) only[S0,rA,rQ,rB,rT,rE, *]))
 ·have e:szR l (szL aH xs)=-1:=by unfold szR;rw[show (szL aH xs)=xs.length+(xs.map aH).sum from rfl,if_neg (by omega)]
  have d:decide (l-(xs.length:Int)<0)=true:=by simp;omega
  (refine aF ?_;repeat' (refine aD ?_ ?_<;>intro _<;>try simp (disch:=first|assumption|omega) only[S0,rA,rQ,rB,rT,rE, *]))
theorem Mat (xs:(List bD))(hs:szL aH xs<=1048576):Fun T 13 [rL xs]=some [rL xs]:=by
 rw[aQ (t:=Kb5) rfl];unfold Kb5
 have hl:xs.length<=1048576:=Sb1 fU hs;simp (disch:=first|assumption|omega) only[S0,rA,rQ,rB,rT,rE,Dap,Tb9, *];rw[Qaq xs rfl]
 ·(refine aF ?_;repeat' (refine aD ?_ ?_<;>intro _<;>try simp (disch:=first|assumption|omega) only[S0,rA,rQ,rB,rT,rE, *]))
 ·intro i ys hi hb eJ ic
  have hq:aH (atI xs i)<=1048576:=by
   have:=eZ (f:=aH) (at_mem hi);omega
  (refine aF ?_;repeat' (refine aD ?_ ?_<;>intro _<;>try simp (disch:=first|assumption|omega) only[S0,rA,rQ,rB,rT,rE,aW,qI,Abu, *]))
 ·intro ys ic
  (refine aF ?_;repeat' (refine aD ?_ ?_<;>intro _<;>try simp (disch:=first|assumption|omega) only[S0,rA,rQ,rB,rT,rE, *]))
theorem Fao (xs ys:(List bD))(hs:szL aH xs<=1099511627776):Fun T 126 [rL xs,rL ys]=some [.bool (decide (xs=ys))]:=by
 rw[aQ (t:=Zaf) rfl];unfold Zaf
 have hx:xs.length<=1099511627776:=Sb1 fU hs;by_cases hl:ys.length=xs.length
 ·simp (disch:=first|assumption|omega) only[S0,rA,rQ,rB,rT,rE, *]
  rw[Jav 1 xs.length (fun i=>decide (atI xs i=atI ys i)) [.bool false],yM hl.symm]
  ·(refine aF ?_;repeat' (refine aD ?_ ?_<;>intro _<;>try simp (disch:=first|assumption|omega) only[S0,rA,rQ,rB,rT,rE, *]))
  ·intro i hi hp
   have hb:InB xs (i:Int):=aU.2 hi;have eJ:InB ys (i:Int):=aU.2 (by omega);have h2:decide ((i:Int)<xs.length)=true:=by simp;omega
   have hq:aH (atI xs i)<=1099511627776:=by
    have:=eZ (f:=aH) (at_mem hi);omega
   (refine aF ?_;repeat' (refine aD ?_ ?_<;>intro _<;>try simp (disch:=first|assumption|omega) only[S0,rA,rQ,rB,rT,rE,aW,Ram, *]))
  ·intro i hi hp
   have hb:InB xs (i:Int):=aU.2 hi;have eJ:InB ys (i:Int):=aU.2 (by omega);have h2:decide ((i:Int)<xs.length)=true:=by simp;omega
   have hq:aH (atI xs i)<=1099511627776:=by
    have:=eZ (f:=aH) (at_mem hi);omega
   (refine aF ?_;repeat' (refine aD ?_ ?_<;>intro _<;>try simp (disch:=first|assumption|omega) only[S0,rA,rQ,rB,rT,rE,aW,Ram, *]))
  ·have h2:decide ((xs.length:Int)<xs.length)=false:=by simp
   (refine aF ?_;repeat' (refine aD ?_ ?_<;>intro _<;>try simp (disch:=first|assumption|omega) only[S0,rA,rQ,rB,rT,rE, *]))
 ·have ic:((xs.length:Int)==(ys.length:Int))=false:=by simp;omega
  have e:=Gab (fun h=>hl h.symm)
  (refine aF ?_;repeat' (refine aD ?_ ?_<;>intro _<;>try simp (disch:=first|assumption|omega) only[S0,rA,rQ,rB,rT,rE, *]))
theorem Ma0 (xs:(List bD))(k:Int)(hk:0<=k)(hb:k+(ctL aY xs:Nat)<=1152921504606846976)(hl:szL aH xs<=1099511627776):Fun T 138 [rL xs,i64 k]=some [i64 (k+(ctL aY xs:Nat)),rL (mkL aY jP xs k)]:=by
 rw[aQ (t:=Ya3) rfl];unfold Ya3
 have hx:xs.length<=1099511627776:=Sb1 fU hl;simp (disch:=first|assumption|omega) only[S0,rA,rQ,rB,rT,rE, *];rw[zY xs aY jP k rfl rfl rfl hk hb ?_ ?_ (by omega)]
 ·(refine aF ?_;repeat' (refine aD ?_ ?_<;>intro _<;>try simp (disch:=first|assumption|omega) only[S0,rA,rQ,rB,rT,rE, *]))
 ·intro i ys m hi hy hb aw jn hm hc hlen
  have ec:m+1+1+1+1+1+1+1+1+1+(ctL (fun _=>1) (atI xs (i:Int)).attr.deps:Nat)=m+(aY (atI xs i):Nat):=by rw[Aa4];omega
  have hq:aH (atI xs i)<=1099511627776:=by
   have:=eZ (f:=aH) (at_mem hi);omega
  rw[Jaj]at hq;rw[Aa4]at hc;have fu:(atI xs i).attr.deps.length<=1099511627776:=by omega
  (refine aF ?_;repeat' (refine aD ?_ ?_<;>intro _<;>try simp (disch:=first|assumption|omega|(simp only[lW];assumption)) only[S0,rA,rQ,rB,rT,rE,aW,qI,lW,Va9, *]))
  all_goals (try simp only[jP,ec])
 ·intro ys m hy aw
  (refine aF ?_;repeat' (refine aD ?_ ?_<;>intro _<;>try simp (disch:=first|assumption|omega) only[S0,rA,rQ,rB,rT,rE, *]))
theorem Ma1 (xs:(List bD))(k:Int)(hk:0<=k)(hb:k+(ctL aY xs:Nat)<=1152921504606846976)(hl:szL aH xs<=1099511627776):Fun T 145 [rL (mkL aY jP xs k),i64 k]=some [i64 (k+(ctL aY xs:Nat))]:=by
 rw[aQ (t:=Yaw) rfl];unfold Yaw
 have hx:xs.length<=1099511627776:=Sb1 fU hl;simp (disch:=first|assumption|omega) only[S0,rA,rQ,rB,rT,rE, *];rw[Aan xs aY jP k rfl hk hb (by omega)]
 ·(refine aF ?_;repeat' (refine aD ?_ ?_<;>intro _<;>try simp (disch:=first|assumption|omega) only[S0,rA,rQ,rB,rT,rE, *]))
 ·intro i m hi hb hy aw jn hm hc hlen
  have ec:m+1+1+1+1+1+1+1+1+1+(ctL (fun _=>1) (atI xs (i:Int)).attr.deps:Nat)=m+(aY (atI xs i):Nat):=by rw[Aa4];omega
  have hq:aH (atI xs i)<=1099511627776:=by
   have:=eZ (f:=aH) (at_mem hi);omega
  rw[Jaj]at hq;rw[Aa4]at hc;have fu:(atI xs i).attr.deps.length<=1099511627776:=by omega
  (refine aF ?_;repeat' (refine aD ?_ ?_<;>intro _<;>try simp (disch:=first|assumption|omega) only[S0,rA,rQ,rB,rT,rE,aW,Wad,jP,lt0, *]))
  all_goals (try simp only[ec])
 ·intro m hy aw
  (refine aF ?_;repeat' (refine aD ?_ ?_<;>intro _<;>try simp (disch:=first|assumption|omega) only[S0,rA,rQ,rB,rT,rE, *]))
theorem Iap (xs:(List (List bD)))(l:Int)(h0:0<=l)(h1:l<=1048576)(hw:xs.length<=140737488351232/\∀ y0∈xs,y0.length<=140737488351232/\∀ y1∈y0,mW y1):Fun T 3 [rL xs,i64 l]=some [i64 (szR l (szL (szL aH) xs))]:=by
 rw[aQ (t:=tm3) rfl];unfold tm3
 obtain⟨zl,tI⟩:=hw;by_cases c:(xs.length:Int)<=l
 ·have d:decide (l-(xs.length:Int)<0)=false:=by simp;omega
  simp (disch:=first|assumption|omega) only[S0,rA,rQ,rB,rT,rE, *];rw[Uay xs (szL aH) (l-xs.length) rfl (by omega) (by omega)]
  ·by_cases hd:((xs.map (szL aH)).sum:Int)<=l-xs.length
   ·have e:szR l (szL (szL aH) xs)=l-xs.length-((xs.map (szL aH)).sum:Nat):=by unfold szR;rw[show (szL (szL aH) xs)=xs.length+(xs.map (szL aH)).sum from rfl,if_pos (by omega)];omega
    rw[decide_eq_true hd]
    (refine aF ?_;repeat' (refine aD ?_ ?_<;>intro _<;>try simp (disch:=first|assumption|omega) only[S0,rA,rQ,rB,rT,rE, *]))
   ·have e:szR l (szL (szL aH) xs)=-1:=by unfold szR;rw[show (szL (szL aH) xs)=xs.length+(xs.map (szL aH)).sum from rfl,if_neg (by omega)]
    rw[decide_eq_false hd]
    (refine aF ?_;repeat' (refine aD ?_ ?_<;>intro _<;>try simp (disch:=first|assumption|omega) only[S0,rA,rQ,rB,rT,rE, *]))
  ·intro i m hi hb hl hm qc hf hr hd
   have hq:=tI _ (at_mem hi)
   (refine aF ?_;repeat' (refine aD ?_ ?_<;>intro _<;>try simp (disch:=first|assumption|omega) only[S0,rA,rQ,rB,rT,rE,aW,nJ, *]))
  ·intro i m hi hb hl hm qc hf hr hd
   have hq:=tI _ (at_mem hi)
   (refine aF ?_;repeat' (refine aD ?_ ?_<;>intro _<;>try simp (disch:=first|assumption|omega) only[S0,rA,rQ,rB,rT,rE,aW,nJ, *]))
  ·intro m hl
   (refine aF ?_;repeat' (refine aD ?_ ?_<;>intro _<;>try simp (disch:=first|assumption|omega) only[S0,rA,rQ,rB,rT,rE, *]))
 ·have e:szR l (szL (szL aH) xs)=-1:=by unfold szR;rw[show (szL (szL aH) xs)=xs.length+(xs.map (szL aH)).sum from rfl,if_neg (by omega)]
  have d:decide (l-(xs.length:Int)<0)=true:=by simp;omega
  (refine aF ?_;repeat' (refine aD ?_ ?_<;>intro _<;>try simp (disch:=first|assumption|omega) only[S0,rA,rQ,rB,rT,rE, *]))
theorem Taa (xs:(List (List bD)))(hs:szL (szL aH) xs<=1048576):Fun T 12 [rL xs]=some [rL xs]:=by
 rw[aQ (t:=Kb6) rfl];unfold Kb6
 have hl:xs.length<=1048576:=Sb1 fU hs;simp (disch:=first|assumption|omega) only[S0,rA,rQ,rB,rT,rE,Dap,Tb9, *];rw[Qaq xs rfl]
 ·(refine aF ?_;repeat' (refine aD ?_ ?_<;>intro _<;>try simp (disch:=first|assumption|omega) only[S0,rA,rQ,rB,rT,rE, *]))
 ·intro i ys hi hb eJ ic
  have hq:szL aH (atI xs i)<=1048576:=by
   have:=eZ (f:=(szL aH)) (at_mem hi);omega
  (refine aF ?_;repeat' (refine aD ?_ ?_<;>intro _<;>try simp (disch:=first|assumption|omega) only[S0,rA,rQ,rB,rT,rE,aW,qI,Mat, *]))
 ·intro ys ic
  (refine aF ?_;repeat' (refine aD ?_ ?_<;>intro _<;>try simp (disch:=first|assumption|omega) only[S0,rA,rQ,rB,rT,rE, *]))
theorem Tai (xs ys:(List (List bD)))(hs:szL (szL aH) xs<=1099511627776):Fun T 125 [rL xs,rL ys]=some [.bool (decide (xs=ys))]:=by
 rw[aQ (t:=Zag) rfl];unfold Zag
 have hx:xs.length<=1099511627776:=Sb1 fU hs;by_cases hl:ys.length=xs.length
 ·simp (disch:=first|assumption|omega) only[S0,rA,rQ,rB,rT,rE, *]
  rw[Jav 1 xs.length (fun i=>decide (atI xs i=atI ys i)) [.bool false],yM hl.symm]
  ·(refine aF ?_;repeat' (refine aD ?_ ?_<;>intro _<;>try simp (disch:=first|assumption|omega) only[S0,rA,rQ,rB,rT,rE, *]))
  ·intro i hi hp
   have hb:InB xs (i:Int):=aU.2 hi;have eJ:InB ys (i:Int):=aU.2 (by omega);have h2:decide ((i:Int)<xs.length)=true:=by simp;omega
   have hq:szL aH (atI xs i)<=1099511627776:=by
    have:=eZ (f:=(szL aH)) (at_mem hi);omega
   (refine aF ?_;repeat' (refine aD ?_ ?_<;>intro _<;>try simp (disch:=first|assumption|omega) only[S0,rA,rQ,rB,rT,rE,aW,Fao, *]))
  ·intro i hi hp
   have hb:InB xs (i:Int):=aU.2 hi;have eJ:InB ys (i:Int):=aU.2 (by omega);have h2:decide ((i:Int)<xs.length)=true:=by simp;omega
   have hq:szL aH (atI xs i)<=1099511627776:=by
    have:=eZ (f:=(szL aH)) (at_mem hi);omega
   (refine aF ?_;repeat' (refine aD ?_ ?_<;>intro _<;>try simp (disch:=first|assumption|omega) only[S0,rA,rQ,rB,rT,rE,aW,Fao, *]))
  ·have h2:decide ((xs.length:Int)<xs.length)=false:=by simp
   (refine aF ?_;repeat' (refine aD ?_ ?_<;>intro _<;>try simp (disch:=first|assumption|omega) only[S0,rA,rQ,rB,rT,rE, *]))
 ·have ic:((xs.length:Int)==(ys.length:Int))=false:=by simp;omega
  have e:=Gab (fun h=>hl h.symm)
  (refine aF ?_;repeat' (refine aD ?_ ?_<;>intro _<;>try simp (disch:=first|assumption|omega) only[S0,rA,rQ,rB,rT,rE, *]))
theorem Iaq (xs:(List (List bD)))(k:Int)(hk:0<=k)(hb:k+(ctL (ctL aY) xs:Nat)<=1152921504606846976)(hl:szL (szL aH) xs<=1099511627776):Fun T 137 [rL xs,i64 k]=some [i64 (k+(ctL (ctL aY) xs:Nat)),rL (mkL (ctL aY) (mkL aY jP) xs k)]:=by
 rw[aQ (t:=Ya4) rfl];unfold Ya4
 have hx:xs.length<=1099511627776:=Sb1 fU hl;simp (disch:=first|assumption|omega) only[S0,rA,rQ,rB,rT,rE, *];rw[zY xs (ctL aY) (mkL aY jP) k rfl rfl rfl hk hb ?_ ?_ (by omega)]
 ·(refine aF ?_;repeat' (refine aD ?_ ?_<;>intro _<;>try simp (disch:=first|assumption|omega) only[S0,rA,rQ,rB,rT,rE, *]))
 ·intro i ys m hi hy hb aw jn hm hc hlen
  have hq:szL aH (atI xs i)<=1099511627776:=by
   have:=eZ (f:=(szL aH)) (at_mem hi);omega
  (refine aF ?_;repeat' (refine aD ?_ ?_<;>intro _<;>try simp (disch:=first|assumption|omega|(simp only[lW];assumption)) only[S0,rA,rQ,rB,rT,rE,aW,qI,lW,Ma0, *]))
 ·intro ys m hy aw
  (refine aF ?_;repeat' (refine aD ?_ ?_<;>intro _<;>try simp (disch:=first|assumption|omega) only[S0,rA,rQ,rB,rT,rE, *]))
theorem Iar (xs:(List (List bD)))(k:Int)(hk:0<=k)(hb:k+(ctL (ctL aY) xs:Nat)<=1152921504606846976)(hl:szL (szL aH) xs<=1099511627776):Fun T 144 [rL (mkL (ctL aY) (mkL aY jP) xs k),i64 k]=some [i64 (k+(ctL (ctL aY) xs:Nat))]:=by
 rw[aQ (t:=Yax) rfl];unfold Yax
 have hx:xs.length<=1099511627776:=Sb1 fU hl;simp (disch:=first|assumption|omega) only[S0,rA,rQ,rB,rT,rE, *];rw[Aan xs (ctL aY) (mkL aY jP) k rfl hk hb (by omega)]
 ·(refine aF ?_;repeat' (refine aD ?_ ?_<;>intro _<;>try simp (disch:=first|assumption|omega) only[S0,rA,rQ,rB,rT,rE, *]))
 ·intro i m hi hb hy aw jn hm hc hlen
  have hq:szL aH (atI xs i)<=1099511627776:=by
   have:=eZ (f:=(szL aH)) (at_mem hi);omega
  have hz:decide (m+(ctL aY (atI xs i):Nat)<0)=false:=by simp;omega
  (refine aF ?_;repeat' (refine aD ?_ ?_<;>intro _<;>try simp (disch:=first|assumption|omega) only[S0,rA,rQ,rB,rT,rE,aW,Ma1,lt0, *]))
 ·intro m hy aw
  (refine aF ?_;repeat' (refine aD ?_ ?_<;>intro _<;>try simp (disch:=first|assumption|omega) only[S0,rA,rQ,rB,rT,rE, *]))
theorem Bay (ob:Int)(cC:(List (List bD)))(l:Int)(h0:0<=l)(h1:l<=1048576)(hw:Eao ⟨ob,cC⟩):Fun T 2 [i64 ob,rL cC,i64 l]=some [i64 (szR l (bJ ⟨ob,cC⟩))]:=by
 rw[aQ (t:=tm2) rfl];unfold tm2
 unfold Eao at hw;simp only at hw;have w0:=hw;by_cases c0:((szL (szL aH) cC:Nat):Int)<=l
 rotate_left
 ·have e0:szR (l) (szL (szL aH) cC)=-1:=if_neg c0
  have d0:decide ((-1:Int)<0)=true:=rfl;have e:szR l (bJ ⟨ob,cC⟩)=-1:=by unfold szR bJ;simp only[];split<;>omega
  (refine aF ?_;repeat' (refine aD ?_ ?_<;>intro _<;>try simp (disch:=first|assumption|omega) only[S0,rA,rQ,rB,rT,rE,Iap, *]))
 have e0:szR (l) (szL (szL aH) cC)=l-(szL (szL aH) cC:Nat):=if_pos c0;have d0:decide (l-((szL (szL aH) cC:Nat):Int)<0)=false:=by simp;omega
 have e:szR l (bJ ⟨ob,cC⟩)=l-((szL (szL aH) cC:Nat):Int):=by unfold szR bJ;simp only[];split<;>omega
 (refine aF ?_;repeat' (refine aD ?_ ?_<;>intro _<;>try simp (disch:=first|assumption|omega) only[S0,rA,rQ,rB,rT,rE,Iap, *]))
theorem Sa8 (ob:Int)(cC:(List (List bD)))(hs:bJ ⟨ob,cC⟩<=1048576):Fun T 11 [i64 ob,rL cC]=some [i64 ob,rL cC]:=by
 rw[aQ (t:=Kb7) rfl];unfold Kb7
 unfold bJ at hs;simp only at hs;have s0:szL (szL aH) cC<=1048576:=by omega
 (refine aF ?_;repeat' (refine aD ?_ ?_<;>intro _<;>try simp (disch:=first|assumption|omega) only[S0,rA,rQ,rB,rT,rE,Taa, *]))
theorem Taf (ob:Int)(cC:(List (List bD)))(y_n:Int)(oa:(List (List bD)))(hs:bJ ⟨ob,cC⟩<=1099511627776):Fun T 124 [i64 ob,rL cC,i64 y_n,rL oa]=some [.bool (decide ((⟨ob,cC⟩:aT)=⟨y_n,oa⟩))]:=by
 rw[aQ (t:=Zah) rfl];unfold Zah
 unfold bJ at hs;simp only at hs;have s0:szL (szL aH) cC<=1099511627776:=by omega
 have e:decide ((⟨ob,cC⟩:aT)=⟨y_n,oa⟩)=((ob==y_n)&&decide ((cC:(List (List bD)))=oa)):=by
  simp only[aT.mk.injEq,Tbt,Ubs,Ub8]
 rw[e]
 (refine aF ?_;repeat' (refine aD ?_ ?_<;>intro _<;>try simp (disch:=first|assumption|omega) only[S0,rA,rQ,rB,rT,rE,Tai, *]))
theorem Tab (ob:Int)(cC:(List (List bD)))(k:Int)(hk:0<=k)(hb:k+(ctL (ctL aY) cC:Nat)<=1152921504606846976)(lA:szL (szL aH) cC<=1099511627776):Fun T 136 [i64 ob,rL cC,i64 k]=some [i64 (k+(ctL (ctL aY) cC:Nat)),rL (mkL (ctL aY) (mkL aY jP) cC (k))]:=by
 rw[aQ (t:=Ya5) rfl];unfold Ya5
 (refine aF ?_;repeat' (refine aD ?_ ?_<;>intro _<;>try simp (disch:=first|assumption|omega) only[S0,rA,rQ,rB,rT,rE,Iaq, *]))
theorem Tad (ob:Int)(cC:(List (List bD)))(k:Int)(hk:0<=k)(hb:k+(ctL (ctL aY) cC:Nat)<=1152921504606846976)(lA:szL (szL aH) cC<=1099511627776):Fun T 143 [i64 ob,rL (mkL (ctL aY) (mkL aY jP) cC (k)),i64 k]=some [i64 (k+(ctL (ctL aY) cC:Nat))]:=by
 rw[aQ (t:=Yay) rfl];unfold Yay
 have z1:decide (k+(ctL (ctL aY) cC:Nat)<0)=false:=by simp;omega
 (refine aF ?_;repeat' (refine aD ?_ ?_<;>intro _<;>try simp (disch:=first|assumption|omega) only[S0,rA,rQ,rB,rT,rE,Iar, *]))
theorem Mav (fa gp bg dz ay bf ba bb bc au:Int)(an:(List Int))(ah:Int)(af:(List Int))(eV:Bool)(dw:(List Int))(cX:(List bD))(l:Int)(h0:0<=l)(h1:l<=1048576)(hw:vQ ⟨fa,gp,bg,dz,⟨ay,bf,ba,bb,bc⟩,⟨au,an⟩,⟨ah,af⟩,eV,dw,cX⟩):Fun T 9 [i64 fa,i64 gp,i64 bg,i64 dz,i64 ay,i64 bf,i64 ba,i64 bb,i64 bc,i64 au,rL an,i64 ah,rL af,.bool eV,rL dw,rL cX,i64 l]=some [i64 (szR l (aL ⟨fa,gp,bg,dz,⟨ay,bf,ba,bb,bc⟩,⟨au,an⟩,⟨ah,af⟩,eV,dw,cX⟩))]:=by
 rw[aQ (t:=tm9) rfl];unfold tm9
 unfold vQ at hw;simp only at hw;obtain⟨w0,w1,w2,w3⟩:=hw;by_cases c0:((aM ⟨au,an⟩:Nat):Int)<=l
 rotate_left
 ·have e0:szR (l) (aM ⟨au,an⟩)=-1:=if_neg c0
  have d0:decide ((-1:Int)<0)=true:=rfl;have e:szR l (aL ⟨fa,gp,bg,dz,⟨ay,bf,ba,bb,bc⟩,⟨au,an⟩,⟨ah,af⟩,eV,dw,cX⟩)=-1:=by unfold szR aL;simp only[];split<;>omega
  (refine aF ?_;repeat' (refine aD ?_ ?_<;>intro _<;>try simp (disch:=first|assumption|omega) only[S0,rA,rQ,rB,rT,rE,iD,iD,Fak,nJ, *]))
 have e0:szR (l) (aM ⟨au,an⟩)=l-(aM ⟨au,an⟩:Nat):=if_pos c0;have d0:decide (l-((aM ⟨au,an⟩:Nat):Int)<0)=false:=by simp;omega
 by_cases c1:((aM ⟨ah,af⟩:Nat):Int)<=l-((aM ⟨au,an⟩:Nat):Int)
 rotate_left
 ·have e1:szR (l-((aM ⟨au,an⟩:Nat):Int)) (aM ⟨ah,af⟩)=-1:=if_neg c1
  have d1:decide ((-1:Int)<0)=true:=rfl;have e:szR l (aL ⟨fa,gp,bg,dz,⟨ay,bf,ba,bb,bc⟩,⟨au,an⟩,⟨ah,af⟩,eV,dw,cX⟩)=-1:=by unfold szR aL;simp only[];split<;>omega
  (refine aF ?_;repeat' (refine aD ?_ ?_<;>intro _<;>try simp (disch:=first|assumption|omega) only[S0,rA,rQ,rB,rT,rE,iD,iD,Fak,nJ, *]))
 have e1:szR (l-((aM ⟨au,an⟩:Nat):Int)) (aM ⟨ah,af⟩)=l-((aM ⟨au,an⟩:Nat):Int)-(aM ⟨ah,af⟩:Nat):=if_pos c1;have d1:decide (l-((aM ⟨au,an⟩:Nat):Int)-((aM ⟨ah,af⟩:Nat):Int)<0)=false:=by simp;omega
 by_cases c2:((szL (fun _=>0) dw:Nat):Int)<=l-((aM ⟨au,an⟩:Nat):Int)-((aM ⟨ah,af⟩:Nat):Int)
 rotate_left
 ·have e2:szR (l-((aM ⟨au,an⟩:Nat):Int)-((aM ⟨ah,af⟩:Nat):Int)) (szL (fun _=>0) dw)=-1:=if_neg c2
  have d2:decide ((-1:Int)<0)=true:=rfl;have e:szR l (aL ⟨fa,gp,bg,dz,⟨ay,bf,ba,bb,bc⟩,⟨au,an⟩,⟨ah,af⟩,eV,dw,cX⟩)=-1:=by unfold szR aL;simp only[];split<;>omega
  (refine aF ?_;repeat' (refine aD ?_ ?_<;>intro _<;>try simp (disch:=first|assumption|omega) only[S0,rA,rQ,rB,rT,rE,iD,iD,Fak,nJ, *]))
 have e2:szR (l-((aM ⟨au,an⟩:Nat):Int)-((aM ⟨ah,af⟩:Nat):Int)) (szL (fun _=>0) dw)=l-((aM ⟨au,an⟩:Nat):Int)-((aM ⟨ah,af⟩:Nat):Int)-(szL (fun _=>0) dw:Nat):=if_pos c2;have d2:decide (l-((aM ⟨au,an⟩:Nat):Int)-((aM ⟨ah,af⟩:Nat):Int)-((szL (fun _=>0) dw:Nat):Int)<0)=false:=by simp;omega
 by_cases c3:((szL aH cX:Nat):Int)<=l-((aM ⟨au,an⟩:Nat):Int)-((aM ⟨ah,af⟩:Nat):Int)-((szL (fun _=>0) dw:Nat):Int)
 rotate_left
 ·have e3:szR (l-((aM ⟨au,an⟩:Nat):Int)-((aM ⟨ah,af⟩:Nat):Int)-((szL (fun _=>0) dw:Nat):Int)) (szL aH cX)=-1:=if_neg c3
  have d3:decide ((-1:Int)<0)=true:=rfl;have e:szR l (aL ⟨fa,gp,bg,dz,⟨ay,bf,ba,bb,bc⟩,⟨au,an⟩,⟨ah,af⟩,eV,dw,cX⟩)=-1:=by unfold szR aL;simp only[];split<;>omega
  (refine aF ?_;repeat' (refine aD ?_ ?_<;>intro _<;>try simp (disch:=first|assumption|omega) only[S0,rA,rQ,rB,rT,rE,iD,iD,Fak,nJ, *]))
 have e3:szR (l-((aM ⟨au,an⟩:Nat):Int)-((aM ⟨ah,af⟩:Nat):Int)-((szL (fun _=>0) dw:Nat):Int)) (szL aH cX)=l-((aM ⟨au,an⟩:Nat):Int)-((aM ⟨ah,af⟩:Nat):Int)-((szL (fun _=>0) dw:Nat):Int)-(szL aH cX:Nat):=if_pos c3;have d3:decide (l-((aM ⟨au,an⟩:Nat):Int)-((aM ⟨ah,af⟩:Nat):Int)-((szL (fun _=>0) dw:Nat):Int)-((szL aH cX:Nat):Int)<0)=false:=by simp;omega
 have e:szR l (aL ⟨fa,gp,bg,dz,⟨ay,bf,ba,bb,bc⟩,⟨au,an⟩,⟨ah,af⟩,eV,dw,cX⟩)=l-((aM ⟨au,an⟩:Nat):Int)-((aM ⟨ah,af⟩:Nat):Int)-((szL (fun _=>0) dw:Nat):Int)-((szL aH cX:Nat):Int):=by unfold szR aL;simp only[];split<;>omega
 (refine aF ?_;repeat' (refine aD ?_ ?_<;>intro _<;>try simp (disch:=first|assumption|omega) only[S0,rA,rQ,rB,rT,rE,iD,iD,Fak,nJ, *]))
theorem Va5 (fa gp bg dz ay bf ba bb bc au:Int)(an:(List Int))(ah:Int)(af:(List Int))(eV:Bool)(dw:(List Int))(cX:(List bD))(hs:aL ⟨fa,gp,bg,dz,⟨ay,bf,ba,bb,bc⟩,⟨au,an⟩,⟨ah,af⟩,eV,dw,cX⟩<=1048576):Fun T 19 [i64 fa,i64 gp,i64 bg,i64 dz,i64 ay,i64 bf,i64 ba,i64 bb,i64 bc,i64 au,rL an,i64 ah,rL af,.bool eV,rL dw,rL cX]=some [i64 fa,i64 gp,i64 bg,i64 dz,i64 ay,i64 bf,i64 ba,i64 bb,i64 bc,i64 au,rL an,i64 ah,rL af,.bool eV,rL dw,rL cX]:=by
 rw[aQ (t:=Kbz) rfl];unfold Kbz
 unfold aL at hs;simp only at hs;have s0:aM ⟨au,an⟩<=1048576:=by omega
 have s1:aM ⟨ah,af⟩<=1048576:=by omega
 have s2:szL (fun _=>0) dw<=1048576:=by omega
 have s3:szL aH cX<=1048576:=by omega
 (refine aF ?_;repeat' (refine aD ?_ ?_<;>intro _<;>try simp (disch:=first|assumption|omega) only[S0,rA,rQ,rB,rT,rE,Kaa,Mas,Cbq,Mat, *]))
theorem Ma2 (fa gp bg dz ay bf ba bb bc au:Int)(an:(List Int))(ah:Int)(af:(List Int))(eV:Bool)(dw:(List Int))(cX:(List bD))(kz n4 eg mg cU et de db di il:Int)(gn:(List Int))(cR:Int)(cE:(List Int))(n5:Bool)(qi:(List Int))(nB:(List bD))(hs:aL ⟨fa,gp,bg,dz,⟨ay,bf,ba,bb,bc⟩,⟨au,an⟩,⟨ah,af⟩,eV,dw,cX⟩<=1099511627776):Fun T 132 [i64 fa,i64 gp,i64 bg,i64 dz,i64 ay,i64 bf,i64 ba,i64 bb,i64 bc,i64 au,rL an,i64 ah,rL af,.bool eV,rL dw,rL cX,i64 kz,i64 n4,i64 eg,i64 mg,i64 cU,i64 et,i64 de,i64 db,i64 di,i64 il,rL gn,i64 cR,rL cE,.bool n5,rL qi,rL nB]=some [.bool (decide ((⟨fa,gp,bg,dz,⟨ay,bf,ba,bb,bc⟩,⟨au,an⟩,⟨ah,af⟩,eV,dw,cX⟩:aR)=⟨kz,n4,eg,mg,⟨cU,et,de,db,di⟩,⟨il,gn⟩,⟨cR,cE⟩,n5,qi,nB⟩))]:=by
 rw[aQ (t:=Ya9) rfl];unfold Ya9
 unfold aL at hs;simp only at hs;have s0:aM ⟨au,an⟩<=1099511627776:=by omega
 have s1:aM ⟨ah,af⟩<=1099511627776:=by omega
 have s2:szL (fun _=>0) dw<=1099511627776:=by omega
 have s3:szL aH cX<=1099511627776:=by omega
 have e:decide ((⟨fa,gp,bg,dz,⟨ay,bf,ba,bb,bc⟩,⟨au,an⟩,⟨ah,af⟩,eV,dw,cX⟩:aR)=⟨kz,n4,eg,mg,⟨cU,et,de,db,di⟩,⟨il,gn⟩,⟨cR,cE⟩,n5,qi,nB⟩)=((fa==kz)&&(gp==n4)&&(bg==eg)&&(dz==mg)&&decide ((⟨ay,bf,ba,bb,bc⟩:kP)=⟨cU,et,de,db,di⟩)&&decide ((⟨au,an⟩:cZ)=⟨il,gn⟩)&&decide ((⟨ah,af⟩:cZ)=⟨cR,cE⟩)&&(eV==n5)&&decide ((dw:(List Int))=qi)&&decide ((cX:(List bD))=nB)):=by
  simp only[aR.mk.injEq,Tbt,Ubs,Ub8]
 rw[e]
 (refine aF ?_;repeat' (refine aD ?_ ?_<;>intro _<;>try simp (disch:=first|assumption|omega) only[S0,rA,rQ,rB,rT,rE,Kaf,Fan,Cbr,Fao, *]))
theorem Baz (xs:(List aR))(l:Int)(h0:0<=l)(h1:l<=1048576)(hw:xs.length<=140737488351232/\∀ y0∈xs,vQ y0):Fun T 8 [rL xs,i64 l]=some [i64 (szR l (szL aL xs))]:=by
 rw[aQ (t:=tm8) rfl];unfold tm8
 obtain⟨zl,tI⟩:=hw;by_cases c:(xs.length:Int)<=l
 ·have d:decide (l-(xs.length:Int)<0)=false:=by simp;omega
  simp (disch:=first|assumption|omega) only[S0,rA,rQ,rB,rT,rE, *];rw[Uay xs aL (l-xs.length) rfl (by omega) (by omega)]
  ·by_cases hd:((xs.map aL).sum:Int)<=l-xs.length
   ·have e:szR l (szL aL xs)=l-xs.length-((xs.map aL).sum:Nat):=by unfold szR;rw[show (szL aL xs)=xs.length+(xs.map aL).sum from rfl,if_pos (by omega)];omega
    rw[decide_eq_true hd]
    (refine aF ?_;repeat' (refine aD ?_ ?_<;>intro _<;>try simp (disch:=first|assumption|omega) only[S0,rA,rQ,rB,rT,rE, *]))
   ·have e:szR l (szL aL xs)=-1:=by unfold szR;rw[show (szL aL xs)=xs.length+(xs.map aL).sum from rfl,if_neg (by omega)]
    rw[decide_eq_false hd]
    (refine aF ?_;repeat' (refine aD ?_ ?_<;>intro _<;>try simp (disch:=first|assumption|omega) only[S0,rA,rQ,rB,rT,rE, *]))
  ·intro i m hi hb hl hm qc hf hr hd
   have hq:=tI _ (at_mem hi)
   (refine aF ?_;repeat' (refine aD ?_ ?_<;>intro _<;>try simp (disch:=first|assumption|omega) only[S0,rA,rQ,rB,rT,rE,aW,Mav, *]))
  ·intro i m hi hb hl hm qc hf hr hd
   have hq:=tI _ (at_mem hi)
   (refine aF ?_;repeat' (refine aD ?_ ?_<;>intro _<;>try simp (disch:=first|assumption|omega) only[S0,rA,rQ,rB,rT,rE,aW,Mav, *]))
  ·intro m hl
   (refine aF ?_;repeat' (refine aD ?_ ?_<;>intro _<;>try simp (disch:=first|assumption|omega) only[S0,rA,rQ,rB,rT,rE, *]))
 ·have e:szR l (szL aL xs)=-1:=by unfold szR;rw[show (szL aL xs)=xs.length+(xs.map aL).sum from rfl,if_neg (by omega)]
  have d:decide (l-(xs.length:Int)<0)=true:=by simp;omega
  (refine aF ?_;repeat' (refine aD ?_ ?_<;>intro _<;>try simp (disch:=first|assumption|omega) only[S0,rA,rQ,rB,rT,rE, *]))
theorem Sa9 (xs:(List aR))(hs:szL aL xs<=1048576):Fun T 18 [rL xs]=some [rL xs]:=by
 rw[aQ (t:=Kb0) rfl];unfold Kb0
 have hl:xs.length<=1048576:=Sb1 fU hs;simp (disch:=first|assumption|omega) only[S0,rA,rQ,rB,rT,rE,Dap,Tb9, *];rw[Qaq xs rfl]
 ·(refine aF ?_;repeat' (refine aD ?_ ?_<;>intro _<;>try simp (disch:=first|assumption|omega) only[S0,rA,rQ,rB,rT,rE, *]))
 ·intro i ys hi hb eJ ic
  have hq:aL (atI xs i)<=1048576:=by
   have:=eZ (f:=aL) (at_mem hi);omega
  (refine aF ?_;repeat' (refine aD ?_ ?_<;>intro _<;>try simp (disch:=first|assumption|omega) only[S0,rA,rQ,rB,rT,rE,aW,qI,Va5, *]))
 ·intro ys ic
  (refine aF ?_;repeat' (refine aD ?_ ?_<;>intro _<;>try simp (disch:=first|assumption|omega) only[S0,rA,rQ,rB,rT,rE, *]))
theorem Tah (xs ys:(List aR))(hs:szL aL xs<=1099511627776):Fun T 131 [rL xs,rL ys]=some [.bool (decide (xs=ys))]:=by
 rw[aQ (t:=Zaa) rfl];unfold Zaa
 have hx:xs.length<=1099511627776:=Sb1 fU hs;by_cases hl:ys.length=xs.length
 ·simp (disch:=first|assumption|omega) only[S0,rA,rQ,rB,rT,rE, *]
  rw[Jav 1 xs.length (fun i=>decide (atI xs i=atI ys i)) [.bool false],yM hl.symm]
  ·(refine aF ?_;repeat' (refine aD ?_ ?_<;>intro _<;>try simp (disch:=first|assumption|omega) only[S0,rA,rQ,rB,rT,rE, *]))
  ·intro i hi hp
   have hb:InB xs (i:Int):=aU.2 hi;have eJ:InB ys (i:Int):=aU.2 (by omega);have h2:decide ((i:Int)<xs.length)=true:=by simp;omega
   have hq:aL (atI xs i)<=1099511627776:=by
    have:=eZ (f:=aL) (at_mem hi);omega
   (refine aF ?_;repeat' (refine aD ?_ ?_<;>intro _<;>try simp (disch:=first|assumption|omega) only[S0,rA,rQ,rB,rT,rE,aW,Ma2, *]))
  ·intro i hi hp
   have hb:InB xs (i:Int):=aU.2 hi;have eJ:InB ys (i:Int):=aU.2 (by omega);have h2:decide ((i:Int)<xs.length)=true:=by simp;omega
   have hq:aL (atI xs i)<=1099511627776:=by
    have:=eZ (f:=aL) (at_mem hi);omega
   (refine aF ?_;repeat' (refine aD ?_ ?_<;>intro _<;>try simp (disch:=first|assumption|omega) only[S0,rA,rQ,rB,rT,rE,aW,Ma2, *]))
  ·have h2:decide ((xs.length:Int)<xs.length)=false:=by simp
   (refine aF ?_;repeat' (refine aD ?_ ?_<;>intro _<;>try simp (disch:=first|assumption|omega) only[S0,rA,rQ,rB,rT,rE, *]))
 ·have ic:((xs.length:Int)==(ys.length:Int))=false:=by simp;omega
  have e:=Gab (fun h=>hl h.symm)
  (refine aF ?_;repeat' (refine aD ?_ ?_<;>intro _<;>try simp (disch:=first|assumption|omega) only[S0,rA,rQ,rB,rT,rE, *]))
theorem Tac (xs:(List aR))(k:Int)(hk:0<=k)(hb:k+(ctL dC xs:Nat)<=1152921504606846976)(hl:szL aL xs<=1099511627776):Fun T 140 [rL xs,i64 k]=some [i64 (k+(ctL dC xs:Nat)),rL (mkL dC oF xs k)]:=by
 rw[aQ (t:=Ya1) rfl];unfold Ya1
 have hx:xs.length<=1099511627776:=Sb1 fU hl;simp (disch:=first|assumption|omega) only[S0,rA,rQ,rB,rT,rE, *];rw[zY xs dC oF k rfl rfl rfl hk hb ?_ ?_ (by omega)]
 ·(refine aF ?_;repeat' (refine aD ?_ ?_<;>intro _<;>try simp (disch:=first|assumption|omega) only[S0,rA,rQ,rB,rT,rE, *]))
 ·intro i ys m hi hy hb aw jn hm hc hlen
  have ec:m+1+1+1+1+1+1+1+1+1+1+(ctL (fun _=>1) (atI xs (i:Int)).first.deps:Nat)+1+(ctL (fun _=>1) (atI xs (i:Int)).attr.deps:Nat)+1+(ctL (fun _=>1) (atI xs (i:Int)).who:Nat)+(ctL aY (atI xs (i:Int)).seen:Nat)=m+(dC (atI xs i):Nat):=by rw[vE];omega
  have hq:aL (atI xs i)<=1099511627776:=by
   have:=eZ (f:=aL) (at_mem hi);omega
  rw[tV]at hq;rw[vE]at hc;have na:(atI xs i).first.deps.length<=1099511627776:=by omega
  have fu:(atI xs i).attr.deps.length<=1099511627776:=by omega
  have vl:(atI xs i).who.length<=1099511627776:=by omega
  have sX:szL aH (atI xs i).seen<=1099511627776:=by omega
  (refine aF ?_;repeat' (refine aD ?_ ?_<;>intro _<;>try simp (disch:=first|assumption|omega|(simp only[lW];assumption)) only[S0,rA,rQ,rB,rT,rE,aW,qI,lW,Va9,Ma0, *]))
  all_goals (try simp only[oF,ec])
 ·intro ys m hy aw
  (refine aF ?_;repeat' (refine aD ?_ ?_<;>intro _<;>try simp (disch:=first|assumption|omega) only[S0,rA,rQ,rB,rT,rE, *]))
theorem Tae (xs:(List aR))(k:Int)(hk:0<=k)(hb:k+(ctL dC xs:Nat)<=1152921504606846976)(hl:szL aL xs<=1099511627776):Fun T 147 [rL (mkL dC oF xs k),i64 k]=some [i64 (k+(ctL dC xs:Nat))]:=by
 rw[aQ (t:=Yau) rfl];unfold Yau
 have hx:xs.length<=1099511627776:=Sb1 fU hl;simp (disch:=first|assumption|omega) only[S0,rA,rQ,rB,rT,rE, *];rw[Aan xs dC oF k rfl hk hb (by omega)]
 ·(refine aF ?_;repeat' (refine aD ?_ ?_<;>intro _<;>try simp (disch:=first|assumption|omega) only[S0,rA,rQ,rB,rT,rE, *]))
 ·intro i m hi hb hy aw jn hm hc hlen
  have ec:m+1+1+1+1+1+1+1+1+1+1+(ctL (fun _=>1) (atI xs (i:Int)).first.deps:Nat)+1+(ctL (fun _=>1) (atI xs (i:Int)).attr.deps:Nat)+1+(ctL (fun _=>1) (atI xs (i:Int)).who:Nat)+(ctL aY (atI xs (i:Int)).seen:Nat)=m+(dC (atI xs i):Nat):=by rw[vE];omega
  have hq:aL (atI xs i)<=1099511627776:=by
   have:=eZ (f:=aL) (at_mem hi);omega
  rw[tV]at hq;rw[vE]at hc;have na:(atI xs i).first.deps.length<=1099511627776:=by omega
  have fu:(atI xs i).attr.deps.length<=1099511627776:=by omega
  have vl:(atI xs i).who.length<=1099511627776:=by omega
  have sX:szL aH (atI xs i).seen<=1099511627776:=by omega
  (refine aF ?_;repeat' (refine aD ?_ ?_<;>intro _<;>try simp (disch:=first|assumption|omega) only[S0,rA,rQ,rB,rT,rE,aW,Wad,Ma1,oF,lt0, *]))
  all_goals (try simp only[ec])
 ·intro m hy aw
  (refine aF ?_;repeat' (refine aD ?_ ?_<;>intro _<;>try simp (disch:=first|assumption|omega) only[S0,rA,rQ,rB,rT,rE, *]))
theorem Ral (jc bj:Int)(ak:(List (List bD)))(b8:(List aR))(l:Int)(h0:0<=l)(h1:l<=1048576)(hw:Jaf ⟨jc,⟨bj,ak⟩,b8⟩):Fun T 1 [i64 jc,i64 bj,rL ak,rL b8,i64 l]=some [i64 (szR l (fE ⟨jc,⟨bj,ak⟩,b8⟩))]:=by
 rw[aQ (t:=tm1) rfl];unfold tm1
 unfold Jaf at hw;simp only at hw;obtain⟨w0,w1⟩:=hw;by_cases c0:((bJ ⟨bj,ak⟩:Nat):Int)<=l
 rotate_left
 ·have e0:szR (l) (bJ ⟨bj,ak⟩)=-1:=if_neg c0
  have d0:decide ((-1:Int)<0)=true:=rfl;have e:szR l (fE ⟨jc,⟨bj,ak⟩,b8⟩)=-1:=by unfold szR fE;simp only[];split<;>omega
  (refine aF ?_;repeat' (refine aD ?_ ?_<;>intro _<;>try simp (disch:=first|assumption|omega) only[S0,rA,rQ,rB,rT,rE,Bay,Baz, *]))
 have e0:szR (l) (bJ ⟨bj,ak⟩)=l-(bJ ⟨bj,ak⟩:Nat):=if_pos c0;have d0:decide (l-((bJ ⟨bj,ak⟩:Nat):Int)<0)=false:=by simp;omega
 by_cases c1:((szL aL b8:Nat):Int)<=l-((bJ ⟨bj,ak⟩:Nat):Int)
 rotate_left
 ·have e1:szR (l-((bJ ⟨bj,ak⟩:Nat):Int)) (szL aL b8)=-1:=if_neg c1
  have d1:decide ((-1:Int)<0)=true:=rfl;have e:szR l (fE ⟨jc,⟨bj,ak⟩,b8⟩)=-1:=by unfold szR fE;simp only[];split<;>omega
  (refine aF ?_;repeat' (refine aD ?_ ?_<;>intro _<;>try simp (disch:=first|assumption|omega) only[S0,rA,rQ,rB,rT,rE,Bay,Baz, *]))
 have e1:szR (l-((bJ ⟨bj,ak⟩:Nat):Int)) (szL aL b8)=l-((bJ ⟨bj,ak⟩:Nat):Int)-(szL aL b8:Nat):=if_pos c1;have d1:decide (l-((bJ ⟨bj,ak⟩:Nat):Int)-((szL aL b8:Nat):Int)<0)=false:=by simp;omega
 have e:szR l (fE ⟨jc,⟨bj,ak⟩,b8⟩)=l-((bJ ⟨bj,ak⟩:Nat):Int)-((szL aL b8:Nat):Int):=by unfold szR fE;simp only[];split<;>omega
 (refine aF ?_;repeat' (refine aD ?_ ?_<;>intro _<;>try simp (disch:=first|assumption|omega) only[S0,rA,rQ,rB,rT,rE,Bay,Baz, *]))
theorem Abv (jc bj:Int)(ak:(List (List bD)))(b8:(List aR))(hs:fE ⟨jc,⟨bj,ak⟩,b8⟩<=1048576):Fun T 10 [i64 jc,i64 bj,rL ak,rL b8]=some [i64 jc,i64 bj,rL ak,rL b8]:=by
 rw[aQ (t:=Kb8) rfl];unfold Kb8
 unfold fE at hs;simp only at hs;have s0:bJ ⟨bj,ak⟩<=1048576:=by omega
 have s1:szL aL b8<=1048576:=by omega
 (refine aF ?_;repeat' (refine aD ?_ ?_<;>intro _<;>try simp (disch:=first|assumption|omega) only[S0,rA,rQ,rB,rT,rE,Sa8,Sa9, *]))
theorem Ab1 (jc bj:Int)(ak:(List (List bD)))(b8:(List aR))(ug jz:Int)(gr:(List (List bD)))(mi:(List aR))(hs:fE ⟨jc,⟨bj,ak⟩,b8⟩<=1099511627776):Fun T 123 [i64 jc,i64 bj,rL ak,rL b8,i64 ug,i64 jz,rL gr,rL mi]=some [.bool (decide ((⟨jc,⟨bj,ak⟩,b8⟩:yN)=⟨ug,⟨jz,gr⟩,mi⟩))]:=by
 rw[aQ (t:=Zai) rfl];unfold Zai
 unfold fE at hs;simp only at hs;have s0:bJ ⟨bj,ak⟩<=1099511627776:=by omega
 have s1:szL aL b8<=1099511627776:=by omega
 have e:decide ((⟨jc,⟨bj,ak⟩,b8⟩:yN)=⟨ug,⟨jz,gr⟩,mi⟩)=((jc==ug)&&decide ((⟨bj,ak⟩:aT)=⟨jz,gr⟩)&&decide ((b8:(List aR))=mi)):=by
  simp only[yN.mk.injEq,Tbt,Ubs,Ub8]
 rw[e]
 (refine aF ?_;repeat' (refine aD ?_ ?_<;>intro _<;>try simp (disch:=first|assumption|omega) only[S0,rA,rQ,rB,rT,rE,Taf,Tah, *]))
theorem Aby (jc bj:Int)(ak:(List (List bD)))(b8:(List aR))(k:Int)(hk:0<=k)(hb:k+(ctL (ctL aY) ak+ctL dC b8:Nat)<=1152921504606846976)(lA:szL (szL aH) ak<=1099511627776)(ka:szL aL b8<=1099511627776):Fun T 135 [i64 jc,i64 bj,rL ak,rL b8,i64 k]=some [i64 (k+(ctL (ctL aY) ak:Nat)+(ctL dC b8:Nat)),rL (mkL (ctL aY) (mkL aY jP) ak (k)),rL (mkL dC oF b8 (k+(ctL (ctL aY) ak:Nat)))]:=by
 rw[aQ (t:=Ya6) rfl];unfold Ya6
 (refine aF ?_;repeat' (refine aD ?_ ?_<;>intro _<;>try simp (disch:=first|assumption|omega) only[S0,rA,rQ,rB,rT,rE,Iaq,Tac,Tab, *]))
theorem Ab0 (jc bj:Int)(ak:(List (List bD)))(b8:(List aR))(k:Int)(hk:0<=k)(hb:k+(ctL (ctL aY) ak+ctL dC b8:Nat)<=1152921504606846976)(lA:szL (szL aH) ak<=1099511627776)(ka:szL aL b8<=1099511627776):Fun T 142 [i64 jc,i64 bj,rL (mkL (ctL aY) (mkL aY jP) ak (k)),rL (mkL dC oF b8 (k+(ctL (ctL aY) ak:Nat))),i64 k]=some [i64 (k+(ctL (ctL aY) ak:Nat)+(ctL dC b8:Nat))]:=by
 rw[aQ (t:=Yaz) rfl];unfold Yaz
 have z1:decide (k+(ctL (ctL aY) ak:Nat)<0)=false:=by simp;omega
 have z2:decide (k+(ctL (ctL aY) ak:Nat)+(ctL dC b8:Nat)<0)=false:=by simp;omega
 (refine aF ?_;repeat' (refine aD ?_ ?_<;>intro _<;>try simp (disch:=first|assumption|omega) only[S0,rA,rQ,rB,rT,rE,Iar,Tae,Tad, *]))
theorem Ran (fY jb ja fa gp bg ew cW ay bf ba bb bc ah:Int)(af:(List Int))(jj ky ko kz n4 eg jh gk cU et de db di cR:Int)(cE:(List Int))(hs:gH ⟨fY,jb,ja,fa,gp,bg,ew,cW,⟨ay,bf,ba,bb,bc⟩,⟨ah,af⟩⟩<=1099511627776):Fun T 134 [i64 fY,i64 jb,i64 ja,i64 fa,i64 gp,i64 bg,i64 ew,i64 cW,i64 ay,i64 bf,i64 ba,i64 bb,i64 bc,i64 ah,rL af,i64 jj,i64 ky,i64 ko,i64 kz,i64 n4,i64 eg,i64 jh,i64 gk,i64 cU,i64 et,i64 de,i64 db,i64 di,i64 cR,rL cE]=some [.bool (decide ((⟨fY,jb,ja,fa,gp,bg,ew,cW,⟨ay,bf,ba,bb,bc⟩,⟨ah,af⟩⟩:iB)=⟨jj,ky,ko,kz,n4,eg,jh,gk,⟨cU,et,de,db,di⟩,⟨cR,cE⟩⟩))]:=by
 rw[aQ (t:=Ya7) rfl];unfold Ya7
 unfold gH at hs;simp only at hs;have s0:aM ⟨ah,af⟩<=1099511627776:=by omega
 have e:decide ((⟨fY,jb,ja,fa,gp,bg,ew,cW,⟨ay,bf,ba,bb,bc⟩,⟨ah,af⟩⟩:iB)=⟨jj,ky,ko,kz,n4,eg,jh,gk,⟨cU,et,de,db,di⟩,⟨cR,cE⟩⟩)=((fY==jj)&&(jb==ky)&&(ja==ko)&&(fa==kz)&&(gp==n4)&&(bg==eg)&&(ew==jh)&&(cW==gk)&&decide ((⟨ay,bf,ba,bb,bc⟩:kP)=⟨cU,et,de,db,di⟩)&&decide ((⟨ah,af⟩:cZ)=⟨cR,cE⟩)):=by
  simp only[iB.mk.injEq,Tbt,Ubs,Ub8]
 rw[e]
 (refine aF ?_;repeat' (refine aD ?_ ?_<;>intro _<;>try simp (disch:=first|assumption|omega) only[S0,rA,rQ,rB,rT,rE,Kaf,Fan, *]))
theorem Wae (xs ys:(List iB))(hs:szL gH xs<=1099511627776):Fun T 133 [rL xs,rL ys]=some [.bool (decide (xs=ys))]:=by
 rw[aQ (t:=Ya8) rfl];unfold Ya8
 have hx:xs.length<=1099511627776:=Sb1 fU hs;by_cases hl:ys.length=xs.length
 ·simp (disch:=first|assumption|omega) only[S0,rA,rQ,rB,rT,rE, *]
  rw[Jav 1 xs.length (fun i=>decide (atI xs i=atI ys i)) [.bool false],yM hl.symm]
  ·(refine aF ?_;repeat' (refine aD ?_ ?_<;>intro _<;>try simp (disch:=first|assumption|omega) only[S0,rA,rQ,rB,rT,rE, *]))
  ·intro i hi hp
   have hb:InB xs (i:Int):=aU.2 hi;have eJ:InB ys (i:Int):=aU.2 (by omega);have h2:decide ((i:Int)<xs.length)=true:=by simp;omega
   have hq:gH (atI xs i)<=1099511627776:=by
    have:=eZ (f:=gH) (at_mem hi);omega
   (refine aF ?_;repeat' (refine aD ?_ ?_<;>intro _<;>try simp (disch:=first|assumption|omega) only[S0,rA,rQ,rB,rT,rE,aW,Ran, *]))
  ·intro i hi hp
   have hb:InB xs (i:Int):=aU.2 hi;have eJ:InB ys (i:Int):=aU.2 (by omega);have h2:decide ((i:Int)<xs.length)=true:=by simp;omega
   have hq:gH (atI xs i)<=1099511627776:=by
    have:=eZ (f:=gH) (at_mem hi);omega
   (refine aF ?_;repeat' (refine aD ?_ ?_<;>intro _<;>try simp (disch:=first|assumption|omega) only[S0,rA,rQ,rB,rT,rE,aW,Ran, *]))
  ·have h2:decide ((xs.length:Int)<xs.length)=false:=by simp
   (refine aF ?_;repeat' (refine aD ?_ ?_<;>intro _<;>try simp (disch:=first|assumption|omega) only[S0,rA,rQ,rB,rT,rE, *]))
 ·have ic:((xs.length:Int)==(ys.length:Int))=false:=by simp;omega
  have e:=Gab (fun h=>hl h.symm)
  (refine aF ?_;repeat' (refine aD ?_ ?_<;>intro _<;>try simp (disch:=first|assumption|omega) only[S0,rA,rQ,rB,rT,rE, *]))
theorem Va8 (xs:(List iB))(k:Int)(hk:0<=k)(hb:k+(ctL jQ xs:Nat)<=1152921504606846976)(hl:szL gH xs<=1099511627776):Fun T 141 [rL xs,i64 k]=some [i64 (k+(ctL jQ xs:Nat)),rL (mkL jQ Bax xs k)]:=by
 rw[aQ (t:=Ya0) rfl];unfold Ya0
 have hx:xs.length<=1099511627776:=Sb1 fU hl;simp (disch:=first|assumption|omega) only[S0,rA,rQ,rB,rT,rE, *];rw[zY xs jQ Bax k rfl rfl rfl hk hb ?_ ?_ (by omega)]
 ·(refine aF ?_;repeat' (refine aD ?_ ?_<;>intro _<;>try simp (disch:=first|assumption|omega) only[S0,rA,rQ,rB,rT,rE, *]))
 ·intro i ys m hi hy hb aw jn hm hc hlen
  have ec:m+1+1+1+1+1+1+1+1+1+1+1+1+1+1+(ctL (fun _=>1) (atI xs (i:Int)).attr.deps:Nat)=m+(jQ (atI xs i):Nat):=by rw[Aa5];omega
  have hq:gH (atI xs i)<=1099511627776:=by
   have:=eZ (f:=gH) (at_mem hi);omega
  rw[Da5]at hq;rw[Aa5]at hc;have fu:(atI xs i).attr.deps.length<=1099511627776:=by omega
  (refine aF ?_;repeat' (refine aD ?_ ?_<;>intro _<;>try simp (disch:=first|assumption|omega|(simp only[lW];assumption)) only[S0,rA,rQ,rB,rT,rE,aW,qI,lW,Va9, *]))
  all_goals (try simp only[Bax,ec])
 ·intro ys m hy aw
  (refine aF ?_;repeat' (refine aD ?_ ?_<;>intro _<;>try simp (disch:=first|assumption|omega) only[S0,rA,rQ,rB,rT,rE, *]))
theorem Wac (xs:(List iB))(k:Int)(hk:0<=k)(hb:k+(ctL jQ xs:Nat)<=1152921504606846976)(hl:szL gH xs<=1099511627776):Fun T 148 [rL (mkL jQ Bax xs k),i64 k]=some [i64 (k+(ctL jQ xs:Nat))]:=by
 rw[aQ (t:=Yat) rfl];unfold Yat
 have hx:xs.length<=1099511627776:=Sb1 fU hl;simp (disch:=first|assumption|omega) only[S0,rA,rQ,rB,rT,rE, *];rw[Aan xs jQ Bax k rfl hk hb (by omega)]
 ·(refine aF ?_;repeat' (refine aD ?_ ?_<;>intro _<;>try simp (disch:=first|assumption|omega) only[S0,rA,rQ,rB,rT,rE, *]))
 ·intro i m hi hb hy aw jn hm hc hlen
  have ec:m+1+1+1+1+1+1+1+1+1+1+1+1+1+1+(ctL (fun _=>1) (atI xs (i:Int)).attr.deps:Nat)=m+(jQ (atI xs i):Nat):=by rw[Aa5];omega
  have hq:gH (atI xs i)<=1099511627776:=by
   have:=eZ (f:=gH) (at_mem hi);omega
  rw[Da5]at hq;rw[Aa5]at hc;have fu:(atI xs i).attr.deps.length<=1099511627776:=by omega
  (refine aF ?_;repeat' (refine aD ?_ ?_<;>intro _<;>try simp (disch:=first|assumption|omega) only[S0,rA,rQ,rB,rT,rE,aW,Wad,Bax,lt0, *]))
  all_goals (try simp only[ec])
 ·intro m hy aw
  (refine aF ?_;repeat' (refine aD ?_ ?_<;>intro _<;>try simp (disch:=first|assumption|omega) only[S0,rA,rQ,rB,rT,rE, *]))
theorem cK (x lo up:Int):Fun T 69 [i64 x,i64 lo,i64 up]=some [.bool (inR x lo up)]:=by
 rw[aQ (t:=Jbn) rfl];unfold Jbn;unfold inR
 (refine aF ?_;repeat' (refine aD ?_ ?_<;>intro _<;>try simp (disch:=first|assumption|omega) only[S0,rA,rQ,rB,rT,rE, *]))
theorem dD (x lo up:Int):Fun T 25 [i64 x,i64 lo,i64 up]=some [.bool (inR x lo up)]:=by
 rw[aQ (t:=Kbt) rfl];unfold Kbt;unfold inR
 (refine aF ?_;repeat' (refine aD ?_ ?_<;>intro _<;>try simp (disch:=first|assumption|omega) only[S0,rA,rQ,rB,rT,rE, *]))
theorem oH (n:Int):Fun T 61 [i64 n]=some [.bool (eP n)]:=by
 rw[aQ (t:=Jbv) rfl];unfold Jbv;unfold eP
 (refine aF ?_;repeat' (refine aD ?_ ?_<;>intro _<;>try simp (disch:=first|assumption|omega) only[S0,rA,rQ,rB,rT,rE, *]))
theorem tZ (n:Int):Fun T 23 [i64 n]=some [.bool (eP n)]:=by
 rw[aQ (t:=Kbv) rfl];unfold Kbv;unfold eP
 (refine aF ?_;repeat' (refine aD ?_ ?_<;>intro _<;>try simp (disch:=first|assumption|omega) only[S0,rA,rQ,rB,rT,rE, *]))
theorem Hah (n:Int):Fun T 71 [i64 n]=some [.bool (inR n 0 3)]:=by
 rw[aQ (t:=Jbl) rfl];unfold Jbl
 (refine aF ?_;repeat' (refine aD ?_ ?_<;>intro _<;>try simp (disch:=first|assumption|omega) only[S0,rA,rQ,rB,rT,rE,cK, *]))
theorem Ga8 (n:Int):Fun T 31 [i64 n]=some [.bool (inR n 0 3)]:=by
 rw[aQ (t:=Kbo) rfl];unfold Kbo
 (refine aF ?_;repeat' (refine aD ?_ ?_<;>intro _<;>try simp (disch:=first|assumption|omega) only[S0,rA,rQ,rB,rT,rE,dD, *]))
theorem Oa2 (k i f t a:Int):Fun T 30 [i64 k,i64 i,i64 f,i64 t,i64 a]=some [i64 (Ka5 ⟨k,i,f,t,a⟩)]:=by
 rw[aQ (t:=Kbp) rfl];unfold Kbp;unfold Ka5
 (refine aF ?_;repeat' (refine aD ?_ ?_<;>intro _<;>try simp (disch:=first|assumption|omega) only[S0,rA,rQ,rB,rT,rE,Ga8,dD, *]))
theorem eY (k i f t a:Int):Fun T 29 [i64 k,i64 i,i64 f,i64 t,i64 a]=some [.bool (lV ⟨k,i,f,t,a⟩)]:=by
 rw[aQ (t:=Kbq) rfl];unfold Kbq;unfold lV
 (refine aF ?_;repeat' (refine aD ?_ ?_<;>intro _<;>try simp (disch:=first|assumption|omega) only[S0,rA,rQ,rB,rT,rE,Oa2,Ga1,Bb0, *]))
 all_goals (refine Ra7 ?_;simp only[Rbu,Tbk,Sbl,Bool.not_eq_false',Ub6,Vbb,Sbb,beq_iff_eq,beq_eq_false_iff_ne,decide_eq_true_eq,decide_eq_false_iff_not,ne_eq]at *;grind)
theorem dS (k i f t a:Int):Fun T 70 [i64 k,i64 i,i64 f,i64 t,i64 a]=some [.bool (lV ⟨k,i,f,t,a⟩)]:=by
 rw[aQ (t:=Jbm) rfl];unfold Jbm;unfold lV
 (refine aF ?_;repeat' (refine aD ?_ ?_<;>intro _<;>try simp (disch:=first|assumption|omega) only[S0,rA,rQ,rB,rT,rE,cK,Hah,Ga1, *]))
theorem jO (n rep no:Int)(hg:eP n=true):Fun T 35 [i64 n,i64 rep,i64 no]=some [.bool (inst n rep no)]:=by
 rw[aQ (t:=Kbk) rfl];unfold Kbk;unfold inst
 have hn:=bG hg
 (refine aF ?_;repeat' (refine aD ?_ ?_<;>intro _<;>try simp (disch:=first|assumption|omega) only[S0,rA,rQ,rB,rT,rE,dD, *]))
theorem fB (n rep no:Int):Fun T 80 [i64 n,i64 rep,i64 no]=some [.bool (eP n&&inst n rep no)]:=by
 rw[aQ (t:=Jbc) rfl];unfold Jbc;unfold inst
 cases hg:eP n
 ·(refine aF ?_;repeat' (refine aD ?_ ?_<;>intro _<;>try simp (disch:=first|assumption|omega) only[S0,rA,rQ,rB,rT,rE,oH, *]))
 have hn:=bG hg
 (refine aF ?_;repeat' (refine aD ?_ ?_<;>intro _<;>try simp (disch:=first|assumption|omega) only[S0,rA,rQ,rB,rT,rE,oH,cK, *]))
theorem Saw (xs:List Int)(lo up:Int)(hx:xs.length<=1099511627776):Fun T 33 [rL xs,i64 lo,i64 up]=some [.bool (xs.all fun x=>inR x lo up)]:=by
 rw[aQ (t:=Kbm) rfl];unfold Kbm
 simp (disch:=first|assumption|omega) only[S0,rA,rQ,rB,rT,rE,aW, *];rw[Pbg 1 xs (fun x=>inR x lo up) [.bool false]]
 ·(refine aF ?_;repeat' (refine aD ?_ ?_<;>intro _<;>try simp (disch:=first|assumption|omega) only[S0,rA,rQ,rB,rT,rE, *]))
 ·intro i hi hb hl hp
  (refine aF ?_;repeat' (refine aD ?_ ?_<;>intro _<;>try simp (disch:=first|assumption|omega) only[S0,rA,rQ,rB,rT,rE,aW,dD, *]))
 ·intro i hi hb hl hp
  (refine aF ?_;repeat' (refine aD ?_ ?_<;>intro _<;>try simp (disch:=first|assumption|omega) only[S0,rA,rQ,rB,rT,rE,aW,dD, *]))
 ·intro hl
  (refine aF ?_;repeat' (refine aD ?_ ?_<;>intro _<;>try simp (disch:=first|assumption|omega) only[S0,rA,rQ,rB,rT,rE, *]))
theorem qY (n s:Int)(xs:List Int)(hx:xs.length<=1099511627776):Fun T 32 [i64 n,i64 s,rL xs]=some [.bool (gD n ⟨s,xs⟩)]:=by
 rw[aQ (t:=Kbn) rfl];unfold Kbn;unfold gD
 (refine aF ?_;repeat' (refine aD ?_ ?_<;>intro _<;>try simp (disch:=first|assumption|omega) only[S0,rA,rQ,rB,rT,rE,dD,Saw, *]))
theorem uV (x:Int):Fun T 75 [i64 x]=some [.bool (!inR x 0 6)]:=by
 rw[aQ (t:=Jbh) rfl];unfold Jbh
 (refine aF ?_;repeat' (refine aD ?_ ?_<;>intro _<;>try simp (disch:=first|assumption|omega) only[S0,rA,rQ,rB,rT,rE,cK, *]))
theorem Kaj  (xs:List Int)(hx:xs.length<=1099511627776):Fun T 74 [rL xs]=some [i64 (ixF (fun x=>!inR x 0 6) xs)]:=by
 rw[aQ (t:=Jbi) rfl];unfold Jbi
 simp (disch:=first|assumption|omega) only[S0,rA,rQ,rB,rT,rE,aW, *];rw[Kas 1 xs (fun x=>!inR x 0 6) (fun i=>[i64 i])]
 ·cases h:xs.any (fun x=>!inR x 0 6)
  ·have e:ixF (fun x=>!inR x 0 6) xs=-1:=by
    have h2:=iT (fun x=>!inR x 0 6) xs;rw[h]at h2;unfold ixF at h2 ⊢;split at h2<;>simp_all
   rw[e];simp (disch:=first|assumption|omega) only[S0,rA,rQ,rB,rT,rE]
  ·simp (disch:=first|assumption|omega) only[S0,rA,rQ,rB,rT,rE]
 ·intro i hi hb hl hp
  (refine aF ?_;repeat' (refine aD ?_ ?_<;>intro _<;>try simp (disch:=first|assumption|omega) only[S0,rA,rQ,rB,rT,rE,aW,uV, *]))
 ·intro i hi hb hl hp
  (refine aF ?_;repeat' (refine aD ?_ ?_<;>intro _<;>try simp (disch:=first|assumption|omega) only[S0,rA,rQ,rB,rT,rE,aW,uV, *]))
 ·intro hl
  (refine aF ?_;repeat' (refine aD ?_ ?_<;>intro _<;>try simp (disch:=first|assumption|omega) only[S0,rA,rQ,rB,rT,rE, *]))
theorem Kaz  (xs:List Int)(hx:xs.length<=1099511627776):Fun T 73 [rL xs]=some [.bool (xs.any (fun x=>!inR x 0 6))]:=by
 rw[aQ (t:=Jbj) rfl];unfold Jbj
 (refine aF ?_;repeat' (refine aD ?_ ?_<;>intro _<;>try simp (disch:=first|assumption|omega) only[S0,rA,rQ,rB,rT,rE,Kaj,iT, *]))
theorem mI (n s:Int)(xs:List Int)(hx:xs.length<=1099511627776):Fun T 72 [i64 n,i64 s,rL xs]=some [.bool (eP n&&gD n ⟨s,xs⟩)]:=by
 rw[aQ (t:=Jbk) rfl];unfold Jbk;unfold gD
 have e:xs.any (fun x=>!inR x 0 6)=!xs.all fun x=>inR x 0 6:=by rw[Ubl]
 (refine aF ?_;repeat' (refine aD ?_ ?_<;>intro _<;>try simp (disch:=first|assumption|omega) only[S0,rA,rQ,rB,rT,rE,oH,cK,Kaz,e,Bool.not_not, *]))
theorem Oa3 (xs ys:List Int)(hx:xs.length<=1099511627776):Fun T 28 [rL xs,rL ys]=some [.bool (decide (xs=ys))]:=by
 rw[aQ (t:=Kbr) rfl];unfold Kbr
 by_cases hl:ys.length=xs.length
 ·simp (disch:=first|assumption|omega) only[S0,rA,rQ,rB,rT,rE, *]
  rw[Jav 1 xs.length (fun i=>decide (atI xs i=atI ys i)) [.bool false],yM hl.symm]
  ·(refine aF ?_;repeat' (refine aD ?_ ?_<;>intro _<;>try simp (disch:=first|assumption|omega) only[S0,rA,rQ,rB,rT,rE, *]))
  ·intro i hi hp
   have hb:InB xs (i:Int):=aU.2 hi;have eJ:InB ys (i:Int):=aU.2 (by omega);have h2:decide ((i:Int)<xs.length)=true:=by simp;omega
   have h3:(atI xs i==atI ys i)=true:=by simpa using hp
   (refine aF ?_;repeat' (refine aD ?_ ?_<;>intro _<;>try simp (disch:=first|assumption|omega) only[S0,rA,rQ,rB,rT,rE,aW, *]))
  ·intro i hi hp
   have hb:InB xs (i:Int):=aU.2 hi;have eJ:InB ys (i:Int):=aU.2 (by omega);have h2:decide ((i:Int)<xs.length)=true:=by simp;omega
   have h3:(atI xs i==atI ys i)=false:=by simpa using hp
   (refine aF ?_;repeat' (refine aD ?_ ?_<;>intro _<;>try simp (disch:=first|assumption|omega) only[S0,rA,rQ,rB,rT,rE,aW, *]))
  ·have h2:decide ((xs.length:Int)<xs.length)=false:=by simp
   (refine aF ?_;repeat' (refine aD ?_ ?_<;>intro _<;>try simp (disch:=first|assumption|omega) only[S0,rA,rQ,rB,rT,rE, *]))
 ·have ic:((xs.length:Int)==(ys.length:Int))=false:=by simp;omega
  have e:=Gab (fun h=>hl h.symm)
  (refine aF ?_;repeat' (refine aD ?_ ?_<;>intro _<;>try simp (disch:=first|assumption|omega) only[S0,rA,rQ,rB,rT,rE, *]))
theorem slices_Equal_int (xs ys:List Int)(hx:xs.length<=1099511627776):Fun T 78 [rL xs,rL ys]=some [.bool (decide (xs=ys))]:=by
 rw[aQ (t:=Jbe) rfl];unfold Jbe
 by_cases hl:ys.length=xs.length
 ·simp (disch:=first|assumption|omega) only[S0,rA,rQ,rB,rT,rE, *]
  rw[Jav 1 xs.length (fun i=>decide (atI xs i=atI ys i)) [.bool false],yM hl.symm]
  ·(refine aF ?_;repeat' (refine aD ?_ ?_<;>intro _<;>try simp (disch:=first|assumption|omega) only[S0,rA,rQ,rB,rT,rE, *]))
  ·intro i hi hp
   have hb:InB xs (i:Int):=aU.2 hi;have eJ:InB ys (i:Int):=aU.2 (by omega);have h2:decide ((i:Int)<xs.length)=true:=by simp;omega
   have h3:(atI xs i==atI ys i)=true:=by simpa using hp
   (refine aF ?_;repeat' (refine aD ?_ ?_<;>intro _<;>try simp (disch:=first|assumption|omega) only[S0,rA,rQ,rB,rT,rE,aW, *]))
  ·intro i hi hp
   have hb:InB xs (i:Int):=aU.2 hi;have eJ:InB ys (i:Int):=aU.2 (by omega);have h2:decide ((i:Int)<xs.length)=true:=by simp;omega
   have h3:(atI xs i==atI ys i)=false:=by simpa using hp
   (refine aF ?_;repeat' (refine aD ?_ ?_<;>intro _<;>try simp (disch:=first|assumption|omega) only[S0,rA,rQ,rB,rT,rE,aW, *]))
  ·have h2:decide ((xs.length:Int)<xs.length)=false:=by simp
   (refine aF ?_;repeat' (refine aD ?_ ?_<;>intro _<;>try simp (disch:=first|assumption|omega) only[S0,rA,rQ,rB,rT,rE, *]))
 ·have ic:((xs.length:Int)==(ys.length:Int))=false:=by simp;omega
  have e:=Gab (fun h=>hl h.symm)
  (refine aF ?_;repeat' (refine aD ?_ ?_<;>intro _<;>try simp (disch:=first|assumption|omega) only[S0,rA,rQ,rB,rT,rE, *]))
theorem qZ (s s':Int)(xs ys:List Int)(hx:xs.length<=1099511627776):Fun T 27 [i64 s,rL xs,i64 s',rL ys]=some [.bool (decide ((⟨s,xs⟩:cZ)=⟨s',ys⟩))]:=by
 rw[aQ (t:=Kbs) rfl];unfold Kbs
 have e:decide ((⟨s,xs⟩:cZ)=⟨s',ys⟩)=(s==s'&&decide (xs=ys)):=by simp[cZ.mk.injEq,Tbt]
 (refine aF ?_;repeat' (refine aD ?_ ?_<;>intro _<;>try simp (disch:=first|assumption|omega) only[S0,rA,rQ,rB,rT,rE,Oa3,e, *]))
theorem gX (s s':Int)(xs ys:List Int)(hx:xs.length<=1099511627776):Fun T 77 [i64 s,rL xs,i64 s',rL ys]=some [.bool (decide ((⟨s,xs⟩:cZ)=⟨s',ys⟩))]:=by
 rw[aQ (t:=Jbf) rfl];unfold Jbf
 have e:decide ((⟨s,xs⟩:cZ)=⟨s',ys⟩)=(s==s'&&decide (xs=ys)):=by simp[cZ.mk.injEq,Tbt]
 (refine aF ?_;repeat' (refine aD ?_ ?_<;>intro _<;>try simp (disch:=first|assumption|omega) only[S0,rA,rQ,rB,rT,rE,slices_Equal_int,e, *]))
theorem qX (n:Int)(hg:eP n=true):Fun T 26 [i64 n]=some [i64 (none0 n).seq,rL (none0 n).deps]:=by
 rw[aQ (t:=Fbo) rfl];unfold Fbo;unfold none0
 have hn:=bG hg
 (refine aF ?_;repeat' (refine aD ?_ ?_<;>intro _<;>try simp (disch:=first|assumption|omega) only[S0,rA,rQ,rB,rT,rE,Dap, *]))
theorem eQ (n:Int)(hg:eP n=true):Fun T 76 [i64 n]=some [i64 (none0 n).seq,rL (none0 n).deps]:=by
 rw[aQ (t:=Jbg) rfl];unfold Jbg;unfold none0
 have hn:=bG hg
 (refine aF ?_;repeat' (refine aD ?_ ?_<;>intro _<;>try simp (disch:=first|assumption|omega) only[S0,rA,rQ,rB,rT,rE,Dap, *]))
theorem vX (n bal vot sta k i f t a sq:Int)(xs:List Int)(hg:eP n=true)(hx:xs.length<=1099511627776) :
  Fun T 24 [i64 n,i64 bal,i64 vot,i64 sta,i64 k,i64 i,i64 f,i64 t,i64 a,i64 sq,rL xs]=some [.bool (rowOk n ⟨bal,vot,sta,⟨k,i,f,t,a⟩,⟨sq,xs⟩⟩)]:=by
 rw[aQ (t:=Kbu) rfl];unfold Kbu;unfold rowOk
 (refine aF ?_;repeat' (refine aD ?_ ?_<;>intro _<;>try simp (disch:=first|assumption|omega) only[S0,rA,rQ,rB,rT,rE,dD,Ga1,qX,qZ,eY,qY, *]))
theorem Ca6 (n bal vot sta k i f t a sq:Int)(xs:List Int)(hg:eP n=true)(hx:xs.length<=1099511627776) :
  Fun T 68 [i64 n,i64 bal,i64 vot,i64 sta,i64 k,i64 i,i64 f,i64 t,i64 a,i64 sq,rL xs]=some [.bool (rowOk n ⟨bal,vot,sta,⟨k,i,f,t,a⟩,⟨sq,xs⟩⟩)]:=by
 rw[aQ (t:=Jbo) rfl];unfold Jbo;unfold rowOk
 have h1:=@Xaz ⟨k,i,f,t,a⟩;have h2:=Ja6 hg;have h3:decide ((⟨sq,xs⟩:cZ)=none0 n)=true->gD n ⟨sq,xs⟩=true:=fun h=>by rw[of_decide_eq_true h];exact h2
 (refine aF ?_;repeat' (refine aD ?_ ?_<;>intro _<;>try simp (disch:=first|assumption|omega) only[S0,rA,rQ,rB,rT,rE,cK,Ga1,eQ,gX,dS,mI, *]))
 all_goals (refine Ra7 ?_;simp only[Rbu,Tbk,Sbl,Bool.not_eq_false',Ub6,Vbb,Sbb,beq_iff_eq,beq_eq_false_iff_ne,decide_eq_true_eq,decide_eq_false_iff_not,ne_eq]at *;grind)
theorem slices_Clone_int (xs:List Int)(hx:xs.length<=10000000000):Fun T 100 [rL xs]=some [rL xs]:=by
 rw[Qag (e:=Hb7) rfl]
 cases xs with
 |nil=>rfl
 | cons x xs =>
  show Fun (Nay [(100,.tm Sag)]) 100 [rL (x::xs)]=_
  rw[aQ (t:=Sag) rfl];unfold Sag;have tz:(x::xs).length<=100000000000:=by omega
  have h0:(aN.mk 1 0).run []=some [.rows 1 []]:=rfl;have h1:(x::xs).isEmpty=false:=rfl;simp (disch:=first|assumption|omega) only[SA,SB,SC,SP,SQ,SZ,reduceIte,reduceCtorEq,Nat.reduceAdd,Nat.reduceEqDiff,Lbu,Hbl,h0,h1,nV]
theorem lS (s:Int)(xs:List Int)(hx:xs.length<=10000000000):Fun T 99 [i64 s,rL xs]=some [i64 s,rL xs]:=by
 rw[aQ (t:=Ibt) rfl];unfold Ibt
 (refine aF ?_;repeat' (refine aD ?_ ?_<;>intro _<;>try simp (disch:=first|assumption|omega) only[S0,rA,rQ,rB,rT,rE,slices_Clone_int, *]))
theorem oQ (n:Int)(rows:List (List bD))(hs:mZ rows):Fun T 22 [i64 n,rL rows]=some [.bool (fD ⟨n,rows⟩)]:=by
 rw[aQ (t:=Kbw) rfl];unfold Kbw;unfold fD
 obtain⟨mn,jo⟩:=hs;cases hg:eP n
 ·(refine aF ?_;repeat' (refine aD ?_ ?_<;>intro _<;>try simp (disch:=first|assumption|omega) only[S0,rA,rQ,rB,rT,rE,tZ, *]))
 cases hl:(rows.length:Int)==n
 ·(refine aF ?_;repeat' (refine aD ?_ ?_<;>intro _<;>try simp (disch:=first|assumption|omega) only[S0,rA,rQ,rB,rT,rE,tZ, *]))
 simp (disch:=first|assumption|omega) only[S0,rA,rQ,rB,rT,rE,tZ, *];rw[Mbe 1 rows (fun l=>l.all (fun r=>rowOk n r)&&decide ((l.length:Int)<=6)) [.bool false]]
 ·(refine aF ?_;repeat' (refine aD ?_ ?_<;>intro _<;>try simp (disch:=first|assumption|omega) only[S0,rA,rQ,rB,rT,rE, *]))
 ·intro i hi hb aw hm
  obtain⟨qS,qb⟩:=jo _ hm;simp (disch:=first|assumption|omega) only[S0,rA,rQ,rB,rT,rE,aW, *];rw[Mbe 3 (atI rows i) (fun r=>rowOk n r) [.bool false]]
  ·have e:decide (6<((atI rows (i:Int)).length:Int))=!decide (((atI rows (i:Int)).length:Int)<=6):=by
    by_cases h:((atI rows (i:Int)).length:Int)<=6
    ·simp[h]
    ·simp[h];omega
   (refine aF ?_;repeat' (refine aD ?_ ?_<;>intro _<;>try simp (disch:=first|assumption|omega) only[S0,rA,rQ,rB,rT,rE,e, *]))
  ·intro j hj jw nn zp
   have hq3:=qb _ zp;have hq4:(atI (atI rows (i:Int)) (j:Int)).attr.deps.length<=1099511627776:=by omega
   (refine aF ?_;repeat' (refine aD ?_ ?_<;>intro _<;>try simp (disch:=first|assumption|omega) only[S0,rA,rQ,rB,rT,rE,aW,vX, *]))
  ·intro lf
   (refine aF ?_;repeat' (refine aD ?_ ?_<;>intro _<;>try simp (disch:=first|assumption|omega) only[S0,rA,rQ,rB,rT,rE, *]))
 ·intro lf
  (refine aF ?_;repeat' (refine aD ?_ ?_<;>intro _<;>try simp (disch:=first|assumption|omega) only[S0,rA,rQ,rB,rT,rE, *]))
theorem oI (ct cV cy bh ca bn bp bo bk:Int)(az:(List Int))(n:Int)(rows:List (List bD))(hg:eP n=true)(hx:az.length<=1099511627776):Fun T 67 [i64 ct,i64 cV,i64 cy,i64 bh,i64 ca,i64 bn,i64 bp,i64 bo,i64 bk,rL az,i64 n,rL rows]=some [.bool (!rowOk n ⟨ct,cV,cy,⟨bh,ca,bn,bp,bo⟩,⟨bk,az⟩⟩)]:=by
 rw[aQ (t:=Jbp) rfl];unfold Jbp
 (refine aF ?_;repeat' (refine aD ?_ ?_<;>intro _<;>try simp (disch:=first|assumption|omega) only[S0,rA,rQ,rB,rT,rE,Ca6, *]))
theorem Dau (n:Int)(rows:List (List bD))(hg:eP n=true)(xs:List bD)(hx:xs.length<=1099511627776)(hq:∀ x∈xs,x.attr.deps.length<=1099511627776):Fun T 66 [rL xs,i64 n,rL rows]=some [i64 (ixF (fun r=>!rowOk n r) xs)]:=by
 rw[aQ (t:=Jbq) rfl];unfold Jbq
 simp (disch:=first|assumption|omega) only[S0,rA,rQ,rB,rT,rE,aW, *];rw[Kas 1 xs (fun r=>!rowOk n r) (fun i=>[i64 i])]
 ·cases h:xs.any (fun r=>!rowOk n r)
  ·have e:ixF (fun r=>!rowOk n r) xs=-1:=by
    have h2:=iT (fun r=>!rowOk n r) xs;rw[h]at h2;unfold ixF at h2 ⊢;split at h2<;>simp_all
   rw[e];simp (disch:=first|assumption|omega) only[S0,rA,rQ,rB,rT,rE]
  ·simp (disch:=first|assumption|omega) only[S0,rA,rQ,rB,rT,rE]
 ·intro i hi hb hl hp
  have nw:=hq _ (at_mem hi)
  try simp only at nw hp
  (refine aF ?_;repeat' (refine aD ?_ ?_<;>intro _<;>try simp (disch:=first|assumption|omega) only[S0,rA,rQ,rB,rT,rE,aW,oI, *]))
 ·intro i hi hb hl hp
  have nw:=hq _ (at_mem hi)
  try simp only at nw hp
  (refine aF ?_;repeat' (refine aD ?_ ?_<;>intro _<;>try simp (disch:=first|assumption|omega) only[S0,rA,rQ,rB,rT,rE,aW,oI, *]))
 ·intro hl
  (refine aF ?_;repeat' (refine aD ?_ ?_<;>intro _<;>try simp (disch:=first|assumption|omega) only[S0,rA,rQ,rB,rT,rE, *]))
theorem Dax (n:Int)(rows:List (List bD))(hg:eP n=true)(xs:List bD)(hx:xs.length<=1099511627776)(hq:∀ x∈xs,x.attr.deps.length<=1099511627776):Fun T 65 [rL xs,i64 n,rL rows]=some [.bool (xs.any (fun r=>!rowOk n r))]:=by
 rw[aQ (t:=Jbr) rfl];unfold Jbr
 (refine aF ?_;repeat' (refine aD ?_ ?_<;>intro _<;>try simp (disch:=first|assumption|omega) only[S0,rA,rQ,rB,rT,rE,Dau,iT, *]))
theorem tF (l:List bD)(n:Int)(rows:List (List bD))(hg:eP n=true)(hx:l.length<=1099511627776)(hq:∀ x∈l,x.attr.deps.length<=1099511627776):Fun T 64 [rL l,i64 n,rL rows]=some [.bool (decide (6<(l.length:Int))||l.any fun r=>!rowOk n r)]:=by
 rw[aQ (t:=Jbs) rfl];unfold Jbs
 (refine aF ?_;repeat' (refine aD ?_ ?_<;>intro _<;>try simp (disch:=first|assumption|omega) only[S0,rA,rQ,rB,rT,rE,Dax, *]))
theorem Hag (n:Int)(rows:List (List bD))(hg:eP n=true)(xs:List (List bD))(hx:xs.length<=1099511627776)(hq:∀ x∈xs,x.length<=1099511627776/\∀ y∈x,y.attr.deps.length<=1099511627776):Fun T 63 [rL xs,i64 n,rL rows]=some [i64 (ixF (fun l=>decide (6<(l.length:Int))||l.any fun r=>!rowOk n r) xs)]:=by
 rw[aQ (t:=Jbt) rfl];unfold Jbt
 simp (disch:=first|assumption|omega) only[S0,rA,rQ,rB,rT,rE,aW, *];rw[Kas 1 xs (fun l=>decide (6<(l.length:Int))||l.any fun r=>!rowOk n r) (fun i=>[i64 i])]
 ·cases h:xs.any (fun l=>decide (6<(l.length:Int))||l.any fun r=>!rowOk n r)
  ·have e:ixF (fun l=>decide (6<(l.length:Int))||l.any fun r=>!rowOk n r) xs=-1:=by
    have h2:=iT (fun l=>decide (6<(l.length:Int))||l.any fun r=>!rowOk n r) xs;rw[h]at h2;unfold ixF at h2 ⊢;split at h2<;>simp_all
   rw[e];simp (disch:=first|assumption|omega) only[S0,rA,rQ,rB,rT,rE]
  ·simp (disch:=first|assumption|omega) only[S0,rA,rQ,rB,rT,rE]
 ·intro i hi hb hl hp
  have nw:=hq _ (at_mem hi)
  try simp only at nw hp
  obtain⟨qS,qb⟩:=nw
  (refine aF ?_;repeat' (refine aD ?_ ?_<;>intro _<;>try simp (disch:=first|assumption|omega) only[S0,rA,rQ,rB,rT,rE,aW,tF, *]))
 ·intro i hi hb hl hp
  have nw:=hq _ (at_mem hi)
  try simp only at nw hp
  obtain⟨qS,qb⟩:=nw
  (refine aF ?_;repeat' (refine aD ?_ ?_<;>intro _<;>try simp (disch:=first|assumption|omega) only[S0,rA,rQ,rB,rT,rE,aW,tF, *]))
 ·intro hl
  (refine aF ?_;repeat' (refine aD ?_ ?_<;>intro _<;>try simp (disch:=first|assumption|omega) only[S0,rA,rQ,rB,rT,rE, *]))
theorem Hal (n:Int)(rows:List (List bD))(hg:eP n=true)(xs:List (List bD))(hx:xs.length<=1099511627776)(hq:∀ x∈xs,x.length<=1099511627776/\∀ y∈x,y.attr.deps.length<=1099511627776):Fun T 62 [rL xs,i64 n,rL rows]=some [.bool (xs.any (fun l=>decide (6<(l.length:Int))||l.any fun r=>!rowOk n r))]:=by
 rw[aQ (t:=Jbu) rfl];unfold Jbu
 (refine aF ?_;repeat' (refine aD ?_ ?_<;>intro _<;>try simp (disch:=first|assumption|omega) only[S0,rA,rQ,rB,rT,rE,Hag,iT, *]))
theorem oZ (n:Int)(rows:List (List bD))(hs:mZ rows):Fun T 60 [i64 n,rL rows]=some [.bool (fD ⟨n,rows⟩)]:=by
 rw[aQ (t:=Jbw) rfl];unfold Jbw;unfold fD
 obtain⟨mn,jo⟩:=hs;have hs3:∀ x∈rows,x.length<=1099511627776/\∀ y∈x,y.attr.deps.length<=1099511627776:=fun x hx=>⟨by have:=(jo x hx).1;omega,fun y hy=>by have:=(jo x hx).2 y hy;omega⟩
 have e:(rows.any fun l=>decide (6<(l.length:Int))||l.any fun r=>!rowOk n r)=!rows.all fun l=>l.all (fun r=>rowOk n r)&&decide ((l.length:Int)<=6):=by
  rw[Ubl];congr 1;funext l;rw[<- Ubl,Bool.not_and,Bool.or_comm];congr 1;by_cases h:(l.length:Int)<=6
  ·simp[h]
  ·simp[h];omega
 (refine aF ?_;repeat' (refine aD ?_ ?_<;>intro _<;>try simp (disch:=first|assumption|omega) only[S0,rA,rQ,rB,rT,rE,oH,Hal,e,Bool.not_not, *]))
theorem Ha6 (xs:List Int)(hx:xs.length<=10000000000):Fun T 43 [rL xs]=some [rL xs]:=by
 rw[aQ (t:=Kbc) rfl];unfold Kbc
 have h0:(aN.mk 1 0).run []=some [.rows 1 []]:=rfl
 (refine aF ?_;repeat' (refine aD ?_ ?_<;>intro _<;>try simp (disch:=first|assumption|omega) only[S0,rA,rQ,rB,rT,rE,h0,nV, *]))
theorem lD (s:Int)(xs:List Int)(hx:xs.length<=10000000000):Fun T 42 [i64 s,rL xs]=some [i64 s,rL xs]:=by
 rw[aQ (t:=Kbd) rfl];unfold Kbd
 (refine aF ?_;repeat' (refine aD ?_ ?_<;>intro _<;>try simp (disch:=first|assumption|omega) only[S0,rA,rQ,rB,rT,rE,Ha6, *]))
theorem qW (ct cV cy bh ca bn bp bo bk:Int)(az:(List Int))(hx:az.length<=10000000000):Fun T 41 [i64 ct,i64 cV,i64 cy,i64 bh,i64 ca,i64 bn,i64 bp,i64 bo,i64 bk,rL az]=some [i64 ct,i64 cV,i64 cy,i64 bh,i64 ca,i64 bn,i64 bp,i64 bo,i64 bk,rL az]:=by
 rw[aQ (t:=Kbe) rfl];unfold Kbe
 (refine aF ?_;repeat' (refine aD ?_ ?_<;>intro _<;>try simp (disch:=first|assumption|omega) only[S0,rA,rQ,rB,rT,rE,lD, *]))
theorem uU (ct cV cy bh ca bn bp bo bk:Int)(az:(List Int))(hx:az.length<=10000000000):Fun T 98 [i64 ct,i64 cV,i64 cy,i64 bh,i64 ca,i64 bn,i64 bp,i64 bo,i64 bk,rL az]=some [i64 ct,i64 cV,i64 cy,i64 bh,i64 ca,i64 bn,i64 bp,i64 bo,i64 bk,rL az]:=by
 rw[aQ (t:=Ibu) rfl];unfold Ibu
 (refine aF ?_;repeat' (refine aD ?_ ?_<;>intro _<;>try simp (disch:=first|assumption|omega) only[S0,rA,rQ,rB,rT,rE,lS, *]))
theorem Sau (n:Int)(hg:eP n=true):Fun T 40 [i64 n]=some [i64 n,rL (Sbi n.toNat ([]:List bD))]:=by
 rw[aQ (t:=Kbf) rfl];unfold Kbf
 have hn:=bG hg
 (refine aF ?_;repeat' (refine aD ?_ ?_<;>intro _<;>try simp (disch:=first|assumption|omega) only[S0,rA,rQ,rB,rT,rE,Dap, *]))
theorem Ha5 (n:Int)(rows:List (List bD))(hg:eP n=true)(hl:(rows.length:Int)=n)(hs:mZ rows):Fun T 39 [i64 n,rL rows]=some [i64 n,rL rows]:=by
 rw[aQ (t:=Kbg) rfl];unfold Kbg
 obtain⟨mn,jo⟩:=hs;have hn:=bG hg;have e0:Sbi n.toNat ([]:List bD)=upto [] rows 0:=by rw[Laj];congr 1;omega
 simp (disch:=first|assumption|omega) only[SA,SB,SC,SP,SQ,SZ,reduceIte,reduceCtorEq,Nat.reduceAdd,Nat.reduceEqDiff,Sau];rw[zZ rows.length (fun i=>[i64 i,rL (upto [] rows i)]) (.yield 1,[rL rows]) (by rw[e0];rfl) (by simp)]
 ·(refine aF ?_;repeat' (refine aD ?_ ?_<;>intro _<;>try simp (disch:=first|assumption|omega) only[S0,rA,rQ,rB,rT,rE, *]))
 ·intro i hi aw
  have hb:InB rows (i:Int):=aU.2 hi;have hq:=jo _ (at_mem hi);have hu:(upto [] rows i).length=rows.length:=Qam [] rows (Nat.le_of_lt hi);have qw:InB (upto [] rows i) (i:Int):=aU.2 (by rw[hu];exact hi)
  have rr:upto [] rows i=dI (upto [] rows i) i ((atI rows (i:Int)).take 0):=by
   have:atI (upto [] rows i) (i:Int)=[]:=by
    unfold upto;rw[vL,List.getD_eq_getElem?_getD,List.getElem?_append_right (by rw[Sbn];omega),List.getElem?_replicate];split<;>rfl
   have h3:=Pad qw;rw[this]at h3;rw[List.take_zero];exact h3.symm
  have zu:dI (upto [] rows i) i (atI rows (i:Int))=upto [] rows (i+1):=by
   rw[dI];exact Qal [] rows (by rw[bH hi];exact List.getElem?_eq_getElem hi)
  obtain⟨qS,qb⟩:=hq;have hr:rows.length<=10:=by omega
  simp (disch:=first|assumption|omega) only[S0,rA,rQ,rB,rT,rE,aW,aw];rw[zZ (atI rows (i:Int)).length (fun j=>[i64 j,rL (dI (upto [] rows i) i ((atI rows (i:Int)).take j))]) (.yield 3,[rL (upto [] rows (i+1))]) (by rw[<- rr];rfl) (by simp)]
  ·clear hu rr zu
   simp (disch:=first|assumption|omega) only[S0,rA,rQ,rB,rT,rE]
  ·intro j hj nn
   have jw:InB (atI rows (i:Int)) (j:Int):=aU.2 hj;have hq3:=qb _ (at_mem hj)
   have ha:atI (dI (upto [] rows i) (i:Int) ((atI rows (i:Int)).take j)) (i:Int)=(atI rows (i:Int)).take j:=by
    have:=lW;exact this.1 qw
   have zt:InB (dI (upto [] rows i) (i:Int) ((atI rows (i:Int)).take j)) (i:Int):=aU.2 (by rw[dI,Ubt,hu];exact hi);have ox:=take_at hj;have kn:((atI rows (i:Int)).take j).length+1<=100000000000:=by rw[Sbn];omega
   have hll2:((atI rows (i:Int)).take j).length+([atI (atI rows (i:Int)) (j:Int)]:List bD).length<=100000000000:=kn;clear hu rr zu;simp (disch:=first|assumption|omega) only[S0,rA,rQ,rB,rT,rE,aW,qI,Daz,nV,Oai,lW,qW,nn,ha,ox]
  ·intro nn
   rw[Tbv];clear hu rr
   (refine aF ?_;repeat' (refine aD ?_ ?_<;>intro _<;>try simp (disch:=first|assumption|omega) only[S0,rA,rQ,rB,rT,rE, *]))
 ·intro aw
  rw[Qan];simp (disch:=first|assumption|omega) only[S0,rA,rQ,rB,rT,rE,aw]
theorem Aam (xs:List bD)(hs:xC xs):Fun T 97 [rL xs]=some [rL xs]:=by
 rw[aQ (t:=Ibv) rfl];unfold Ibv
 have h0:(aN.mk 10 0).run []=some [rL ([]:List bD)]:=rfl;obtain⟨mn,jo⟩:=hs;simp (disch:=first|assumption|omega) only[S0,rA,rQ,rB,rT,rE,h0];rw[zZ xs.length (fun i=>[rL (xs.take i),i64 i]) (.yield 1,[rL xs]) rfl (by simp)]
 ·simp (disch:=first|assumption|omega) only[S0,rA,rQ,rB,rT,rE]
 ·intro i hi aw
  have hb:InB xs (i:Int):=aU.2 hi;have hq:=jo _ (at_mem hi);have ox:=take_at hi;have kn:(xs.take i).length+([atI xs (i:Int)]:List bD).length<=100000000000:=by rw[Sbn];simp only[Sbm,Tbb];omega
  simp (disch:=first|assumption|omega) only[S0,rA,rQ,rB,rT,rE,aW,Daz,nV,uU,aw,ox]
 ·intro aw
  rw[Tbv];simp (disch:=first|assumption|omega) only[S0,rA,rQ,rB,rT,rE,aw]
theorem Ba3 (n:Int)(rows:List (List bD))(hs:mZ rows):Fun T 96 [i64 n,rL rows]=some [i64 n,rL rows]:=by
 rw[aQ (t:=Ibw) rfl];unfold Ibw
 obtain⟨mn,jo⟩:=hs;simp (disch:=first|assumption|omega) only[S0,rA,rQ,rB,rT,rE];rw[zZ rows.length (fun i=>[i64 i,rL (rows.take i)]) (.yield 1,[rL rows]) rfl (by simp)]
 ·simp (disch:=first|assumption|omega) only[S0,rA,rQ,rB,rT,rE]
 ·intro i hi aw
  have hb:InB rows (i:Int):=aU.2 hi;have hq:=jo _ (at_mem hi);have ox:=take_at hi;have kn:(rows.take i).length+([atI rows (i:Int)]:List (List bD)).length<=100000000000:=by rw[Sbn];simp only[Sbm,Tbb];omega
  simp (disch:=first|assumption|omega) only[S0,rA,rQ,rB,rT,rE,aW,Daz,nV,Aam,aw,ox]
 ·intro aw
  rw[Tbv];simp (disch:=first|assumption|omega) only[S0,rA,rQ,rB,rT,rE,aw]
theorem Ha4 (n:Int)(rows:List (List bD))(rep no:Int)(ct cV cy bh ca bn bp bo bk:Int)(az:(List Int))(hg:eP n=true)(hl:(rows.length:Int)=n)(hs:mZ rows)(hb:InB rows rep)(h1:1<=no)(h2:no<=1000)(hx:az.length<=10000000000) :
  Fun T 52 [i64 n,rL rows,i64 rep,i64 no,i64 ct,i64 cV,i64 cy,i64 bh,i64 ca,i64 bn,i64 bp,i64 bo,i64 bk,rL az]=some [i64 (Cam ⟨n,rows⟩ rep no ⟨ct,cV,cy,⟨bh,ca,bn,bp,bo⟩,⟨bk,az⟩⟩).n,rL (Cam ⟨n,rows⟩ rep no ⟨ct,cV,cy,⟨bh,ca,bn,bp,bo⟩,⟨bk,az⟩⟩).rows]:=by
 rw[aQ (t:=Jb3) rfl];unfold Jb3;unfold Cam
 have hq:=hs.2 _ (vK hb);have qS:=hq.1;simp (maxSteps:=2000000) (disch:=first|assumption|omega) only[SA,SB,SC,SP,SQ,SZ,reduceIte,reduceCtorEq,Nat.reduceAdd,Nat.reduceEqDiff,Ha5,hg,hl];rw[Hap (T:=T) (.yield 1,[rL (dI rows rep (ext n (atI rows rep) no))]) (fun j:Nat=>(no-(atI rows rep).length).toNat-j) (fun j=>j<=(no-(atI rows rep).length).toNat) (fun j=>[rL (dI rows rep (atI rows rep++Sbi j (row0 n)))]) 0 (by rw[Vbg,Sbu,Pad hb];rfl) (by omega) (by simp)]
 ·have jw:InB (dI rows rep (ext n (atI rows rep) no)) rep:=by unfold InB;rw[dI,Ubt];exact hb
  have ha:atI (dI rows rep (ext n (atI rows rep) no)) rep=ext n (atI rows rep) no:=lW.1 hb;have q5:InB (ext n (atI rows rep) no) (no-1):=by unfold InB;rw[Kau (by omega)];omega
  simp (disch:=first|assumption|omega) only[S0,rA,rQ,rB,rT,rE,aW,qI,lW,qW,ha]
 ·intro j hj
  have jw:InB (dI rows rep (atI rows rep++Sbi j (row0 n))) rep:=by unfold InB;rw[dI,Ubt];exact hb
  have ha:atI (dI rows rep (atI rows rep++Sbi j (row0 n))) rep=atI rows rep++Sbi j (row0 n):=lW.1 hb;have hlen:((atI rows rep++Sbi j (row0 n)).length:Int)=(atI rows rep).length+j:=by simp
  have pD:(atI rows rep++Sbi j (row0 n))++[row0 n]=atI rows rep++Sbi (j+1) (row0 n):=by rw[Rb3,<- List.replicate_succ']
  have kn:(atI rows rep++Sbi j (row0 n)).length+([row0 n]:List bD).length<=100000000000:=by simp only[Rb8,Tbz,Sbm,Tbb];omega
  unfold row0 at pD kn ha jw hlen ⊢;by_cases hc:(atI rows rep).length+j<no
  ·have ig:decide (((atI rows rep).length:Int)+j<no)=true:=by simpa using hc
   refine .inl ⟨j+1,?_,by omega,by omega⟩;simp (disch:=first|assumption|omega) only[S0,rA,rQ,rB,rT,rE,aW,qI,Daz,nV,Oai,lW,qX,ha,hlen,ig,pD]
  ·have ig:decide (((atI rows rep).length:Int)+j<no)=false:=by simpa using hc
   have lR:j=(no-(atI rows rep).length).toNat:=by omega
   refine .inr ?_;simp (disch:=first|assumption|omega) only[S0,rA,rQ,rB,rT,rE,aW,qI,Daz,nV,Oai,lW,ha,hlen,ig];rw[lR];rfl
theorem Hai (n:Int)(rows:List (List bD))(rep no:Int)(ct cV cy bh ca bn bp bo bk:Int)(az:(List Int))(hg:eP n=true)(hs:mZ rows)(hb:InB rows rep)(h1:1<=no)(h2:no<=1000)(hx:az.length<=10000000000) :
  Fun T 111 [i64 rep,i64 no,i64 ct,i64 cV,i64 cy,i64 bh,i64 ca,i64 bn,i64 bp,i64 bo,i64 bk,rL az,i64 n,rL rows]=some [i64 (Cam ⟨n,rows⟩ rep no ⟨ct,cV,cy,⟨bh,ca,bn,bp,bo⟩,⟨bk,az⟩⟩).n,rL (Cam ⟨n,rows⟩ rep no ⟨ct,cV,cy,⟨bh,ca,bn,bp,bo⟩,⟨bk,az⟩⟩).rows]:=by
 rw[aQ (t:=Zas) rfl];unfold Zas;unfold Cam
 have hq:=hs.2 _ (vK hb);have qS:=hq.1;simp (disch:=first|assumption|omega) only[S0,rA,rQ,rB,rT,rE];rw[Hap (T:=T) (.yield 1,[rL (dI rows rep (ext n (atI rows rep) no))]) (fun j:Nat=>(no-(atI rows rep).length).toNat-j) (fun j=>j<=(no-(atI rows rep).length).toNat) (fun j=>[rL (dI rows rep (atI rows rep++Sbi j (row0 n)))]) 0 (by rw[Vbg,Sbu,Pad hb];rfl) (by omega) (by simp)]
 ·have jw:InB (dI rows rep (ext n (atI rows rep) no)) rep:=by unfold InB;rw[dI,Ubt];exact hb
  have ha:atI (dI rows rep (ext n (atI rows rep) no)) rep=ext n (atI rows rep) no:=lW.1 hb;have q5:InB (ext n (atI rows rep) no) (no-1):=by unfold InB;rw[Kau (by omega)];omega
  simp (disch:=first|assumption|omega) only[S0,rA,rQ,rB,rT,rE,aW,qI,lW,uU,ha]
 ·intro j hj
  have jw:InB (dI rows rep (atI rows rep++Sbi j (row0 n))) rep:=by unfold InB;rw[dI,Ubt];exact hb
  have ha:atI (dI rows rep (atI rows rep++Sbi j (row0 n))) rep=atI rows rep++Sbi j (row0 n):=lW.1 hb;have hlen:((atI rows rep++Sbi j (row0 n)).length:Int)=(atI rows rep).length+j:=by simp
  have pD:(atI rows rep++Sbi j (row0 n))++[row0 n]=atI rows rep++Sbi (j+1) (row0 n):=by rw[Rb3,<- List.replicate_succ']
  have kn:(atI rows rep++Sbi j (row0 n)).length+([row0 n]:List bD).length<=100000000000:=by simp only[Rb8,Tbz,Sbm,Tbb];omega
  unfold row0 at pD kn ha jw hlen ⊢;by_cases hc:(atI rows rep).length+j<no
  ·have ig:decide (((atI rows rep).length:Int)+j<no)=true:=by simpa using hc
   refine .inl ⟨j+1,?_,by omega,by omega⟩;simp (disch:=first|assumption|omega) only[S0,rA,rQ,rB,rT,rE,aW,qI,Daz,nV,Oai,lW,eQ,ha,hlen,ig,pD]
  ·have ig:decide (((atI rows rep).length:Int)+j<no)=false:=by simpa using hc
   have lR:j=(no-(atI rows rep).length).toNat:=by omega
   refine .inr ?_;simp (disch:=first|assumption|omega) only[S0,rA,rQ,rB,rT,rE,aW,qI,Daz,nV,Oai,lW,ha,hlen,ig];rw[lR];rfl
theorem mU (xs:List Int)(n:Int)(hx:xs.length<=1099511627776):Fun T 37 [rL xs,i64 n]=some [.bool (Ba4 xs n)]:=by
 rw[aQ (t:=Kbi) rfl];unfold Kbi;unfold Ba4
 simp (disch:=first|assumption|omega) only[S0,rA,rQ,rB,rT,rE];rw[Kas 1 xs (fun x=>x==n) (fun _=>[.bool true])]
 ·(refine aF ?_;repeat' (refine aD ?_ ?_<;>intro _<;>try simp (disch:=first|assumption|omega) only[S0,rA,rQ,rB,rT,rE, *]))
 ·intro i hi hb hl hp
  (refine aF ?_;repeat' (refine aD ?_ ?_<;>intro _<;>try simp (disch:=first|assumption|omega) only[S0,rA,rQ,rB,rT,rE,aW, *]))
 ·intro i hi hb hl hp
  (refine aF ?_;repeat' (refine aD ?_ ?_<;>intro _<;>try simp (disch:=first|assumption|omega) only[S0,rA,rQ,rB,rT,rE,aW, *]))
 ·intro hl
  simp (disch:=first|assumption|omega) only[S0,rA,rQ,rB,rT,rE,hl]
theorem slices_Index_int (xs:List Int)(n:Int)(hx:xs.length<=1099511627776):Fun T 87 [rL xs,i64 n]=some [i64 (ixF (fun x=>n==x) xs)]:=by
 rw[aQ (t:=Ib5) rfl];unfold Ib5
 simp (disch:=first|assumption|omega) only[S0,rA,rQ,rB,rT,rE];rw[Kas 1 xs (fun x=>n==x) (fun i=>[i64 i])]
 ·cases h:xs.any (fun x=>n==x)
  ·have e:ixF (fun x=>n==x) xs=-1:=by
    have h2:=iT (fun x=>n==x) xs;rw[h]at h2;unfold ixF at h2 ⊢;split at h2<;>simp_all
   rw[e];simp (disch:=first|assumption|omega) only[S0,rA,rQ,rB,rT,rE]
  ·simp (disch:=first|assumption|omega) only[S0,rA,rQ,rB,rT,rE]
 ·intro i hi hb hl hp
  (refine aF ?_;repeat' (refine aD ?_ ?_<;>intro _<;>try simp (disch:=first|assumption|omega) only[S0,rA,rQ,rB,rT,rE,aW, *]))
 ·intro i hi hb hl hp
  (refine aF ?_;repeat' (refine aD ?_ ?_<;>intro _<;>try simp (disch:=first|assumption|omega) only[S0,rA,rQ,rB,rT,rE,aW, *]))
 ·intro hl
  simp (disch:=first|assumption|omega) only[S0,rA,rQ,rB,rT,rE,hl]
theorem slices_Contains_int (xs:List Int)(n:Int)(hx:xs.length<=1099511627776):Fun T 86 [rL xs,i64 n]=some [.bool (Ba4 xs n)]:=by
 rw[aQ (t:=Ib6) rfl];unfold Ib6
 have e:Ba4 xs n=xs.any fun x=>n==x:=by
  unfold Ba4;congr 1;funext x;rw[Bool.eq_iff_iff,beq_iff_eq,beq_iff_eq];exact eq_comm
 simp (disch:=first|assumption|omega) only[S0,rA,rQ,rB,rT,rE,slices_Index_int,iT,e]
theorem Sav (xs:List Int)(n:Int)(hx:xs.length<=10000000000):Fun T 48 [rL xs,i64 n]=some [rL (Rac xs n)]:=by
 rw[aQ (t:=Jb7) rfl];unfold Jb7;unfold Rac
 have hk:=Db2 xs n;have h0:(aN.mk 1 0).run []=some [.rows 1 []]:=rfl;simp (disch:=first|assumption|omega) only[S0,rA,rQ,rB,rT,rE];rw[Hap (T:=T) (.yield 1,[i64 (nD xs n:Nat)]) (fun k:Nat=>nD xs n-k) (fun k=>k<=nD xs n) (fun k=>[i64 k]) 0 rfl (by omega) (by simp)]
 ·have l1:(xs.take (nD xs n)).length<=10000000000:=by rw[Sbn];omega
  have l2:(xs.take (nD xs n)).length+([n]:List Int).length<=100000000000:=by simp only[Sbm,Tbb];omega
  have l3:(xs.take (nD xs n)++[n]).length+(xs.drop (nD xs n)).length<=100000000000:=by simp only[Rb8,Sbm,Tbb,Sb8];omega
  by_cases h:nD xs n<xs.length
  ·have hb:InB xs (nD xs n:Nat):=aU.2 h
   have h2:decide ((nD xs n:Int)<xs.length)=true:=by simp;omega
   cases h3:atI xs (nD xs n:Nat)==n
   ·simp (disch:=first|assumption|omega) only[S0,rA,rQ,rB,rT,rE,aW,Daz,nV,Yaj,h0,h2,h3,hb,Tb9,Int.toNat_zero,List.drop_zero,Tbv]
   ·simp (disch:=first|assumption|omega) only[S0,rA,rQ,rB,rT,rE,aW,Daz,nV,Yaj,h0,h2,h3,hb]
  ·have h2:decide ((nD xs n:Int)<xs.length)=false:=by simp;omega
   simp (disch:=first|assumption|omega) only[S0,rA,rQ,rB,rT,rE,aW,Daz,nV,Yaj,h0,h2,Tb9,Int.toNat_zero,List.drop_zero,Tbv]
 ·intro k hk2
  by_cases h:k<nD xs n
  ·have hb:InB xs (k:Int):=aU.2 (by omega)
   have h2:decide ((k:Int)<xs.length)=true:=by simp;omega
   have h3:decide (atI xs (k:Int)<n)=true:=by simpa using Vao h
   refine .inl ⟨k+1,?_,by omega,by omega⟩;simp (disch:=first|assumption|omega) only[S0,rA,rQ,rB,rT,rE,aW,h2,h3,hb]
  ·obtain rfl:k=nD xs n:=by omega
   refine .inr ?_;by_cases h4:nD xs n<xs.length
   ·have hb:InB xs (nD xs n:Nat):=aU.2 h4
    have h2:decide ((nD xs n:Int)<xs.length)=true:=by simp;omega
    have h3:decide (atI xs (nD xs n:Nat)<n)=false:=by simpa using Vap h4
    simp (disch:=first|assumption|omega) only[S0,rA,rQ,rB,rT,rE,aW,h2,h3,hb]
   ·have h2:decide ((nD xs n:Int)<xs.length)=false:=by simp;omega
    simp (disch:=first|assumption|omega) only[S0,rA,rQ,rB,rT,rE,aW,h2]
theorem oP (k i f t a:Int)(hc:lV ⟨k,i,f,t,a⟩=true):Fun T 47 [i64 k,i64 i,i64 f,i64 t,i64 a]=some [rL (jT ⟨k,i,f,t,a⟩)]:=by
 rw[aQ (t:=Jb8) rfl];unfold Jb8;unfold jT
 obtain⟨hk,hm,hr⟩:=Xa0 hc;simp only at hk hm hr
 rcases hk with rfl|rfl|rfl
 ·simp (disch:=first|assumption|omega) only[S0,rA,rQ,rB,rT,rE,Iba]
 ·have dk:=(hm rfl).2.2.1
  have l1:([f]:List Int).length<=10000000000:=by simp
  simp (disch:=first|assumption|omega) only[S0,rA,rQ,rB,rT,rE,Daz,Sav,Pb7 dk]
 ·simp (disch:=first|assumption|omega) only[S0,rA,rQ,rB,rT,rE,Daz]
theorem Ca5 (k i f t a:Int):Fun T 106 [i64 k,i64 i,i64 f,i64 t,i64 a]=some [rL (jT ⟨k,i,f,t,a⟩)]:=by
 rw[aQ (t:=Zax) rfl];unfold Zax;unfold jT
 have h0:(aN.mk 1 0).run []=some [.rows 1 []]:=rfl
 (refine aF ?_;repeat' (refine aD ?_ ?_<;>intro _<;>try simp (disch:=first|assumption|omega) only[S0,rA,rQ,rB,rT,rE,Daz,h0,Iba, *]))
theorem Dar (fw kf gR gA gz:Int)(cS fN ep eu eh:Int)(ha:lV ⟨fw,kf,gR,gA,gz⟩=true)(hb:lV ⟨cS,fN,ep,eu,eh⟩=true):Fun T 46 [i64 fw,i64 kf,i64 gR,i64 gA,i64 gz,i64 cS,i64 fN,i64 ep,i64 eu,i64 eh]=some [.bool (uS ⟨fw,kf,gR,gA,gz⟩ ⟨cS,fN,ep,eu,eh⟩)]:=by
 rw[aQ (t:=Jb9) rfl];unfold Jb9;unfold uS
 have la:=vU ⟨fw,kf,gR,gA,gz⟩;have lb:=vU ⟨cS,fN,ep,eu,eh⟩;have lb':(jT ⟨cS,fN,ep,eu,eh⟩).length<=1099511627776:=by omega
 simp (disch:=first|assumption|omega) only[S0,rA,rQ,rB,rT,rE,oP,ha];rw[Kas 1 (jT ⟨fw,kf,gR,gA,gz⟩) (fun k=>Ba4 (jT ⟨cS,fN,ep,eu,eh⟩) k) (fun _=>[.bool true])]
 ·(refine aF ?_;repeat' (refine aD ?_ ?_<;>intro _<;>try simp (disch:=first|assumption|omega) only[S0,rA,rQ,rB,rT,rE, *]))
 ·intro i hi jw hl hp
  simp (disch:=first|assumption|omega) only[S0,rA,rQ,rB,rT,rE,aW,oP,mU,hb,jw,hl,hp]
 ·intro i hi jw hl hp
  simp (disch:=first|assumption|omega) only[S0,rA,rQ,rB,rT,rE,aW,oP,mU,hb,jw,hl,hp]
 ·intro hl
  simp (disch:=first|assumption|omega) only[S0,rA,rQ,rB,rT,rE,hl]
theorem sZ (n:Int)(cS fN ep eu eh:Int):Fun T 109 [i64 n,i64 cS,i64 fN,i64 ep,i64 eu,i64 eh]=some [.bool (Ba4 (jT ⟨cS,fN,ep,eu,eh⟩) n)]:=by
 rw[aQ (t:=Zau) rfl];unfold Zau
 have lb:=vU ⟨cS,fN,ep,eu,eh⟩;have lb':(jT ⟨cS,fN,ep,eu,eh⟩).length<=1099511627776:=by omega
 simp (disch:=first|assumption|omega) only[S0,rA,rQ,rB,rT,rE,Ca5,slices_Contains_int]
theorem Haf (cS fN ep eu eh:Int)(xs:List Int)(hx:xs.length<=1099511627776):Fun T 108 [rL xs,i64 cS,i64 fN,i64 ep,i64 eu,i64 eh]=some [i64 (ixF (fun x=>Ba4 (jT ⟨cS,fN,ep,eu,eh⟩) x) xs)]:=by
 rw[aQ (t:=Zav) rfl];unfold Zav
 simp (disch:=first|assumption|omega) only[S0,rA,rQ,rB,rT,rE,aW, *];rw[Kas 1 xs (fun x=>Ba4 (jT ⟨cS,fN,ep,eu,eh⟩) x) (fun i=>[i64 i])]
 ·cases h:xs.any (fun x=>Ba4 (jT ⟨cS,fN,ep,eu,eh⟩) x)
  ·have e:ixF (fun x=>Ba4 (jT ⟨cS,fN,ep,eu,eh⟩) x) xs=-1:=by
    have h2:=iT (fun x=>Ba4 (jT ⟨cS,fN,ep,eu,eh⟩) x) xs;rw[h]at h2;unfold ixF at h2 ⊢;split at h2<;>simp_all
   rw[e];simp (disch:=first|assumption|omega) only[S0,rA,rQ,rB,rT,rE]
  ·simp (disch:=first|assumption|omega) only[S0,rA,rQ,rB,rT,rE]
 ·intro i hi hb hl hp
  (refine aF ?_;repeat' (refine aD ?_ ?_<;>intro _<;>try simp (disch:=first|assumption|omega) only[S0,rA,rQ,rB,rT,rE,aW,sZ, *]))
 ·intro i hi hb hl hp
  (refine aF ?_;repeat' (refine aD ?_ ?_<;>intro _<;>try simp (disch:=first|assumption|omega) only[S0,rA,rQ,rB,rT,rE,aW,sZ, *]))
 ·intro hl
  (refine aF ?_;repeat' (refine aD ?_ ?_<;>intro _<;>try simp (disch:=first|assumption|omega) only[S0,rA,rQ,rB,rT,rE, *]))
theorem Hak (cS fN ep eu eh:Int)(xs:List Int)(hx:xs.length<=1099511627776):Fun T 107 [rL xs,i64 cS,i64 fN,i64 ep,i64 eu,i64 eh]=some [.bool (xs.any (fun x=>Ba4 (jT ⟨cS,fN,ep,eu,eh⟩) x))]:=by
 rw[aQ (t:=Zaw) rfl];unfold Zaw
 (refine aF ?_;repeat' (refine aD ?_ ?_<;>intro _<;>try simp (disch:=first|assumption|omega) only[S0,rA,rQ,rB,rT,rE,Haf,iT, *]))
theorem lH (fw kf gR gA gz:Int)(cS fN ep eu eh:Int):Fun T 105 [i64 fw,i64 kf,i64 gR,i64 gA,i64 gz,i64 cS,i64 fN,i64 ep,i64 eu,i64 eh]=some [.bool (uS ⟨fw,kf,gR,gA,gz⟩ ⟨cS,fN,ep,eu,eh⟩)]:=by
 rw[aQ (t:=Zay) rfl];unfold Zay;unfold uS
 have la:=vU ⟨fw,kf,gR,gA,gz⟩;have la':(jT ⟨fw,kf,gR,gA,gz⟩).length<=1099511627776:=by omega
 simp (disch:=first|assumption|omega) only[S0,rA,rQ,rB,rT,rE,Ca5,Hak]
theorem Ea3 (a b:Int):Fun T 49 [i64 a,i64 b]=some [i64 (max a b)]:=by
 rw[aQ (t:=Jb6) rfl];unfold Jb6
 by_cases h:b<a
 ·have h2:decide (b<a)=true:=by simpa using h
  rw[Int.max_eq_left (by omega)];simp (disch:=first|assumption|omega) only[S0,rA,rQ,rB,rT,rE,h2]
 ·have h2:decide (b<a)=false:=by simpa using h
  rw[Int.max_eq_right (by omega)];simp (disch:=first|assumption|omega) only[S0,rA,rQ,rB,rT,rE,h2]
theorem Gan (a:Int):Fun T 93 [i64 a]=some [.bool false]:=by
 rw[aQ (t:=Ibz) rfl];unfold Ibz
 simp (disch:=first|assumption|omega) only[S0,rA,rQ,rB,rT,rE]
theorem yH (a b:Int):Fun T 92 [i64 a,i64 b]=some [i64 (Ebz a b)]:=by
 rw[aQ (t:=Ib0) rfl];unfold Ib0;unfold Ebz
 by_cases h:a<b
 ·simp (disch:=first|assumption|omega) only[S0,rA,rQ,rB,rT,rE,Gan,h]
 ·by_cases h2:b<a
  ·simp (disch:=first|assumption|omega) only[S0,rA,rQ,rB,rT,rE,Gan,h,h2]
  ·simp (disch:=first|assumption|omega) only[S0,rA,rQ,rB,rT,rE,Gan,h,h2]
theorem oC (xs ys:List Int)(hx:xs.length<=1099511627776)(hy:ys.length<=1099511627776):Fun T 91 [rL xs,rL ys]=some [i64 (Bby xs ys)]:=by
 rw[aQ (t:=Ib1) rfl];unfold Ib1;unfold Bby
 simp (disch:=first|assumption|omega) only[S0,rA,rQ,rB,rT,rE];rw[Hap (T:=T) (match Ka4 xs ys with|some c=>(.ret,[i64 c])|none=>(.yield 1,[])) (fun i:Nat=>xs.length-i) (fun i=>i<=xs.length/\Ka4 (xs.drop i) (ys.drop i)=Ka4 xs ys) (fun i=>[i64 i]) 0 rfl ⟨by omega,by simp⟩ (by split<;>simp)]
 ·cases Ka4 xs ys with
  |some c=>simp (disch:=first|assumption|omega) only[S0,rA,rQ,rB,rT,rE]
  | none =>
   cases h:decide ((xs.length:Int)<ys.length)
   ·simp (disch:=first|assumption|omega) only[S0,rA,rQ,rB,rT,rE,h,Sbb]
   ·simp (disch:=first|assumption|omega) only[S0,rA,rQ,rB,rT,rE,h]
 ·rintro i ⟨hi,he⟩
  rcases Sbh i xs.length with aw|nj
  ·have h1:decide ((i:Int)<xs.length)=true:=by simp;omega
   have hb:InB xs (i:Int):=aU.2 aw
   rcases Sbh i ys.length with nn|hge2
   ·have h2:decide ((ys.length:Int)<=i)=false:=by simp;omega
    have jw:InB ys (i:Int):=aU.2 nn;rw[Xay aw nn]at he;by_cases h3:atI xs (i:Int)<atI ys (i:Int)
    ·rw[if_pos h3]at he
     have e:Ebz (atI xs (i:Int)) (atI ys (i:Int))=-1:=if_pos h3;rw[<- he];refine .inr ?_;simp (disch:=first|assumption|omega) only[S0,rA,rQ,rB,rT,rE,aW,yH,h1,h2,e]
    ·rw[if_neg h3]at he
     by_cases h4:atI ys (i:Int)<atI xs (i:Int)
     ·rw[if_pos h4]at he
      have e:Ebz (atI xs (i:Int)) (atI ys (i:Int))=1:=by unfold Ebz;rw[if_neg h3,if_pos h4]
      rw[<- he];refine .inr ?_;simp (disch:=first|assumption|omega) only[S0,rA,rQ,rB,rT,rE,aW,yH,h1,h2,e]
     ·rw[if_neg h4]at he
      have e:Ebz (atI xs (i:Int)) (atI ys (i:Int))=0:=by unfold Ebz;rw[if_neg h3,if_neg h4]
      refine .inl ⟨i+1,?_,⟨by omega,he⟩,by omega⟩;simp (disch:=first|assumption|omega) only[S0,rA,rQ,rB,rT,rE,aW,yH,h1,h2,e]
   ·have h2:decide ((ys.length:Int)<=i)=true:=by simp;omega
    rw[Bbz aw hge2]at he;rw[<- he];refine .inr ?_;simp (disch:=first|assumption|omega) only[S0,rA,rQ,rB,rT,rE,aW,h1,h2]
  ·have h1:decide ((i:Int)<xs.length)=false:=by simp;omega
   rw[List.drop_eq_nil_of_le nj]at he;have he':Ka4 xs ys=none:=by rw[<- he];rfl
   rw[he'];refine .inr ?_;simp (disch:=first|assumption|omega) only[S0,rA,rQ,rB,rT,rE,h1]
theorem kG (xs:List Int)(lo up:Int)(hx:xs.length<=10000000000):Fun T 36 [rL xs,i64 lo,i64 up]=some [.bool (Pag xs lo up)]:=by
 rw[aQ (t:=Kbj) rfl];unfold Kbj;unfold Pag
 simp (disch:=first|assumption|omega) only[S0,rA,rQ,rB,rT,rE];rw[Dbn 1 xs.length (fun i=>inR (atI xs (i:Int)) lo up&&Jay xs i) [.bool false]]
 ·(refine aF ?_;repeat' (refine aD ?_ ?_<;>intro _<;>try simp (disch:=first|assumption|omega) only[S0,rA,rQ,rB,rT,rE, *]))
 ·intro i hi aw
  have hb:InB xs (i:Int):=aU.2 hi;unfold Jay;cases h1:inR (atI xs (i:Int)) lo up
  ·simp (disch:=first|assumption|omega) only[S0,rA,rQ,rB,rT,rE,aW,dD,aw,h1]
  ·cases i with
   | zero =>
    have a4v:decide ((0:Int)<xs.length)=true:=aw;have hb0:InB xs 0:=hb;have du:inR (atI xs 0) lo up=true:=h1;have d0:decide ((0:Int)<0)=false:=rfl;have d1:decide ((0:Nat)<0)=false:=rfl;simp (disch:=first|assumption|omega) only[S0,rA,rQ,rB,rT,rE,aW,dD,a4v,du,d0,d1,Int.natCast_zero,Nat.lt_irrefl,Int.cast_ofNat_Int]
   | succ i =>
    have jw:InB xs ((i:Int)+1-1):=by unfold InB;omega
    have d1:decide ((0:Int)<(i:Int)+1)=true:=decide_eq_true (by omega);have d2:decide (0<i+1)=true:=decide_eq_true (by omega);have q5:InB xs ((i:Int)+1):=hb;have a1i:decide ((i:Int)+1<xs.length)=true:=aw;have jm:inR (atI xs ((i:Int)+1)) lo up=true:=h1;cases h2:decide (atI xs ((i:Int)+1)<=atI xs ((i:Int)+1-1))
    ·simp (disch:=first|assumption|omega) only[S0,rA,rQ,rB,rT,rE,aW,dD,a1i,jm,d1,d2,h2]
    ·simp (disch:=first|assumption|omega) only[S0,rA,rQ,rB,rT,rE,aW,dD,a1i,jm,d1,d2,h2]
 ·intro aw
  simp (disch:=first|assumption|omega) only[S0,rA,rQ,rB,rT,rE,aw]
theorem Nad (xs:List Int)(hx:xs.length<=10000000000):Fun T 82 [rL xs]=some [.bool (xO (Jay xs) xs.length)]:=by
 rw[aQ (t:=Jba) rfl];unfold Jba
 have e:xO (Jay xs) xs.length=xO (fun i=>decide (i<1)||!decide (atI xs (i:Int)<=atI xs ((i:Int)-1))) xs.length:=by
  refine Ia8 fun i hi=>?_
  unfold Jay
  cases i with
  |zero=>rfl
  |succ i=>simp
 rw[e];simp (disch:=first|assumption|omega) only[S0,rA,rQ,rB,rT,rE];have h1:(D.int .i64 1)=i64 ((1:Nat):Int):=rfl;rw[h1,Lbt 1 1 xs.length (fun i=>!decide (atI xs (i:Int)<=atI xs ((i:Int)-1))) [.bool false]]
 ·(refine aF ?_;repeat' (refine aD ?_ ?_<;>intro _<;>try simp (disch:=first|assumption|omega) only[S0,rA,rQ,rB,rT,rE, *]))
 ·intro i hs hi aw
  have hb:InB xs (i:Int):=aU.2 hi;have jw:InB xs ((i:Int)-1):=by unfold InB;omega
  have hz:((0:Nat):Int)+1=1:=rfl;cases hq:decide (atI xs (i:Int)<=atI xs ((i:Int)-1))<;>simp (disch:=first|assumption|omega) only[S0,rA,rQ,rB,rT,rE,aW,aw,hz,hq]
 ·intro i hi aw
  simp (disch:=first|assumption|omega) only[S0,rA,rQ,rB,rT,rE,aw]
theorem qB (x n:Int)(hg:Ca4 n):Fun T 85 [i64 x,i64 n]=some [.bool (!inR x 0 (n-1))]:=by
 rw[aQ (t:=Ib7) rfl];unfold Ib7
 unfold Ca4 at hg;simp (disch:=first|assumption|omega) only[S0,rA,rQ,rB,rT,rE,cK]
theorem Fas (n:Int)(hg:Ca4 n)(xs:List Int)(hx:xs.length<=1099511627776):Fun T 84 [rL xs,i64 n]=some [i64 (ixF (fun x=>!inR x 0 (n-1)) xs)]:=by
 rw[aQ (t:=Ib8) rfl];unfold Ib8
 simp (disch:=first|assumption|omega) only[S0,rA,rQ,rB,rT,rE,aW, *];rw[Kas 1 xs (fun x=>!inR x 0 (n-1)) (fun i=>[i64 i])]
 ·cases h:xs.any (fun x=>!inR x 0 (n-1))
  ·have e:ixF (fun x=>!inR x 0 (n-1)) xs=-1:=by
    have h2:=iT (fun x=>!inR x 0 (n-1)) xs;rw[h]at h2;unfold ixF at h2 ⊢;split at h2<;>simp_all
   rw[e];simp (disch:=first|assumption|omega) only[S0,rA,rQ,rB,rT,rE]
  ·simp (disch:=first|assumption|omega) only[S0,rA,rQ,rB,rT,rE]
 ·intro i hi hb hl hp
  (refine aF ?_;repeat' (refine aD ?_ ?_<;>intro _<;>try simp (disch:=first|assumption|omega) only[S0,rA,rQ,rB,rT,rE,aW,qB, *]))
 ·intro i hi hb hl hp
  (refine aF ?_;repeat' (refine aD ?_ ?_<;>intro _<;>try simp (disch:=first|assumption|omega) only[S0,rA,rQ,rB,rT,rE,aW,qB, *]))
 ·intro hl
  (refine aF ?_;repeat' (refine aD ?_ ?_<;>intro _<;>try simp (disch:=first|assumption|omega) only[S0,rA,rQ,rB,rT,rE, *]))
theorem Gah (n:Int)(hg:Ca4 n)(xs:List Int)(hx:xs.length<=1099511627776):Fun T 83 [rL xs,i64 n]=some [.bool (xs.any (fun x=>!inR x 0 (n-1)))]:=by
 rw[aQ (t:=Ib9) rfl];unfold Ib9
 (refine aF ?_;repeat' (refine aD ?_ ?_<;>intro _<;>try simp (disch:=first|assumption|omega) only[S0,rA,rQ,rB,rT,rE,Fas,iT, *]))
theorem iU (n:Int)(xs:List Int)(hg:Ca4 n)(hx:xs.length<=10000000000):Fun T 81 [i64 n,rL xs]=some [.bool (Pag xs 0 (n-1))]:=by
 rw[aQ (t:=Jbb) rfl];unfold Jbb;unfold Pag
 have tz:xs.length<=1099511627776:=by omega
 have e:xs.any (fun x=>!inR x 0 (n-1))=!xs.all fun x=>inR x 0 (n-1):=by rw[Ubl]
 rw[Ra8,Ra9 xs (fun x=>inR x 0 (n-1)),Bool.and_comm];cases h:xO (Jay xs) xs.length
 ·simp (disch:=first|assumption|omega) only[S0,rA,rQ,rB,rT,rE,Nad,h]
 ·simp (disch:=first|assumption|omega) only[S0,rA,rQ,rB,rT,rE,Nad,Gah,h,e,Bool.not_not]
theorem qV (n me:Int)(cD ev cx cG bm cw b5 b6 b7 aE:Int)(ar:(List Int))(bd:Int)(av:(List Int))(cY:Bool)(da:(List Int))(b4:(List bD))(hg:eP n=true)(hs:Qa4 ⟨cD,ev,cx,cG,⟨bm,cw,b5,b6,b7⟩,⟨aE,ar⟩,⟨bd,av⟩,cY,da,b4⟩):Fun T 34 [i64 n,i64 me,i64 cD,i64 ev,i64 cx,i64 cG,i64 bm,i64 cw,i64 b5,i64 b6,i64 b7,i64 aE,rL ar,i64 bd,rL av,.bool cY,rL da,rL b4]=some [.bool (lY n me ⟨cD,ev,cx,cG,⟨bm,cw,b5,b6,b7⟩,⟨aE,ar⟩,⟨bd,av⟩,cY,da,b4⟩)]:=by
 rw[aQ (t:=Kbl) rfl];unfold Kbl
 have hn:=bG hg;obtain⟨h1,h2,h3,h4,h5⟩:=hs;simp only at h1 h2 h3 h4 h5;have u6:ar.length<=1099511627776:=by omega
 have vg:av.length<=1099511627776:=by omega
 have z8:da.length<=1099511627776:=by omega
 have ea:decide ((⟨aE,ar⟩:cZ)=none0 n)=decide ((⟨aE,ar⟩:cZ)=⟨(none0 n).seq,(none0 n).deps⟩):=rfl;have eb:decide ((⟨bd,av⟩:cZ)=none0 n)=decide ((⟨bd,av⟩:cZ)=⟨(none0 n).seq,(none0 n).deps⟩):=rfl;unfold lY;cases c1:inst n cD ev
 ·simp (disch:=first|assumption|omega) only[S0,rA,rQ,rB,rT,rE,jO,c1]
 cases c2:inR cx 0 9999
 ·simp (disch:=first|assumption|omega) only[S0,rA,rQ,rB,rT,rE,jO,dD,c1,c2]
 cases c3:Pag da 0 (n-1)
 ·simp (disch:=first|assumption|omega) only[S0,rA,rQ,rB,rT,rE,jO,dD,kG,c1,c2,c3]
 cases c4:Ba4 da me
 ·simp (disch:=first|assumption|omega) only[S0,rA,rQ,rB,rT,rE,jO,dD,kG,mU,c1,c2,c3,c4]
 cases c5:gD n ⟨aE,ar⟩
 ·simp (disch:=first|assumption|omega) only[S0,rA,rQ,rB,rT,rE,jO,dD,kG,mU,qY,c1,c2,c3,c4,c5]
 cases c6:gD n ⟨bd,av⟩
 ·simp (disch:=first|assumption|omega) only[S0,rA,rQ,rB,rT,rE,jO,dD,kG,mU,qY,c1,c2,c3,c4,c5,c6]
 simp (disch:=first|assumption|omega) only[S0,rA,rQ,rB,rT,rE,jO,dD,kG,mU,qY,c1,c2,c3,c4,c5,c6];rw[Mbe 1 b4 (fun r=>rowOk n r&&!(r.state==3)) [.bool false]]
 ·have e0:((b4.length:Int)==0)=true->(b4.all fun r=>rowOk n r&&!(r.state==3))=true:=fun h=>by
   have:b4=[]:=List.length_eq_zero_iff.1 (by simpa using h);rw[this];rfl
  cases c7:b4.all fun r=>rowOk n r&&!(r.state==3)
  ·have e1:((b4.length:Int)==0)=false:=by
    cases h:((b4.length:Int)==0) with
    |false=>rfl
    |true=>rw[e0 h]at c7;cases c7
   rcases Vat cG with rfl|rfl|rfl|⟨p1,p2,p3⟩
   ·simp (disch:=first|assumption|omega) only[S0,rA,rQ,rB,rT,rE,e1]
   ·simp (disch:=first|assumption|omega) only[S0,rA,rQ,rB,rT,rE,e1]
   ·simp (disch:=first|assumption|omega) only[S0,rA,rQ,rB,rT,rE]
   ·simp (disch:=first|assumption|omega) only[S0,rA,rQ,rB,rT,rE,p1,p2,p3,Sbb]
  ·clear e0
   rcases Vat cG with rfl|rfl|rfl|⟨p1,p2,p3⟩
   ·simp (disch:=first|assumption|omega) only[S0,rA,rQ,rB,rT,rE,eY]<;>repeat' (refine aD (fun _=>?_) (fun _=>?_)<;>try simp (disch:=first|assumption|omega) only[S0,rA,rQ,rB,rT,rE,eY, *])
   ·simp (disch:=first|assumption|omega) only[S0,rA,rQ,rB,rT,rE,eY]<;>repeat' (refine aD (fun _=>?_) (fun _=>?_)<;>try simp (disch:=first|assumption|omega) only[S0,rA,rQ,rB,rT,rE,eY,qZ, *])
   ·cases k0:decide (({ kind:=bm,id:=cw,src:=b5,dst:=b6,amt:=b7 }:kP)={ kind:=0,id:=0,src:=0,dst:=0,amt:=0 })<;>cases k1:decide (({ seq:=aE,deps:=ar }:cZ)=cZ.mk (none0 n).seq (none0 n).deps)<;>cases k2:decide (({ seq:=bd,deps:=av }:cZ)=cZ.mk (none0 n).seq (none0 n).deps)
    all_goals (have k1':=ea.trans k1;have k2':=eb.trans k2;simp (disch:=first|assumption|omega) only[S0,rA,rQ,rB,rT,rE,qX,qZ,Ga1,k0,k1,k2,k1',k2'])
    all_goals (cases cY<;>simp (disch:=first|assumption|omega) only[S0,rA,rQ,rB,rT,rE])
   ·simp (disch:=first|assumption|omega) only[S0,rA,rQ,rB,rT,rE,p1,p2,p3,Sbb]
 ·intro i hi hb aw hm
  have hq:=h5 _ hm;have nw:(atI b4 (i:Int)).attr.deps.length<=1099511627776:=by omega
  simp (disch:=first|assumption|omega) only[S0,rA,rQ,rB,rT,rE,aW,vX,aw]<;>repeat' (refine aD (fun _=>?_) (fun _=>?_)<;>try simp (disch:=first|assumption|omega) only[S0,rA,rQ,rB,rT,rE,aW,vX, *])
 ·intro aw
  simp (disch:=first|assumption|omega) only[S0,rA,rQ,rB,rT,rE,aw]
theorem uT (ct cV cy bh ca bn bp bo bk:Int)(az:(List Int))(n:Int)(hg:eP n=true)(hx:az.length<=1099511627776):Fun T 90 [i64 ct,i64 cV,i64 cy,i64 bh,i64 ca,i64 bn,i64 bp,i64 bo,i64 bk,rL az,i64 n]=some [.bool (!(rowOk n ⟨ct,cV,cy,⟨bh,ca,bn,bp,bo⟩,⟨bk,az⟩⟩&&!(cy==3)))]:=by
 rw[aQ (t:=Ib2) rfl];unfold Ib2
 (refine aF ?_;repeat' (refine aD ?_ ?_<;>intro _<;>try simp (disch:=first|assumption|omega) only[S0,rA,rQ,rB,rT,rE,Ca6,Bool.not_not, *]))
theorem Kai (n:Int)(hg:eP n=true)(xs:List bD)(hx:xs.length<=1099511627776)(hq:∀ x∈xs,x.attr.deps.length<=1099511627776):Fun T 89 [rL xs,i64 n]=some [i64 (ixF (fun r=>!(rowOk n r&&!(r.state==3))) xs)]:=by
 rw[aQ (t:=Ib3) rfl];unfold Ib3
 simp (disch:=first|assumption|omega) only[S0,rA,rQ,rB,rT,rE,aW, *];rw[Kas 1 xs (fun r=>!(rowOk n r&&!(r.state==3))) (fun i=>[i64 i])]
 ·cases h:xs.any (fun r=>!(rowOk n r&&!(r.state==3)))
  ·have e:ixF (fun r=>!(rowOk n r&&!(r.state==3))) xs=-1:=by
    have h2:=iT (fun r=>!(rowOk n r&&!(r.state==3))) xs;rw[h]at h2;unfold ixF at h2 ⊢;split at h2<;>simp_all
   rw[e];simp (disch:=first|assumption|omega) only[S0,rA,rQ,rB,rT,rE]
  ·simp (disch:=first|assumption|omega) only[S0,rA,rQ,rB,rT,rE]
 ·intro i hi hb hl hp
  have nw:=hq _ (at_mem hi)
  try simp only at nw hp
  (refine aF ?_;repeat' (refine aD ?_ ?_<;>intro _<;>try simp (disch:=first|assumption|omega) only[S0,rA,rQ,rB,rT,rE,aW,uT, *]))
 ·intro i hi hb hl hp
  have nw:=hq _ (at_mem hi)
  try simp only at nw hp
  (refine aF ?_;repeat' (refine aD ?_ ?_<;>intro _<;>try simp (disch:=first|assumption|omega) only[S0,rA,rQ,rB,rT,rE,aW,uT, *]))
 ·intro hl
  (refine aF ?_;repeat' (refine aD ?_ ?_<;>intro _<;>try simp (disch:=first|assumption|omega) only[S0,rA,rQ,rB,rT,rE, *]))
theorem Kay (n:Int)(hg:eP n=true)(xs:List bD)(hx:xs.length<=1099511627776)(hq:∀ x∈xs,x.attr.deps.length<=1099511627776):Fun T 88 [rL xs,i64 n]=some [.bool (xs.any (fun r=>!(rowOk n r&&!(r.state==3))))]:=by
 rw[aQ (t:=Ib4) rfl];unfold Ib4
 (refine aF ?_;repeat' (refine aD ?_ ?_<;>intro _<;>try simp (disch:=first|assumption|omega) only[S0,rA,rQ,rB,rT,rE,Kai,iT, *]))
theorem rU (n me:Int)(cD ev cx cG bm cw b5 b6 b7 aE:Int)(ar:(List Int))(bd:Int)(av:(List Int))(cY:Bool)(da:(List Int))(b4:(List bD))(hg:eP n=true)(hs:Qa4 ⟨cD,ev,cx,cG,⟨bm,cw,b5,b6,b7⟩,⟨aE,ar⟩,⟨bd,av⟩,cY,da,b4⟩):Fun T 79 [i64 n,i64 me,i64 cD,i64 ev,i64 cx,i64 cG,i64 bm,i64 cw,i64 b5,i64 b6,i64 b7,i64 aE,rL ar,i64 bd,rL av,.bool cY,rL da,rL b4]=some [.bool (lY n me ⟨cD,ev,cx,cG,⟨bm,cw,b5,b6,b7⟩,⟨aE,ar⟩,⟨bd,av⟩,cY,da,b4⟩)]:=by
 rw[aQ (t:=Jbd) rfl];unfold Jbd
 have hn:=bG hg;have zo:Ca4 n:=Wan hg;obtain⟨h1,h2,h3,h4,h5⟩:=hs;simp only at h1 h2 h3 h4 h5;have u6:ar.length<=1099511627776:=by omega
 have vg:av.length<=1099511627776:=by omega
 have z8:da.length<=1099511627776:=by omega
 have uu:b4.length<=1099511627776:=by omega
 have tE:∀ x∈b4,x.attr.deps.length<=1099511627776:=fun x hx=>by have:=h5 x hx;omega
 have ea:decide ((⟨aE,ar⟩:cZ)=none0 n)=decide ((⟨aE,ar⟩:cZ)=⟨(none0 n).seq,(none0 n).deps⟩):=rfl;have eb:decide ((⟨bd,av⟩:cZ)=none0 n)=decide ((⟨bd,av⟩:cZ)=⟨(none0 n).seq,(none0 n).deps⟩):=rfl;have e3:(b4.any fun r=>!(rowOk n r&&!(r.state==3)))=!b4.all fun r=>rowOk n r&&!(r.state==3):=by rw[Ubl]
 unfold lY;cases c1:inst n cD ev
 ·simp (disch:=first|assumption|omega) only[S0,rA,rQ,rB,rT,rE,fB,hg,c1]
 cases c2:inR cx 0 9999
 ·simp (disch:=first|assumption|omega) only[S0,rA,rQ,rB,rT,rE,fB,cK,hg,c1,c2]
 cases c3:Pag da 0 (n-1)
 ·simp (disch:=first|assumption|omega) only[S0,rA,rQ,rB,rT,rE,fB,cK,iU,hg,c1,c2,c3]
 cases c4:Ba4 da me
 ·simp (disch:=first|assumption|omega) only[S0,rA,rQ,rB,rT,rE,fB,cK,iU,slices_Contains_int,hg,c1,c2,c3,c4]
 cases c5:gD n ⟨aE,ar⟩
 ·simp (disch:=first|assumption|omega) only[S0,rA,rQ,rB,rT,rE,fB,cK,iU,slices_Contains_int,mI,hg,c1,c2,c3,c4,c5]
 cases c6:gD n ⟨bd,av⟩
 ·simp (disch:=first|assumption|omega) only[S0,rA,rQ,rB,rT,rE,fB,cK,iU,slices_Contains_int,mI,hg,c1,c2,c3,c4,c5,c6]
 simp (disch:=first|assumption|omega) only[S0,rA,rQ,rB,rT,rE,fB,cK,iU,slices_Contains_int,mI,hg,c1,c2,c3,c4,c5,c6]
 rcases Vat cG with rfl|rfl|rfl|⟨p1,p2,p3⟩
 ·simp (disch:=first|assumption|omega) only[S0,rA,rQ,rB,rT,rE,dS]<;>repeat' (refine aD (fun _=>?_) (fun _=>?_)<;>try simp (disch:=first|assumption|omega) only[S0,rA,rQ,rB,rT,rE,dS, *])
 ·cases c7:lV ⟨bm,cw,b5,b6,b7⟩
  ·simp (disch:=first|assumption|omega) only[S0,rA,rQ,rB,rT,rE,dS,c7]
  cases c8:(b4.length:Int)==0
  ·simp (disch:=first|assumption|omega) only[S0,rA,rQ,rB,rT,rE,dS,c7,c8]
  cases c9:decide ((⟨aE,ar⟩:cZ)=⟨bd,av⟩)<;>cases c10:cY<;>simp (disch:=first|assumption|omega) only[S0,rA,rQ,rB,rT,rE,dS,gX,c7,c8,c9,c10]
 ·cases c7:decide ((⟨bm,cw,b5,b6,b7⟩:kP)=⟨0,0,0,0,0⟩)
  ·simp (disch:=first|assumption|omega) only[S0,rA,rQ,rB,rT,rE,eQ,Ga1,c7]
  cases c8:decide ((⟨aE,ar⟩:cZ)=none0 n)
  ·simp (disch:=first|assumption|omega) only[S0,rA,rQ,rB,rT,rE,eQ,gX,Ga1,c7,c8]
  cases c9:decide ((⟨bd,av⟩:cZ)=none0 n)
  ·simp (disch:=first|assumption|omega) only[S0,rA,rQ,rB,rT,rE,eQ,gX,Ga1,c7,c8,c9]
  cases c10:cY
  rotate_left
  ·simp (disch:=first|assumption|omega) only[S0,rA,rQ,rB,rT,rE,eQ,gX,Ga1,c7,c8,c9,c10]
  cases c11:(b4.length:Int)==(da.length:Int)
  ·simp (disch:=first|assumption|omega) only[S0,rA,rQ,rB,rT,rE,eQ,gX,Ga1,c7,c8,c9,c10,c11]
  simp (disch:=first|assumption|omega) only[S0,rA,rQ,rB,rT,rE,eQ,gX,Ga1,c7,c8,c9,c10,c11,Kay,e3,Bool.not_not]
 ·simp (disch:=first|assumption|omega) only[S0,rA,rQ,rB,rT,rE,p1,p2,p3,Sbb]
theorem dX (me n:Int)(rows:List (List bD))(leads:List aR)(hs:mZ rows)(jo:nA leads):Fun T 21 [i64 me,i64 n,rL rows,rL leads]=some [.bool (mF ⟨me,⟨n,rows⟩,leads⟩)]:=by
 rw[aQ (t:=Kbx) rfl];unfold Kbx;unfold mF
 obtain⟨hs3,hs4⟩:=jo;cases ht:fD ⟨n,rows⟩
 ·simp (disch:=first|assumption|omega) only[S0,rA,rQ,rB,rT,rE,oQ,ht]
 have hg:eP n=true:=bZ ht;have hn:=bG hg;cases hm:inR me 0 (n-1)
 ·simp (disch:=first|assumption|omega) only[S0,rA,rQ,rB,rT,rE,oQ,dD,ht,hm]
 simp (disch:=first|assumption|omega) only[S0,rA,rQ,rB,rT,rE,oQ,dD,ht,hm];rw[Dbn 1 leads.length (Faq n me leads) [.bool false]]
 ·(refine aF ?_;repeat' (refine aD ?_ ?_<;>intro _<;>try simp (disch:=first|assumption|omega) only[S0,rA,rQ,rB,rT,rE, *]))
 ·intro i hi aw
  have hb:InB leads (i:Int):=aU.2 hi;have hq:=hs4 _ (at_mem hi);unfold Faq Ma4;cases c1:lY n me (atI leads (i:Int))
  ·simp (disch:=first|assumption|omega) only[S0,rA,rQ,rB,rT,rE,aW,qV,aw,c1]
  by_cases h0:0<(i:Int)
  ·have d0:decide (0<(i:Int))=true:=by simpa using h0
   have jw:InB leads ((i:Int)-1):=by unfold InB;omega
   simp (disch:=first|assumption|omega) only[S0,rA,rQ,rB,rT,rE,aW,qV,aw,c1,d0]<;>repeat' (refine aD (fun _=>?_) (fun _=>?_)<;>try simp (disch:=first|assumption|omega) only[S0,rA,rQ,rB,rT,rE,aW,qV, *])
  ·have d0:decide (0<(i:Int))=false:=by simpa using h0
   simp (disch:=first|assumption|omega) only[S0,rA,rQ,rB,rT,rE,aW,qV,aw,c1,d0]
 ·intro aw
  simp (disch:=first|assumption|omega) only[S0,rA,rQ,rB,rT,rE,aw]
theorem fH (me n:Int)(rows:List (List bD))(leads:List aR)(hs:mZ rows)(jo:nA leads):Fun T 59 [i64 me,i64 n,rL rows,rL leads]=some [.bool (mF ⟨me,⟨n,rows⟩,leads⟩)]:=by
 rw[aQ (t:=Jbx) rfl];unfold Jbx;unfold mF
 obtain⟨hs3,hs4⟩:=jo;cases ht:fD ⟨n,rows⟩
 ·simp (disch:=first|assumption|omega) only[S0,rA,rQ,rB,rT,rE,oZ,ht]
 have hg:eP n=true:=bZ ht;have hn:=bG hg;cases hm:inR me 0 (n-1)
 ·simp (disch:=first|assumption|omega) only[S0,rA,rQ,rB,rT,rE,oZ,cK,ht,hm]
 simp (disch:=first|assumption|omega) only[S0,rA,rQ,rB,rT,rE,oZ,cK,ht,hm];rw[Dbn 1 leads.length (Faq n me leads) [.bool false]]
 ·(refine aF ?_;repeat' (refine aD ?_ ?_<;>intro _<;>try simp (disch:=first|assumption|omega) only[S0,rA,rQ,rB,rT,rE, *]))
 ·intro i hi aw
  have hb:InB leads (i:Int):=aU.2 hi;have hq:=hs4 _ (at_mem hi);unfold Faq Ma4;cases c1:lY n me (atI leads (i:Int))
  ·simp (disch:=first|assumption|omega) only[S0,rA,rQ,rB,rT,rE,aW,rU,aw,c1]
  by_cases h0:0<(i:Int)
  ·have d0:decide (0<(i:Int))=true:=by simpa using h0
   have jw:InB leads ((i:Int)-1):=by unfold InB;omega
   have hc:=Rbq (atI leads (i:Int)).rep (atI leads (i:Int)).no (atI leads ((i:Int)-1)).rep (atI leads ((i:Int)-1)).no;have l1:([(atI leads (i:Int)).rep,(atI leads (i:Int)).no]:List Int).length<=1099511627776:=by simp
   have l2:([(atI leads ((i:Int)-1)).rep,(atI leads ((i:Int)-1)).no]:List Int).length<=1099511627776:=by simp
   generalize hz:(decide ((atI leads (i:Int)).rep<(atI leads ((i:Int)-1)).rep)||((atI leads ((i:Int)-1)).rep==(atI leads (i:Int)).rep&&decide ((atI leads (i:Int)).no<=(atI leads ((i:Int)-1)).no)))=z at hc ⊢;cases z<;>simp (disch:=first|assumption|omega) only[S0,rA,rQ,rB,rT,rE,aW,Daz,rU,oC,aw,c1,d0,hc]
  ·have d0:decide (0<(i:Int))=false:=by simpa using h0
   simp (disch:=first|assumption|omega) only[S0,rA,rQ,rB,rT,rE,aW,rU,aw,c1,d0]
 ·intro aw
  simp (disch:=first|assumption|omega) only[S0,rA,rQ,rB,rT,rE,aw]
theorem tC (cD ev cx cG bm cw b5 b6 b7 aE:Int)(ar:(List Int))(bd:Int)(av:(List Int))(cY:Bool)(da:(List Int))(b4:(List bD))(h1:ar.length<=10000000000)(h2:av.length<=10000000000)(h3:da.length<=10000000000)(h4:xC b4):Fun T 101 [i64 cD,i64 ev,i64 cx,i64 cG,i64 bm,i64 cw,i64 b5,i64 b6,i64 b7,i64 aE,rL ar,i64 bd,rL av,.bool cY,rL da,rL b4]=some [i64 cD,i64 ev,i64 cx,i64 cG,i64 bm,i64 cw,i64 b5,i64 b6,i64 b7,i64 aE,rL ar,i64 bd,rL av,.bool cY,rL da,rL b4]:=by
 rw[aQ (t:=Za2) rfl];unfold Za2
 simp (disch:=first|assumption|omega) only[S0,rA,rQ,rB,rT,rE,lS,Aam,slices_Clone_int]
theorem yB (bl ae:Int)(aa:(List (List bD)))(aj:(List aR))(h1:mZ aa)(h2:nA aj):Fun T 95 [i64 bl,i64 ae,rL aa,rL aj]=some [i64 bl,i64 ae,rL aa,rL aj]:=by
 rw[aQ (t:=Ibx) rfl];unfold Ibx
 obtain⟨mn,jo⟩:=h2;simp (disch:=first|assumption|omega) only[S0,rA,rQ,rB,rT,rE,Ba3];rw[zZ aj.length (fun i=>[i64 i,rL (aj.take i)]) (.yield 1,[rL aj]) rfl (by simp)]
 ·simp (disch:=first|assumption|omega) only[S0,rA,rQ,rB,rT,rE]
 ·intro i hi aw
  have hb:InB aj (i:Int):=aU.2 hi;obtain⟨q1,q2,q3,q4⟩:=jo _ (at_mem hi);have ox:=take_at hi;have kn:(aj.take i).length+([atI aj (i:Int)]:List aR).length<=100000000000:=by rw[Sbn];simp only[Sbm,Tbb];omega
  simp (disch:=first|assumption|omega) only[S0,rA,rQ,rB,rT,rE,aW,Daz,nV,tC,aw,ox]
 ·intro aw
  rw[Tbv];simp (disch:=first|assumption|omega) only[S0,rA,rQ,rB,rT,rE,aw]
theorem Ea2 (n:Int)(h0:0<=n)(h1:n<=1000):Fun T 26 [i64 n]=some [i64 0,rL (Sbi n.toNat (0:Int))]:=by
 rw[aQ (t:=Fbo) rfl];unfold Fbo
 (refine aF ?_;repeat' (refine aD ?_ ?_<;>intro _<;>try simp (disch:=first|assumption|omega) only[S0,rA,rQ,rB,rT,rE,Dap, *]))
theorem Ea1 (n:Int)(rows:List (List bD))(aq bq a8 a6 a7:Int)(rep no:Int)(wh:0<=n)(q8:n<=1000)(hl:(rows.length:Int)<=n)(hs:mZ rows)(hc:lV ⟨aq,bq,a8,a6,a7⟩=true)(hr:∀ l∈rows,∀ r∈l,lV r.cmd=true/\r.attr.seq<=1000000):Fun T 45 [i64 n,rL rows,i64 aq,i64 bq,i64 a8,i64 a6,i64 a7,i64 rep,i64 no]=some [i64 (Caf ⟨n,rows⟩ ⟨aq,bq,a8,a6,a7⟩ rep no).seq,rL (Caf ⟨n,rows⟩ ⟨aq,bq,a8,a6,a7⟩ rep no).deps]:=by
 rw[aQ (t:=Kba) rfl];unfold Kba;unfold Caf
 have hq:∀ l∈rows,∀ r∈l,r.attr.seq<=1000000:=fun l h r h2=>(hr l h r h2).2
 have hK:=fun k hk=>Gau (t:=⟨n,rows⟩) (c:=⟨aq,bq,a8,a6,a7⟩) (rep:=rep) (no:=no) (M:=1000000) (by omega) k hk hq
 have gS:=hK rows.length (Sbg _);simp only at gS hK;generalize hC:(⟨aq,bq,a8,a6,a7⟩:kP)=C at hc hK gS ⊢;have e0:=Ea2 n wh q8;simp (disch:=first|assumption|omega) only[S0,rA,rQ,rB,rT,rE,e0];rw[zZ rows.length (fun k=>[i64 k,i64 (wS ⟨n,rows⟩ C rep no k).seq,rL (wS ⟨n,rows⟩ C rep no k).deps]) (.yield 1,[i64 (wS ⟨n,rows⟩ C rep no rows.length).seq,rL (wS ⟨n,rows⟩ C rep no rows.length).deps]) rfl (by simp)]
 ·simp (disch:=first|assumption|omega) only[S0,rA,rQ,rB,rT,rE]
 ·intro k hk aw
  have vp:InB rows (k:Int):=aU.2 hk;have zv:=(hs.2 _ (at_mem hk)).1;have pz:=hr _ (at_mem hk);obtain⟨a1,a2,a3⟩:=hK k (by omega);have eS:wS ⟨n,rows⟩ C rep no (k+1)=sK C rep no k (atI rows (k:Int)) (wS ⟨n,rows⟩ C rep no k) (atI rows (k:Int)).length:=rfl;rw[eS];generalize hL:atI rows (k:Int)=L at zv pz ⊢;generalize wS ⟨n,rows⟩ C rep no k=A at a1 a2 a3 ⊢;have hI:=fun i hi=>Gav (c:=C) (rep:=rep) (no:=no) (k:=k) (l:=L) (M:=1000000) a2 a3 i hi (fun r h=>(pz r h).2)
  simp (disch:=first|assumption|omega) only[S0,rA,rQ,rB,rT,rE,aW,aw,hL];rw[zZ L.length (fun i=>[i64 i,i64 (sK C rep no k L A i).seq,rL (sK C rep no k L A i).deps]) (.yield 3,[i64 (sK C rep no k L A L.length).seq,rL (sK C rep no k L A L.length).deps]) rfl (by simp)]
  ·simp (disch:=first|assumption|omega) only[S0,rA,rQ,rB,rT,rE]
  ·intro i hi lE
   have hbi:InB L (i:Int):=aU.2 hi;have qx:=(pz _ (at_mem hi)).1;obtain⟨b1,b2,b3⟩:=hI i (by omega)
   have eI:sK C rep no k L A (i+1)=if Pab C rep no k i (atI L (i:Int)) then sK C rep no k L A i
    else ⟨max (sK C rep no k L A i).seq (atI L (i:Int)).attr.seq,dI (sK C rep no k L A i).deps (k:Int) ((i:Int)+1)⟩:=rfl
   rw[eI];generalize hR:atI L (i:Int)=r at qx ⊢;generalize sK C rep no k L A i=B at b1 b2 b3 ⊢;have hbb:InB B.deps (k:Int):=by unfold InB;omega
   subst hC;have yy:=Dar aq bq a8 a6 a7 r.cmd.kind r.cmd.id r.cmd.src r.cmd.dst r.cmd.amt hc qx;have eR:(⟨r.cmd.kind,r.cmd.id,r.cmd.src,r.cmd.dst,r.cmd.amt⟩:kP)=r.cmd:=rfl;rw[eR]at yy;unfold Pab;cases c1:(r.state==0)
   rotate_left
   ·simp (disch:=first|assumption|omega) only[S0,rA,rQ,rB,rT,rE,aW,lE,hR,c1,Uby]
   cases c2:uS ⟨aq,bq,a8,a6,a7⟩ r.cmd
   ·rw[c2]at yy
    simp (disch:=first|assumption|omega) only[S0,rA,rQ,rB,rT,rE,aW,lE,hR,c1,yy,Tbf,Vbe,Uby]
   rw[c2]at yy;cases c3:((k:Int)==rep)
   ·simp (disch:=first|assumption|omega) only[S0,rA,rQ,rB,rT,rE,aW,lE,hR,c1,yy,c3,Sb3,Ubk,Ub7,Sbb,qI,Ea3]
   cases c4:((i:Int)+1==no)
   ·simp (disch:=first|assumption|omega) only[S0,rA,rQ,rB,rT,rE,aW,lE,hR,c1,yy,c3,c4,Sb3,Tb3,Ub7,Sbb,qI,Ea3]
   ·simp (disch:=first|assumption|omega) only[S0,rA,rQ,rB,rT,rE,aW,lE,hR,c1,yy,c3,c4,Sb3,Bool.and_true,Vbe,Sbb]
  ·intro lE
   simp (disch:=first|assumption|omega) only[S0,rA,rQ,rB,rT,rE,lE]
 ·intro aw
  simp (disch:=first|assumption|omega) only[S0,rA,rQ,rB,rT,rE,aw]
theorem Faw (dt fe fh fg gm cA dq cJ bt cz cm cq cn bw:Int)(ax:(List Int))(h:ax.length<=10000000000):Fun T 121 [i64 dt,i64 fe,i64 fh,i64 fg,i64 gm,i64 cA,i64 dq,i64 cJ,i64 bt,i64 cz,i64 cm,i64 cq,i64 cn,i64 bw,rL ax]=some [i64 dt,i64 fe,i64 fh,i64 fg,i64 gm,i64 cA,i64 dq,i64 cJ,i64 bt,i64 cz,i64 cm,i64 cq,i64 cn,i64 bw,rL ax]:=by
 rw[aQ (t:=Zak) rfl];unfold Zak
 simp (disch:=first|assumption|omega) only[S0,rA,rQ,rB,rT,rE,lS]
theorem Waz (me n:Int)(rows:List (List bD))(leads:List aR)(out:List iB):Fun T 122 [i64 me,i64 n,rL rows,rL leads,rL out,.bool false]=some [i64 me,i64 n,rL rows,rL leads,rL out,.bool true,i64 me,i64 n,.hole,.hole,.hole,.bool false]:=by
 rw[aQ (t:=Zaj) rfl];unfold Zaj
 simp (disch:=first|assumption|omega) only[S0,rA,rQ,rB,rT,rE]
theorem Nab (me n:Int)(rows:List (List bD))(leads:List aR)(hs:mZ rows)(h2:nA leads):Fun T 94 [i64 me,i64 n,rL rows,rL leads]=some [i64 me,i64 n,rL rows,rL leads,.rows 15 [],.bool false]:=by
 rw[aQ (t:=Iby) rfl];unfold Iby
 simp (disch:=first|assumption|omega) only[S0,rA,rQ,rB,rT,rE,yB]
theorem xB (cD ev cx cG bm cw b5 b6 b7 aE:Int)(ar:(List Int))(bd:Int)(av:(List Int))(cY:Bool)(da:(List Int))(b4:(List bD))(h1:ar.length<=10000000000)(h2:av.length<=10000000000)(h3:da.length<=10000000000)(h4:xC b4):Fun T 44 [i64 cD,i64 ev,i64 cx,i64 cG,i64 bm,i64 cw,i64 b5,i64 b6,i64 b7,i64 aE,rL ar,i64 bd,rL av,.bool cY,rL da,rL b4]=some [i64 cD,i64 ev,i64 cx,i64 cG,i64 bm,i64 cw,i64 b5,i64 b6,i64 b7,i64 aE,rL ar,i64 bd,rL av,.bool cY,rL da,rL b4]:=by
 rw[aQ (t:=Kbb) rfl];unfold Kbb
 obtain⟨qS,qb⟩:=h4;have h0:(.rows 10 []:D)=rL ([]:List bD):=rfl;simp (disch:=first|assumption|omega) only[S0,rA,rQ,rB,rT,rE,lD,Ha6];rw[zZ b4.length (fun i=>[rL (b4.take i),i64 i]) (.yield 1,[rL b4]) rfl (by simp)]
 ·simp (disch:=first|assumption|omega) only[S0,rA,rQ,rB,rT,rE]
 ·intro i hi aw
  have hb:InB b4 (i:Int):=aU.2 hi;have hd:=qb _ (at_mem hi);have ox:=take_at hi;have kn:(b4.take i).length+([atI b4 (i:Int)]:List bD).length<=100000000000:=by rw[Sbn];simp only[Sbm,Tbb];omega
  simp (disch:=first|assumption|omega) only[S0,rA,rQ,rB,rT,rE,aW,Daz,nV,qW,aw,ox]
 ·intro aw
  rw[Tbv];simp (disch:=first|assumption|omega) only[S0,rA,rQ,rB,rT,rE,aw]
theorem Waw (dt fe fh fg gm cA dq cJ bt cz cm cq cn bw:Int)(ax:(List Int))(dst me n:Int)(rows leads:D)(out:List iB)(bad:Bool)(h0:0<ax.length)(h:ax.length<=10000000000)(hl:out.length<=10000000000) :
  Fun T 120 [i64 dt,i64 fe,i64 fh,i64 fg,i64 gm,i64 cA,i64 dq,i64 cJ,i64 bt,i64 cz,i64 cm,i64 cq,i64 cn,i64 bw,rL ax,i64 dst,i64 me,i64 n,rows,leads,rL out,.bool bad]=some [i64 me,i64 n,rows,leads,rL (out++[Aba n me ⟨dt,fe,fh,fg,gm,cA,dq,cJ,⟨bt,cz,cm,cq,cn⟩,⟨bw,ax⟩⟩ dst]),.bool bad]:=by
 rw[aQ (t:=Zal) rfl];unfold Zal
 have hz:((ax.length:Int)==0)=false:=beq_eq_false_iff_ne.2 (by omega)
 have dk:aN.ne.run [rL ax]=some []:=by
  cases ax with
  |nil=>simp at h0
  |cons x xs=>rfl
 have hem:aN.emp.run [rL ax]=some [.bool false]:=by
  cases ax with
  |nil=>simp at h0
  |cons x xs=>rfl
 have kn:out.length+([Aba n me ⟨dt,fe,fh,fg,gm,cA,dq,cJ,⟨bt,cz,cm,cq,cn⟩,⟨bw,ax⟩⟩ dst]:List iB).length<=100000000000:=by simp only[Sbm,Tbb];omega
 unfold Aba at kn ⊢;simp only[hz]at kn ⊢;simp (disch:=first|assumption|omega) only[S0,rA,rQ,rB,rT,rE,dk,hem,Faw,Daz,nV]
theorem Ua1 (dt fe fh fg gm cA dq cJ bt cz cm cq cn bw:Int)(ax:(List Int))(dst me n:Int)(rows leads:D)(out:List iB)(gu:Bool)(h:ax.length<=10000000000)(hl:out.length<=10000000000)(hg:eP n=true) :
  Fun T 56 [i64 dst,i64 dt,i64 fe,i64 fh,i64 fg,i64 gm,i64 cA,i64 dq,i64 cJ,i64 bt,i64 cz,i64 cm,i64 cq,i64 cn,i64 bw,rL ax,i64 me,i64 n,rows,leads,rL out,.bool gu]=some [i64 me,i64 n,rows,leads,rL (out++[Aba n me ⟨dt,fe,fh,fg,gm,cA,dq,cJ,⟨bt,cz,cm,cq,cn⟩,⟨bw,ax⟩⟩ dst]),.bool gu]:=by
 rw[aQ (t:=Jbz) rfl];unfold Jbz
 have kn:out.length+([Aba n me ⟨dt,fe,fh,fg,gm,cA,dq,cJ,⟨bt,cz,cm,cq,cn⟩,⟨bw,ax⟩⟩ dst]:List iB).length<=100000000000:=by simp only[Sbm,Tbb];omega
 unfold Aba at kn ⊢
 have hr:(none0 n).deps.length<=10000000000:=by
  have:=bG hg;unfold none0;rw[Tbz];omega
 cases hz:((ax.length:Int)==0)
 ·simp only[hz]at kn ⊢
  simp (disch:=first|assumption|omega) only[S0,rA,rQ,rB,rT,rE,hz,lD,Daz,nV]
 ·simp only[hz,if_true]at kn ⊢
  simp (disch:=first|assumption|omega) only[S0,rA,rQ,rB,rT,rE,hz,qX,lD,Daz,nV]
theorem Nac (dt fe fh fg gm cA dq cJ bt cz cm cq cn bw:Int)(ax:(List Int))(me n:Int)(rows leads:D)(out:List iB)(bad:Bool)(h0:0<ax.length)(h:ax.length<=10000000000)(hl:out.length<=1000000000)(hn:0<=n/\n<=5) :
  Fun T 119 [i64 dt,i64 fe,i64 fh,i64 fg,i64 gm,i64 cA,i64 dq,i64 cJ,i64 bt,i64 cz,i64 cm,i64 cq,i64 cn,i64 bw,rL ax,i64 me,i64 n,rows,leads,rL out,.bool bad]=some [i64 me,i64 n,rows,leads,rL (out++Ga6 n me ⟨dt,fe,fh,fg,gm,cA,dq,cJ,⟨bt,cz,cm,cq,cn⟩,⟨bw,ax⟩⟩ n.toNat),.bool bad]:=by
 rw[aQ (t:=Zam) rfl];unfold Zam
 simp (disch:=first|assumption|omega) only[S0,rA,rQ,rB,rT,rE];rw[zZ n.toNat (fun i=>[i64 i,i64 me,i64 n,rows,leads,rL (out++Ga6 n me ⟨dt,fe,fh,fg,gm,cA,dq,cJ,⟨bt,cz,cm,cq,cn⟩,⟨bw,ax⟩⟩ i),.bool bad]) (.yield 1,[i64 me,i64 n,rows,leads,rL (out++Ga6 n me ⟨dt,fe,fh,fg,gm,cA,dq,cJ,⟨bt,cz,cm,cq,cn⟩,⟨bw,ax⟩⟩ n.toNat),.bool bad]) (by rw[show ∀ m,Ga6 n me m 0=[] from fun _=>rfl,Sbu];rfl) (by simp)]
 ·simp (disch:=first|assumption|omega) only[S0,rA,rQ,rB,rT,rE]
 ·intro i hi aw
  have od:decide ((i:Int)<n)=true:=by simp;omega
  have hal:=Eai n me ⟨dt,fe,fh,fg,gm,cA,dq,cJ,⟨bt,cz,cm,cq,cn⟩,⟨bw,ax⟩⟩ i;have nk:(out++Ga6 n me ⟨dt,fe,fh,fg,gm,cA,dq,cJ,⟨bt,cz,cm,cq,cn⟩,⟨bw,ax⟩⟩ i).length<=10000000000:=by rw[Rb8];omega
  rw[Ga0];cases k1:((i:Int)==me)
  ·simp (disch:=first|assumption|omega) only[S0,rA,rQ,rB,rT,rE,od,k1,Waw,Tbf,Rb3]
  ·simp (disch:=first|assumption|omega) only[S0,rA,rQ,rB,rT,rE,od,k1,Sb3,Sbu]
 ·intro aw
  have od:decide (((n.toNat:Nat):Int)<n)=false:=by simp;omega
  simp (disch:=first|assumption|omega) only[S0,rA,rQ,rB,rT,rE,od]
theorem Za8 (dt fe fh fg gm cA dq cJ bt cz cm cq cn bw:Int)(ax:(List Int))(me n:Int)(rows leads:D)(out:List iB)(gu:Bool)(h:ax.length<=10000000000)(hl:out.length<=1000000000)(hg:eP n=true) :
  Fun T 55 [i64 dt,i64 fe,i64 fh,i64 fg,i64 gm,i64 cA,i64 dq,i64 cJ,i64 bt,i64 cz,i64 cm,i64 cq,i64 cn,i64 bw,rL ax,i64 me,i64 n,rows,leads,rL out,.bool gu]=some [i64 me,i64 n,rows,leads,rL (out++Ga6 n me ⟨dt,fe,fh,fg,gm,cA,dq,cJ,⟨bt,cz,cm,cq,cn⟩,⟨bw,ax⟩⟩ n.toNat),.bool gu]:=by
 rw[aQ (t:=Jb0) rfl];unfold Jb0
 simp (disch:=first|assumption|omega) only[S0,rA,rQ,rB,rT,rE];have hn:=bG hg;rw[zZ n.toNat (fun i=>[i64 i,i64 me,i64 n,rows,leads,rL (out++Ga6 n me ⟨dt,fe,fh,fg,gm,cA,dq,cJ,⟨bt,cz,cm,cq,cn⟩,⟨bw,ax⟩⟩ i),.bool gu]) (.yield 1,[i64 me,i64 n,rows,leads,rL (out++Ga6 n me ⟨dt,fe,fh,fg,gm,cA,dq,cJ,⟨bt,cz,cm,cq,cn⟩,⟨bw,ax⟩⟩ n.toNat),.bool gu]) (by rw[show ∀ m,Ga6 n me m 0=[] from fun _=>rfl,Sbu];rfl) (by simp)]
 ·simp (disch:=first|assumption|omega) only[S0,rA,rQ,rB,rT,rE]
 ·intro i hi aw
  have od:decide ((i:Int)<n)=true:=by simp;omega
  have hal:=Eai n me ⟨dt,fe,fh,fg,gm,cA,dq,cJ,⟨bt,cz,cm,cq,cn⟩,⟨bw,ax⟩⟩ i;have nk:(out++Ga6 n me ⟨dt,fe,fh,fg,gm,cA,dq,cJ,⟨bt,cz,cm,cq,cn⟩,⟨bw,ax⟩⟩ i).length<=10000000000:=by rw[Rb8];omega
  rw[Ga0];cases k1:((i:Int)==me)
  ·simp (disch:=first|assumption|omega) only[S0,rA,rQ,rB,rT,rE,od,k1,Ua1,Tbf,Rb3]
  ·simp (disch:=first|assumption|omega) only[S0,rA,rQ,rB,rT,rE,od,k1,Sb3,Sbu]
 ·intro aw
  have od:decide (((n.toNat:Nat):Int)<n)=false:=by simp;omega
  simp (disch:=first|assumption|omega) only[S0,rA,rQ,rB,rT,rE,od]
theorem Za7 (me n:Int)(rows:List (List bD))(leads:List aR)(out:List iB)(gu:Bool)(hs:mZ rows)(h2:nA leads) :
  Fun T 57 [i64 me,i64 n,rL rows,rL leads,rL out,.bool gu]=some (if gu&&mF ⟨me,⟨n,rows⟩,leads⟩ then [i64 me,i64 n,rL rows,rL leads,rL out,.bool true] else [i64 0,i64 0,.rows 1 [],.rows 16 [],.rows 15 [],.bool false]):=by
 rw[aQ (t:=Fbn) rfl];unfold Fbn
 cases gu
 ·simp (disch:=first|assumption|omega) only[S0,rA,rQ,rB,rT,rE,Ubk,Sbb]
 ·cases hr:mF ⟨me,⟨n,rows⟩,leads⟩<;>simp (disch:=first|assumption|omega) only[S0,rA,rQ,rB,rT,rE,hr,dX,Ube,Sbb]
theorem Ua2 (me n rows leads out:D):Fun T 57 [me,n,rows,leads,out,.bool false]=some [i64 0,i64 0,.rows 1 [],.rows 16 [],.rows 15 [],.bool false]:=by
 rw[aQ (t:=Fbn) rfl];unfold Fbn
 simp (disch:=first|assumption|omega) only[S0,rA,rQ,rB,rT,rE,Tbf]
theorem yA (cD ev cx cG bm cw b5 b6 b7 aE:Int)(ar:(List Int))(bd:Int)(av:(List Int))(cY:Bool)(da:(List Int))(b4:(List bD))(a b:Int):Fun T 116 [i64 cD,i64 ev,i64 cx,i64 cG,i64 bm,i64 cw,i64 b5,i64 b6,i64 b7,i64 aE,rL ar,i64 bd,rL av,.bool cY,rL da,rL b4,rL [a,b]]=some [i64 (Bby [cD,ev] [a,b])]:=by
 rw[aQ (t:=Zan) rfl];unfold Zan
 have z:(aN.mk 1 2).run [i64 cD,i64 ev]=some [rL ([cD,ev]:List Int)]:=rfl;have h1:([cD,ev]:List Int).length<=1099511627776:=by simp
 have h2:([a,b]:List Int).length<=1099511627776:=by simp
 simp (disch:=first|assumption|omega) only[S0,rA,rQ,rB,rT,rE,z,oC]
theorem Dav (ls:List aR)(a b:Int)(hl:ls.length<=10000000000)(hs:tO ls) :
  Fun T 115 [rL ls,rL [a,b]]=some [i64 (qF (a,b) ls:Nat),.bool (Ras (a,b) ls)]:=by
 rw[aQ (t:=Zao) rfl];unfold Zao
 have hc:=Cac (a,b) ls
 have kb:∀ {j:Nat} (hj:j<ls.length),ltQ (lG (atI ls (j:Int))) (a,b)=decide (j<qF (a,b) ls):=by
  intro j hj;rw[bH hj];by_cases h:j<qF (a,b) ls
  ·rw[Cab h,decide_eq_true h]
  ·rw[Gaf hs hj (by omega),decide_eq_false h]
 simp (disch:=first|assumption|omega) only[S0,rA,rQ,rB,rT,rE];rw[Hap (T:=T) (γ:=Nat×Nat) (.yield 1,[i64 (qF (a,b) ls:Nat)]) (fun c=>c.2-c.1) (fun c=>c.1<=qF (a,b) ls/\qF (a,b) ls<=c.2/\c.2<=ls.length) (fun c=>[i64 (c.1:Nat),i64 (c.2:Nat)]) (0,ls.length) rfl ⟨by omega,hc,Sbg _⟩ (by simp)]
 ·have hh:=Pav (x:=(a,b)) hs
  by_cases hk:qF (a,b) ls<ls.length
  ·have aw:decide (((qF (a,b) ls:Nat):Int)<(ls.length:Int))=true:=by simpa using hk
   have hb:InB ls ((qF (a,b) ls:Nat):Int):=aU.2 hk;have he:=Eby (atI ls ((qF (a,b) ls:Nat):Int)) a b
   have hr:Ras (a,b) ls=(lG (atI ls ((qF (a,b) ls:Nat):Int))==(a,b)):=by
    rw[Bool.eq_iff_iff,hh,bH hk,beq_iff_eq];exact⟨fun ⟨_,h⟩=>h,fun h=>⟨hk,h⟩⟩
   rw[<- hr]at he;simp (disch:=first|assumption|omega) only[S0,rA,rQ,rB,rT,rE,aw,aW,yA,he]
  ·have aw:decide (((qF (a,b) ls:Nat):Int)<(ls.length:Int))=false:=by simpa using hk
   have hr:Ras (a,b) ls=false:=by
    cases h:Ras (a,b) ls with
    |false=>rfl
    |true=>exact absurd (hh.1 h).1 hk
   simp (disch:=first|assumption|omega) only[S0,rA,rQ,rB,rT,rE,aw,hr]
 ·rintro⟨i,j⟩ ⟨h1,h2,h3⟩
  simp only at h1 h2 h3;by_cases tq:i<j
  ·have hd:decide ((i:Int)<(j:Int))=true:=by simpa using tq
   obtain⟨u1,u2,u3⟩:=Fby (a:=(i:Int)+j) (by omega) (by omega);have hm:((i:Int)+j) / 2=(((i+j) / 2:Nat):Int):=by omega
   have vo:(i+j) / 2<ls.length:=by omega
   have hb:InB ls (((i+j) / 2:Nat):Int):=aU.2 vo;have aw:=Ebx (atI ls (((i+j) / 2:Nat):Int)) a b;rw[kb vo]at aw;rw[hm]at u2 u3;refine .inl ?_;by_cases h4:(i+j) / 2<qF (a,b) ls
   ·rw[decide_eq_true h4]at aw
    refine⟨((i+j) / 2+1,j),?_,⟨by simp only;omega,by simp only;omega,by simp only;omega⟩,by simp only;omega⟩;simp (disch:=first|assumption|omega) only[S0,rA,rQ,rB,rT,rE,hd,u1,u2,u3,aW,yA,aw]
   ·rw[decide_eq_false h4]at aw
    refine⟨(i,(i+j) / 2),?_,⟨by simp only;omega,by simp only;omega,by simp only;omega⟩,by simp only;omega⟩;simp (disch:=first|assumption|omega) only[S0,rA,rQ,rB,rT,rE,hd,u1,u2,u3,aW,yA,aw]
  ·have hd:decide ((i:Int)<(j:Int))=false:=by simpa using tq
   obtain rfl:i=qF (a,b) ls:=by omega
   refine .inr ?_;simp (disch:=first|assumption|omega) only[S0,rA,rQ,rB,rT,rE,hd]
theorem Bbt (ls:List aR)(k:Nat)(h:k<ls.length)(hl:ls.length<=10000000000):Fun T 117 [rL ls,i64 (k:Int),i64 ((k:Int)+1)]=some [rL (ls.take k++ls.drop (k+1))]:=by
 rw[Qag (e:=Cb0 16) rfl];exact Xar h hl
theorem Ab7 (ls:List aR)(k:Nat)(l:aR)(h:k<=ls.length)(hl:ls.length<=10000000000):Fun T 118 [rL ls,i64 (k:Int),rL [l]]=some [rL (ls.take k++l::ls.drop k)]:=by
 rw[Qag (e:=Cbt 16) rfl];exact Wav l h hl
theorem Fav (a b:Int)(me n rows out:D)(ls:List aR)(bad:D)(hl:ls.length<=10000000000)(hs:tO ls):Fun T 114 [i64 a,i64 b,me,n,rows,rL ls,out,bad]=some [i64 (qF (a,b) ls:Nat),.bool (Ras (a,b) ls)]:=by
 rw[aQ (t:=Zap) rfl];unfold Zap
 have z:(aN.mk 1 2).run [i64 a,i64 b]=some [rL ([a,b]:List Int)]:=rfl;simp (disch:=first|assumption|omega) only[S0,rA,rQ,rB,rT,rE,z,Dav]
theorem Wax (a b:Int)(me n rows out:D)(ls:List aR)(bad:D)(hl:ls.length<=10000000000)(hs:tO ls):Fun T 113 [i64 a,i64 b,me,n,rows,rL ls,out,bad]=some [me,n,rows,rL (mM (a,b) ls),out,bad]:=by
 rw[aQ (t:=Zaq) rfl];unfold Zaq
 cases h:Ras (a,b) ls
 ·rw[Bbp h]
  simp (disch:=first|assumption|omega) only[S0,rA,rQ,rB,rT,rE,Fav,h,Sbb]
 ·obtain⟨hk,-⟩:=(Pav hs).1 h
  rw[Bbq hs h];simp (disch:=first|assumption|omega) only[S0,rA,rQ,rB,rT,rE,Fav,h,Bbt]
theorem Bba (cD ev cx cG bm cw b5 b6 b7 aE:Int)(ar:(List Int))(bd:Int)(av:(List Int))(cY:Bool)(da:(List Int))(b4:(List bD))(me n rows out:D)(ls:List aR)(bad:D)(hl:ls.length<=1000000000)(hs:tO ls)(h1:ar.length<=10000000000)(h2:av.length<=10000000000)(h3:da.length<=10000000000)(h4:xC b4) :
  Fun T 112 [i64 cD,i64 ev,i64 cx,i64 cG,i64 bm,i64 cw,i64 b5,i64 b6,i64 b7,i64 aE,rL ar,i64 bd,rL av,.bool cY,rL da,rL b4,me,n,rows,rL ls,out,bad]=some [me,n,rows,rL (Mak ⟨cD,ev,cx,cG,⟨bm,cw,b5,b6,b7⟩,⟨aE,ar⟩,⟨bd,av⟩,cY,da,b4⟩ ls),out,bad]:=by
 rw[aQ (t:=Zar) rfl];unfold Zar
 have hd:=Aa2 (cD,ev) ls;have py:=Ba9 (x:=(cD,ev)) hs;have gf:=Cac (cD,ev) (mM (cD,ev) ls);unfold Mak lG;simp (disch:=first|assumption|omega) only[S0,rA,rQ,rB,rT,rE,Wax,Fav,tC,Daz,Ab7]
theorem Ua3 (a b:Int)(me n rows out:D)(ls:List aR)(gu:D)(hl:ls.length<=10000000000):Fun T 54 [i64 a,i64 b,me,n,rows,rL ls,out,gu]=some [me,n,rows,rL (mM (a,b) ls),out,gu]:=by
 rw[aQ (t:=Jb1) rfl];unfold Jb1
 simp (disch:=first|assumption|omega) only[S0,rA,rQ,rB,rT,rE];rw[zZ ls.length (fun i=>[rL (mM (a,b) (ls.take i)),i64 i]) (.yield 1,[rL (mM (a,b) ls)]) rfl (by simp)]
 ·simp (disch:=first|assumption|omega) only[S0,rA,rQ,rB,rT,rE]
 ·intro i hi aw
  have hb:InB ls (i:Int):=aU.2 hi;have rk:=Aa2 (a,b) (ls.take i);rw[Sbn]at rk;have kn:(mM (a,b) (ls.take i)).length+([atI ls (i:Int)]:List aR).length<=100000000000:=by simp only[Sbm,Tbb];omega
  have hft:mM (a,b) (ls.take (i+1))=mM (a,b) (ls.take i)++if !(lG (atI ls (i:Int))==(a,b)) then [atI ls (i:Int)] else []:=Bbc hi
  rw[hft];have hk:(lG (atI ls (i:Int))==(a,b))=((atI ls (i:Int)).rep==a&&(atI ls (i:Int)).no==b):=rfl;rw[hk];cases k1:(atI ls (i:Int)).rep==a
  ·simp (disch:=first|assumption|omega) only[S0,rA,rQ,rB,rT,rE,aW,Daz,nV,aw,k1,Ubk,Tbf]
  ·cases k2:(atI ls (i:Int)).no==b
   ·simp (disch:=first|assumption|omega) only[S0,rA,rQ,rB,rT,rE,aW,Daz,nV,aw,k1,k2,Tb3,Tbf,Sb3]
   ·simp (disch:=first|assumption|omega) only[S0,rA,rQ,rB,rT,rE,aW,Daz,nV,aw,k1,k2,Bool.and_self,Sb3,Sbb,Sbu]
 ·intro aw
  rw[Tbv];simp (disch:=first|assumption|omega) only[S0,rA,rQ,rB,rT,rE,aw]
theorem Za5 (rep no:Int)(ct cV cy bh ca bn bp bo bk:Int)(az:(List Int))(me n:Int)(rows:List (List bD))(leads out:D)(gu:Bool)(hg:eP n=true)(hl:(rows.length:Int)=n)(hs:mZ rows)(hb:InB rows rep)(h1:1<=no)(h2:no<=1000)(hx:az.length<=10000000000) :
  Fun T 51 [i64 rep,i64 no,i64 ct,i64 cV,i64 cy,i64 bh,i64 ca,i64 bn,i64 bp,i64 bo,i64 bk,rL az,i64 me,i64 n,rL rows,leads,out,.bool gu]=some [i64 me,i64 (Cam ⟨n,rows⟩ rep no ⟨ct,cV,cy,⟨bh,ca,bn,bp,bo⟩,⟨bk,az⟩⟩).n,rL (Cam ⟨n,rows⟩ rep no ⟨ct,cV,cy,⟨bh,ca,bn,bp,bo⟩,⟨bk,az⟩⟩).rows,leads,out,.bool (gu&&rowOk n ⟨ct,cV,cy,⟨bh,ca,bn,bp,bo⟩,⟨bk,az⟩⟩)]:=by
 rw[aQ (t:=Jb4) rfl];unfold Jb4
 have tz:az.length<=1099511627776:=by omega
 cases gu
 ·simp (disch:=first|assumption|omega) only[S0,rA,rQ,rB,rT,rE,Ha4,Ubk]
 ·simp (disch:=first|assumption|omega) only[S0,rA,rQ,rB,rT,rE,vX,Ha4,Ube]
theorem Ha3 (bl ae:Int)(aa:(List (List bD)))(aj:(List aR))(hg:eP ae=true)(hl:(aa.length:Int)=ae)(h1:mZ aa)(h2:nA aj):Fun T 38 [i64 bl,i64 ae,rL aa,rL aj]=some [i64 bl,i64 ae,rL aa,rL aj]:=by
 rw[aQ (t:=Kbh) rfl];unfold Kbh
 obtain⟨mn,jo⟩:=h2;simp (disch:=first|assumption|omega) only[S0,rA,rQ,rB,rT,rE,Ha5];rw[zZ aj.length (fun i=>[i64 i,rL (aj.take i)]) (.yield 1,[rL aj]) rfl (by simp)]
 ·simp (disch:=first|assumption|omega) only[S0,rA,rQ,rB,rT,rE]
 ·intro i hi aw
  have hb:InB aj (i:Int):=aU.2 hi;obtain⟨q1,q2,q3,q4⟩:=jo _ (at_mem hi);have ox:=take_at hi;have kn:(aj.take i).length+([atI aj (i:Int)]:List aR).length<=100000000000:=by rw[Sbn];simp only[Sbm,Tbb];omega
  simp (disch:=first|assumption|omega) only[S0,rA,rQ,rB,rT,rE,aW,Daz,nV,xB,aw,ox]
 ·intro aw
  rw[Tbv];simp (disch:=first|assumption|omega) only[S0,rA,rQ,rB,rT,rE,aw]
theorem Za6 (cD ev cx cG bm cw b5 b6 b7 aE:Int)(ar:(List Int))(bd:Int)(av:(List Int))(cY:Bool)(da:(List Int))(b4:(List bD))(me n rows out:D)(ls:List aR)(gu:D)(hl:ls.length<=1000000000)(hs:tO ls)(h1:ar.length<=10000000000)(h2:av.length<=10000000000)(h3:da.length<=10000000000)(h4:xC b4) :
  Fun T 53 [i64 cD,i64 ev,i64 cx,i64 cG,i64 bm,i64 cw,i64 b5,i64 b6,i64 b7,i64 aE,rL ar,i64 bd,rL av,.bool cY,rL da,rL b4,me,n,rows,rL ls,out,gu]=some [me,n,rows,rL (Mak ⟨cD,ev,cx,cG,⟨bm,cw,b5,b6,b7⟩,⟨aE,ar⟩,⟨bd,av⟩,cY,da,b4⟩ ls),out,gu]:=by
 rw[aQ (t:=Jb2) rfl];unfold Jb2
 have hd:=Aa2 (cD,ev) ls;have py:=Ba9 (x:=(cD,ev)) hs;have gf:=Cac (cD,ev) (mM (cD,ev) ls);unfold Mak lG;simp (disch:=first|assumption|omega) only[S0,rA,rQ,rB,rT,rE,Ua3];generalize mM (cD,ev) ls=ds at *;generalize hC:qF (cD,ev) ds=C at *;rw[Hap (T:=T) (γ:=Nat) (.yield 1,[i64 (C:Nat)]) (fun k=>ds.length-k) (fun k=>k<=C) (fun k=>[i64 (k:Nat)]) 0 rfl (by omega) (by simp)]
 ·have z0:(aN.mk 16 0).run []=some [rL ([]:List aR)]:=rfl
  have ka:(ds.take C).length+([⟨cD,ev,cx,cG,⟨bm,cw,b5,b6,b7⟩,⟨aE,ar⟩,⟨bd,av⟩,cY,da,b4⟩]:List aR).length<=100000000000:=by rw[Sbn];simp only[Sbm,Tbb];omega
  have lf:(ds.take C++([⟨cD,ev,cx,cG,⟨bm,cw,b5,b6,b7⟩,⟨aE,ar⟩,⟨bd,av⟩,cY,da,b4⟩]:List aR)).length+(ds.drop C).length<=100000000000:=by rw[Rb8,Sbn,Sb8];simp only[Sbm,Tbb];omega
  have s1:(aN.sub 16 false).run [rL ds,i64 (C:Int),i64 (ds.length:Int)]=some [rL (ds.drop C)]:=by
   simp (disch:=omega) only[Yaj];simp
  have s2:(aN.sub 16 false).run [rL ds,i64 0,i64 (C:Int)]=some [rL (ds.take C)]:=by
   simp (disch:=omega) only[Yaj];simp
  have hl3:([]:List aR).length+(ds.drop C).length<=100000000000:=by rw[Sb8];simp only[Tbb];omega
  have hl4:([]:List aR).length+(ds.take C).length<=100000000000:=by rw[Sbn];simp only[Tbb];omega
  simp (disch:=first|assumption|omega) only[S0,rA,rQ,rB,rT,rE,z0,s1,s2,nV,Daz,xB,Tba,Rb3,List.singleton_append]
 ·intro k hk
  by_cases pZ:k<ds.length
  ·have aw:decide ((k:Int)<(ds.length:Int))=true:=by simpa using pZ
   have hb:InB ds (k:Int):=aU.2 pZ;have hq:ltQ (lG (atI ds (k:Int))) (cD,ev)=(decide ((atI ds (k:Int)).rep<cD)||((atI ds (k:Int)).rep==cD&&decide ((atI ds (k:Int)).no<ev))):=rfl;by_cases hkC:k<C
   ·have:=Cab (x:=(cD,ev)) (ls:=ds) (k:=k) (by omega)
    rw[<- bH pZ,hq]at this;refine .inl ⟨k+1,?_,by omega,by omega⟩;cases c1:decide ((atI ds (k:Int)).rep<cD)
    ·rw[c1,Tby,Rbu]at this
     obtain⟨c2,c3⟩:=this;simp (disch:=first|assumption|omega) only[S0,rA,rQ,rB,rT,rE,aw,aW,c1,c2,c3]
    ·simp (disch:=first|assumption|omega) only[S0,rA,rQ,rB,rT,rE,aw,aW,c1]
   ·have:=Gaf (x:=(cD,ev)) py pZ (by omega)
    rw[<- bH pZ,hq,Vbb]at this;obtain⟨c1,c2⟩:=this;obtain rfl:k=C:=by omega
    refine .inr ?_;cases c3:(atI ds (k:Int)).rep==cD
    ·simp (disch:=first|assumption|omega) only[S0,rA,rQ,rB,rT,rE,aw,aW,c1,c3]
    ·rw[c3,Ube]at c2
     simp (disch:=first|assumption|omega) only[S0,rA,rQ,rB,rT,rE,aw,aW,c1,c3,c2]
  ·have aw:decide ((k:Int)<(ds.length:Int))=false:=by simpa using pZ
   obtain rfl:k=C:=by omega
   refine .inr ?_;simp (disch:=first|assumption|omega) only[S0,rA,rQ,rB,rT,rE,aw]
theorem Ha7 (rep no b:Int)(aq bq a8 a6 a7:Int)(kc:Int)(ga:(List Int))(me n:Int)(rows:List (List bD))(ls:List aR)(out:List iB)(gu:Bool)(hg:eP n=true)(tk:(rows.length:Int)=n)(tW:mZ rows)(hb:InB rows rep)(g1:1<=no)(g2:no<=1000)(hl:ls.length<=1000000000)(ho:out.length<=1000000000)(hs:tO ls)(h2:ga.length<=10000000000) :
  Fun T 50 [i64 rep,i64 no,i64 b,i64 aq,i64 bq,i64 a8,i64 a6,i64 a7,i64 kc,rL ga,i64 me,i64 n,rL rows,rL ls,rL out,.bool gu]=some [i64 me,i64 n,rL (Cam ⟨n,rows⟩ rep no (qH b ⟨aq,bq,a8,a6,a7⟩ ⟨kc,ga⟩)).rows,rL (Mak (pF me rep no b ⟨aq,bq,a8,a6,a7⟩ ⟨kc,ga⟩) ls),rL (out++Ga6 n me (Dan rep no b ⟨aq,bq,a8,a6,a7⟩ ⟨kc,ga⟩) n.toNat),.bool (gu&&rowOk n (qH b ⟨aq,bq,a8,a6,a7⟩ ⟨kc,ga⟩))]:=by
 rw[aQ (t:=Jb5) rfl];unfold Jb5
 unfold qH pF Dan;have z1:(aN.mk 1 1).run [i64 me]=some [rL ([me]:List Int)]:=rfl;have z2:(.rows 10 []:D)=rL ([]:List bD):=rfl;have z3:xC []:=⟨by simp,by simp⟩;have z4:([me]:List Int).length<=10000000000:=by simp
 have tN:∀ r,(Cam ⟨n,rows⟩ rep no r).n=n:=fun _=>rfl
 simp (disch:=first|assumption|omega) only[S0,rA,rQ,rB,rT,rE,Za5,tN,z1,z2,Za6,Za8]
theorem Nae (rep no b:Int)(aq bq a8 a6 a7:Int)(kc:Int)(ga:(List Int))(me n:Int)(rows:List (List bD))(ls:List aR)(out:List iB)(bad:Bool)(hg:eP n=true)(tW:mZ rows)(hb:InB rows rep)(g1:1<=no)(g2:no<=1000)(hl:ls.length<=1000000000)(ho:out.length<=1000000000)(hs:tO ls)(h0:0<ga.length)(h2:ga.length<=10000000000) :
  Fun T 110 [i64 rep,i64 no,i64 b,i64 aq,i64 bq,i64 a8,i64 a6,i64 a7,i64 kc,rL ga,i64 me,i64 n,rL rows,rL ls,rL out,.bool bad]=some [i64 me,i64 n,rL (Cam ⟨n,rows⟩ rep no (qH b ⟨aq,bq,a8,a6,a7⟩ ⟨kc,ga⟩)).rows,rL (Mak (pF me rep no b ⟨aq,bq,a8,a6,a7⟩ ⟨kc,ga⟩) ls),rL (out++Ga6 n me (Dan rep no b ⟨aq,bq,a8,a6,a7⟩ ⟨kc,ga⟩) n.toNat),.bool bad]:=by
 rw[aQ (t:=Zat) rfl];unfold Zat
 unfold qH pF Dan;have hn:=bG hg;have hn2:0<=n/\n<=5:=by omega
 have z1:(aN.mk 1 1).run [i64 me]=some [rL ([me]:List Int)]:=rfl;have z2:(.rows 10 []:D)=rL ([]:List bD):=rfl;have z3:xC []:=⟨by simp,by simp⟩;have z4:([me]:List Int).length<=10000000000:=by simp
 have tN:∀ r,(Cam ⟨n,rows⟩ rep no r).n=n:=fun _=>rfl
 simp (disch:=first|assumption|omega) only[S0,rA,rQ,rB,rT,rE,Hai,tN,z1,z2,Bba,Nac]
theorem xK (k i:Nat)(ct cV cy bh ca bn bp bo bk:Int)(az:(List Int))(rep no:Int)(aq bq a8 a6 a7:Int)(seq:Int)(deps:List Int)(hb:InB deps (k:Int))(hd:atI deps (k:Int)<=i) :
  Fun T 104 [i64 k,i64 ((i:Int)+1),i64 ct,i64 cV,i64 cy,i64 bh,i64 ca,i64 bn,i64 bp,i64 bo,i64 bk,rL az,i64 rep,i64 no,i64 aq,i64 bq,i64 a8,i64 a6,i64 a7,i64 seq,rL deps]=some (if Pab ⟨aq,bq,a8,a6,a7⟩ rep no k i ⟨ct,cV,cy,⟨bh,ca,bn,bp,bo⟩,⟨bk,az⟩⟩ then [i64 seq,rL deps] else [i64 (max seq bk),rL (dI deps (k:Int) ((i:Int)+1))]):=by
 rw[aQ (t:=Zaz) rfl];unfold Zaz
 unfold Pab;simp only;have hm:max (atI deps (k:Int)) ((i:Int)+1)=(i:Int)+1:=by omega
 rw[Pat];cases c1:(k:Int)==rep
 ·cases c3:cy==0
  ·cases c4:uS ⟨bh,ca,bn,bp,bo⟩ ⟨aq,bq,a8,a6,a7⟩
   ·simp (disch:=first|assumption|omega) only[S0,rA,rQ,rB,rT,rE,c1,c3,c4,lH,bne,Tbf,Sb3,Uby,Tby,Ubk,Ub7]
   ·simp (disch:=first|assumption|omega) only[S0,rA,rQ,rB,rT,rE,c1,c3,c4,lH,bne,Tbf,Sb3,Uby,Tby,Ubk,Ub7,Sbb,aW,qI,hm]
  ·simp (disch:=first|assumption|omega) only[S0,rA,rQ,rB,rT,rE,c1,c3,bne,Tbf,Sb3,Uby]
 ·cases c2:(i:Int)+1==no
  ·cases c3:cy==0
   ·cases c4:uS ⟨bh,ca,bn,bp,bo⟩ ⟨aq,bq,a8,a6,a7⟩
    ·simp (disch:=first|assumption|omega) only[S0,rA,rQ,rB,rT,rE,c1,c2,c3,c4,lH,bne,Tbf,Sb3,Uby,Tby,Ubk,Tb3,Ub7]
    ·simp (disch:=first|assumption|omega) only[S0,rA,rQ,rB,rT,rE,c1,c2,c3,c4,lH,bne,Tbf,Sb3,Uby,Tby,Ubk,Tb3,Ub7,Sbb,aW,qI,hm]
   ·simp (disch:=first|assumption|omega) only[S0,rA,rQ,rB,rT,rE,c1,c2,c3,bne,Tbf,Sb3,Uby]
  ·simp (disch:=first|assumption|omega) only[S0,rA,rQ,rB,rT,rE,c1,c2,bne,Tbf,Sb3,Uby,Vbe,Bool.and_self]
theorem Ba2 (n:Int)(rows:List (List bD))(rep no:Int)(aq bq a8 a6 a7:Int)(tk:rows.length<=n.toNat)(hs:mZ rows) :
  Fun T 103 [i64 n,rL rows,i64 rep,i64 no,i64 aq,i64 bq,i64 a8,i64 a6,i64 a7,i64 0,rL (Sbi n.toNat (0:Int))]=some [i64 (wS ⟨n,rows⟩ ⟨aq,bq,a8,a6,a7⟩ rep no rows.length).seq,rL (wS ⟨n,rows⟩ ⟨aq,bq,a8,a6,a7⟩ rep no rows.length).deps]:=by
 rw[aQ (t:=Za0) rfl];unfold Za0
 have hlen:∀ k,(wS ⟨n,rows⟩ ⟨aq,bq,a8,a6,a7⟩ rep no k).deps.length=n.toNat:=by
  intro k
  induction k with
  |zero=>simp[wS]
  |succ k ih=>unfold wS;rw[Bae];exact ih
 generalize hC:(⟨aq,bq,a8,a6,a7⟩:kP)=C at hlen ⊢;have mn:=hs.1;simp (disch:=first|assumption|omega) only[S0,rA,rQ,rB,rT,rE];rw[zZ rows.length (fun k=>[i64 k,i64 (wS ⟨n,rows⟩ C rep no k).seq,rL (wS ⟨n,rows⟩ C rep no k).deps]) (.yield 1,[i64 (wS ⟨n,rows⟩ C rep no rows.length).seq,rL (wS ⟨n,rows⟩ C rep no rows.length).deps]) rfl (by simp)]
 ·simp (disch:=first|assumption|omega) only[S0,rA,rQ,rB,rT,rE]
 ·intro k hk aw
  have vp:InB rows (k:Int):=aU.2 hk;have zv:=(hs.2 _ (at_mem hk)).1;have hz:=Oad (t:=⟨n,rows⟩) (c:=C) (rep:=rep) (no:=no) k k (Sbg _) (by simp only;omega);have hbA:InB (wS ⟨n,rows⟩ C rep no k).deps (k:Int):=by unfold InB;rw[hlen];omega
  have eS:wS ⟨n,rows⟩ C rep no (k+1)=sK C rep no k (atI rows (k:Int)) (wS ⟨n,rows⟩ C rep no k) (atI rows (k:Int)).length:=rfl;rw[eS];generalize hL:atI rows (k:Int)=L at zv ⊢;generalize wS ⟨n,rows⟩ C rep no k=A at hz hbA ⊢;have hI:=fun i=>Yag (c:=C) (rep:=rep) (no:=no) (l:=L) hbA (by omega) i
  have hJ:∀ i,InB (sK C rep no k L A i).deps (k:Int):=fun i=>by unfold InB at hbA ⊢;rw[Bae];exact hbA
  simp (disch:=first|assumption|omega) only[S0,rA,rQ,rB,rT,rE,aW,aw,hL];rw[zZ L.length (fun i=>[i64 i,i64 (sK C rep no k L A i).seq,rL (sK C rep no k L A i).deps]) (.yield 3,[i64 (sK C rep no k L A L.length).seq,rL (sK C rep no k L A L.length).deps]) rfl (by simp)]
  ·simp (disch:=first|assumption|omega) only[S0,rA,rQ,rB,rT,rE]
  ·intro i hi lE
   have hbi:InB L (i:Int):=aU.2 hi;have h1:=hI i;have h2:=hJ i
   have eI:sK C rep no k L A (i+1)=if Pab C rep no k i (atI L (i:Int)) then sK C rep no k L A i
     else ⟨max (sK C rep no k L A i).seq (atI L (i:Int)).attr.seq,dI (sK C rep no k L A i).deps (k:Int) ((i:Int)+1)⟩:=rfl
   rw[eI];subst hC;generalize sK ⟨aq,bq,a8,a6,a7⟩ rep no k L A i=B at h1 h2 ⊢;cases c0:Pab ⟨aq,bq,a8,a6,a7⟩ rep no k i (atI L (i:Int))
   ·simp (disch:=first|assumption|omega) only[S0,rA,rQ,rB,rT,rE,aW,lE,xK,c0,Sbb]
   ·simp (disch:=first|assumption|omega) only[S0,rA,rQ,rB,rT,rE,aW,lE,xK,c0]
  ·intro lE
   simp (disch:=first|assumption|omega) only[S0,rA,rQ,rB,rT,rE,lE]
 ·intro aw
  simp (disch:=first|assumption|omega) only[S0,rA,rQ,rB,rT,rE,aw]
theorem Ca7 (n:Int)(rows:List (List bD))(aq bq a8 a6 a7:Int)(rep no:Int)(ht:fD ⟨n,rows⟩=true)(hs:mZ rows) :
  Fun T 102 [i64 n,rL rows,i64 aq,i64 bq,i64 a8,i64 a6,i64 a7,i64 rep,i64 no]=some [i64 (Caf ⟨n,rows⟩ ⟨aq,bq,a8,a6,a7⟩ rep no).seq,rL (Caf ⟨n,rows⟩ ⟨aq,bq,a8,a6,a7⟩ rep no).deps,.bool (decide ((Caf ⟨n,rows⟩ ⟨aq,bq,a8,a6,a7⟩ rep no).seq<=999))]:=by
 rw[aQ (t:=Za1) rfl];unfold Za1
 have hg:eP n=true:=bZ ht;have hl:(rows.length:Int)=n:=iO ht;have hle:rows.length<=n.toNat:=by omega
 obtain⟨a1,a2,a3,a4⟩:=Gat (c:=⟨aq,bq,a8,a6,a7⟩) (rep:=rep) (no:=no) ht;have hz:(none0 n).seq=0/\(none0 n).deps=Sbi n.toNat 0:=⟨rfl,rfl⟩;unfold Caf at a2 a3 ⊢;simp only at a2 a3;simp (disch:=first|assumption|omega) only[S0,rA,rQ,rB,rT,rE,eQ,hz.1,hz.2,Ba2]
theorem Jas (bl ae:Int)(aa:(List (List bD)))(aj:(List aR))(aq bq a8 a6 a7:Int)(hs:mZ aa)(h2:nA aj)(hl:aj.length<=2000000):Fun T 20 [i64 bl,i64 ae,rL aa,rL aj,i64 aq,i64 bq,i64 a8,i64 a6,i64 a7]=some [i64 (bK ⟨bl,⟨ae,aa⟩,aj⟩ ⟨aq,bq,a8,a6,a7⟩).1.me,i64 (bK ⟨bl,⟨ae,aa⟩,aj⟩ ⟨aq,bq,a8,a6,a7⟩).1.table.n,rL (bK ⟨bl,⟨ae,aa⟩,aj⟩ ⟨aq,bq,a8,a6,a7⟩).1.table.rows,rL (bK ⟨bl,⟨ae,aa⟩,aj⟩ ⟨aq,bq,a8,a6,a7⟩).1.leads,rL (bK ⟨bl,⟨ae,aa⟩,aj⟩ ⟨aq,bq,a8,a6,a7⟩).2.1,.bool (bK ⟨bl,⟨ae,aa⟩,aj⟩ ⟨aq,bq,a8,a6,a7⟩).2.2]:=by
 rw[aQ (t:=Kby) rfl];unfold Kby
 have zD:(.rows 15 []:D)=rL ([]:List iB):=rfl;cases c1:mF ⟨bl,⟨ae,aa⟩,aj⟩
 ·have hR:bK ⟨bl,⟨ae,aa⟩,aj⟩ ⟨aq,bq,a8,a6,a7⟩=Uak:=by unfold bK sbB;rw[c1];rfl
  rw[hR];simp (disch:=first|assumption|omega) only[S0,rA,rQ,rB,rT,rE,dX,c1,Tbf,zD];rfl
 have ht:=pV c1;have hg:=bZ ht;have hn:=bG hg;have tk:=iO ht;have tW:=Iaf c1;have hme:=Eac c1;simp only at ht hg hn tk tW hme;cases c2:lV ⟨aq,bq,a8,a6,a7⟩
 ·have hR:bK ⟨bl,⟨ae,aa⟩,aj⟩ ⟨aq,bq,a8,a6,a7⟩=Uak:=by unfold bK sbB;rw[c2,Tb3];rfl
  rw[hR];simp (disch:=first|assumption|omega) only[S0,rA,rQ,rB,rT,rE,dX,c1,eY,c2,Sb3,Tbf,zD];rfl
 cases c3:aq==0
 rotate_left
 ·have hR:bK ⟨bl,⟨ae,aa⟩,aj⟩ ⟨aq,bq,a8,a6,a7⟩=Uak:=by unfold bK sbB;simp only;rw[c3,Sb3,Tb3];rfl
  rw[hR];simp (disch:=first|assumption|omega) only[S0,rA,rQ,rB,rT,rE,dX,c1,eY,c2,c3,Sb3,zD];rfl
 have hbm:InB aa bl:=by unfold InB;omega
 cases c4:decide (((atI aa bl).length:Int)<6)
 ·have hR:bK ⟨bl,⟨ae,aa⟩,aj⟩ ⟨aq,bq,a8,a6,a7⟩=Uak:=by unfold bK sbB;simp only;rw[c4,Tb3];rfl
  rw[hR]
  have c5:decide ((6:Int)<=((atI aa bl).length:Int))=true:=by
   rw[decide_eq_false_iff_not]at c4;rw[decide_eq_true_iff];omega
  simp (disch:=first|assumption|omega) only[S0,rA,rQ,rB,rT,rE,dX,c1,eY,c2,c3,aW,c5,Sb3,Tbf,zD];rfl
 have c5:decide ((6:Int)<=((atI aa bl).length:Int))=false:=by
  rw[decide_eq_true_iff]at c4;rw[decide_eq_false_iff_not];omega
 obtain⟨hi,-⟩:=Faa c1 (of_decide_eq_true c4);have yc:=(Eag hi).1;have hi2:=(Eag hi).2;obtain⟨a1,a2,a3,a4⟩:=Gat (c:=⟨aq,bq,a8,a6,a7⟩) (rep:=bl) (no:=Bak ⟨bl,⟨ae,aa⟩,aj⟩) ht;have a5m:(Caf ⟨ae,aa⟩ ⟨aq,bq,a8,a6,a7⟩ bl (Bak ⟨bl,⟨ae,aa⟩,aj⟩)).deps.length<=10000000000:=by rw[a1];simp only;omega
 have ql:=Yae (c:=⟨aq,bq,a8,a6,a7⟩) (c':=⟨aq,bq,a8,a6,a7⟩) (rep:=bl) (no:=Bak ⟨bl,⟨ae,aa⟩,aj⟩) (b:=0) ht (by decide) c2;have hrw:∀ l∈aa,∀ r∈l,lV r.cmd=true/\r.attr.seq<=1000000:=fun l hl r hr=>⟨Vad ((iG ht hl).2 r hr),by have:=Fac ((iG ht hl).2 r hr);omega⟩
 have eN:((atI aa bl).length:Int)+1=Bak ⟨bl,⟨ae,aa⟩,aj⟩:=rfl;have wh:0<=ae:=by omega
 have q8:ae<=1000:=by omega
 have hlr2:(aa.length:Int)<=ae:=by omega
 have z9:([]:List iB).length<=1000000000:=by simp
 simp only at yc hi2 ql;have pj:=Rad (pF bl bl (Bak ⟨bl,⟨ae,aa⟩,aj⟩) 0 ⟨aq,bq,a8,a6,a7⟩ (sbA ⟨bl,⟨ae,aa⟩,aj⟩ ⟨aq,bq,a8,a6,a7⟩)) aj;cases c6:decide ((sbA ⟨bl,⟨ae,aa⟩,aj⟩ ⟨aq,bq,a8,a6,a7⟩).seq<=999)
 ·have hR:bK ⟨bl,⟨ae,aa⟩,aj⟩ ⟨aq,bq,a8,a6,a7⟩=Uak:=by unfold bK sbB;rw[c6,Tb3];rfl
  rw[hR];unfold sbA at c6;simp only at c6;rw[c6]at ql;simp (disch:=first|assumption|omega) only[S0,rA,rQ,rB,rT,rE,dX,c1,eY,c2,c3,aW,c5,Sb3,zD,Ha3,eN,Ea1,Ha7,ql,Ube,Ua2];rfl
 ·have hB:sbB ⟨bl,⟨ae,aa⟩,aj⟩ ⟨aq,bq,a8,a6,a7⟩=true:=by unfold sbB;simp only;rw[c1,c2,c3,c4,c6];rfl
  have hR:bK ⟨bl,⟨ae,aa⟩,aj⟩ ⟨aq,bq,a8,a6,a7⟩=(⟨bl,Cam ⟨ae,aa⟩ bl (Bak ⟨bl,⟨ae,aa⟩,aj⟩) (qH 0 ⟨aq,bq,a8,a6,a7⟩ (sbA ⟨bl,⟨ae,aa⟩,aj⟩ ⟨aq,bq,a8,a6,a7⟩)),Mak (pF bl bl (Bak ⟨bl,⟨ae,aa⟩,aj⟩) 0 ⟨aq,bq,a8,a6,a7⟩ (sbA ⟨bl,⟨ae,aa⟩,aj⟩ ⟨aq,bq,a8,a6,a7⟩)) aj⟩,Ga6 ae bl (Dan bl (Bak ⟨bl,⟨ae,aa⟩,aj⟩) 0 ⟨aq,bq,a8,a6,a7⟩ (sbA ⟨bl,⟨ae,aa⟩,aj⟩ ⟨aq,bq,a8,a6,a7⟩)) ae.toNat,true):=by unfold bK;rw[hB];rfl
  rw[hR];have np:=Cb6 (me:=bl) (ls:=aj) (ballot:=0) (t:=⟨ae,aa⟩) (rep:=bl) (no:=Bak ⟨bl,⟨ae,aa⟩,aj⟩) (c:=⟨aq,bq,a8,a6,a7⟩) (a:=sbA ⟨bl,⟨ae,aa⟩,aj⟩ ⟨aq,bq,a8,a6,a7⟩) c1 hi (by decide) (by unfold sbA at c6 ⊢;rw[a4];exact c6) c2;have zv:=Abn np.1 (by simp only;omega);unfold sbA at *;simp only at c6 np zv ⊢;rw[c6]at ql;obtain⟨jw,-⟩:=np;obtain⟨hsm1,hsm2⟩:=zv;have e0:∀ r,(⟨ae,(Cam ⟨ae,aa⟩ bl (Bak ⟨bl,⟨ae,aa⟩,aj⟩) r).rows⟩:aT)=Cam ⟨ae,aa⟩ bl (Bak ⟨bl,⟨ae,aa⟩,aj⟩) r:=fun _=>rfl
  simp (disch:=first|assumption|omega) only[S0,rA,rQ,rB,rT,rE,dX,c1,eY,c2,c3,aW,c5,Sb3,zD,Ha3,eN,Ea1,Ha7,ql,Ube,Za7,e0,jw,Tba];rfl
theorem Kao (bl ae:Int)(aa:(List (List bD)))(aj:(List aR))(aq bq a8 a6 a7:Int)(hs:mZ aa)(h2:nA aj)(hl:aj.length<=2000000):Fun T 58 [i64 bl,i64 ae,rL aa,rL aj,i64 aq,i64 bq,i64 a8,i64 a6,i64 a7]=some [i64 (bK ⟨bl,⟨ae,aa⟩,aj⟩ ⟨aq,bq,a8,a6,a7⟩).1.me,i64 (bK ⟨bl,⟨ae,aa⟩,aj⟩ ⟨aq,bq,a8,a6,a7⟩).1.table.n,rL (bK ⟨bl,⟨ae,aa⟩,aj⟩ ⟨aq,bq,a8,a6,a7⟩).1.table.rows,rL (bK ⟨bl,⟨ae,aa⟩,aj⟩ ⟨aq,bq,a8,a6,a7⟩).1.leads,rL (bK ⟨bl,⟨ae,aa⟩,aj⟩ ⟨aq,bq,a8,a6,a7⟩).2.1,.bool (bK ⟨bl,⟨ae,aa⟩,aj⟩ ⟨aq,bq,a8,a6,a7⟩).2.2]:=by
 rw[aQ (t:=Jby) rfl];unfold Jby
 have zD:(.rows 15 []:D)=rL ([]:List iB):=rfl;cases c1:mF ⟨bl,⟨ae,aa⟩,aj⟩
 ·have hR:bK ⟨bl,⟨ae,aa⟩,aj⟩ ⟨aq,bq,a8,a6,a7⟩=Uak:=by unfold bK sbB;rw[c1];rfl
  rw[hR];simp (disch:=first|assumption|omega) only[S0,rA,rQ,rB,rT,rE,fH,c1,Tbf,zD];rfl
 have ht:=pV c1;have hg:=bZ ht;have hn:=bG hg;have tk:=iO ht;have tW:=Iaf c1;have hme:=Eac c1;simp only at ht hg hn tk tW hme;cases c2:lV ⟨aq,bq,a8,a6,a7⟩
 ·have hR:bK ⟨bl,⟨ae,aa⟩,aj⟩ ⟨aq,bq,a8,a6,a7⟩=Uak:=by unfold bK sbB;rw[c2,Tb3];rfl
  rw[hR];simp (disch:=first|assumption|omega) only[S0,rA,rQ,rB,rT,rE,fH,c1,dS,c2,Sb3,Tbf,zD];rfl
 cases c3:aq==0
 rotate_left
 ·have hR:bK ⟨bl,⟨ae,aa⟩,aj⟩ ⟨aq,bq,a8,a6,a7⟩=Uak:=by unfold bK sbB;simp only;rw[c3,Sb3,Tb3];rfl
  rw[hR];simp (disch:=first|assumption|omega) only[S0,rA,rQ,rB,rT,rE,fH,c1,dS,c2,c3,Sb3,zD];rfl
 have hbm:InB aa bl:=by unfold InB;omega
 cases c4:decide (((atI aa bl).length:Int)<6)
 ·have hR:bK ⟨bl,⟨ae,aa⟩,aj⟩ ⟨aq,bq,a8,a6,a7⟩=Uak:=by unfold bK sbB;simp only;rw[c4,Tb3];rfl
  rw[hR]
  have c5:decide ((6:Int)<=((atI aa bl).length:Int))=true:=by
   rw[decide_eq_false_iff_not]at c4;rw[decide_eq_true_iff];omega
  simp (disch:=first|assumption|omega) only[S0,rA,rQ,rB,rT,rE,fH,c1,dS,c2,c3,aW,c5,Sb3,Tbf,zD];rfl
 have c5:decide ((6:Int)<=((atI aa bl).length:Int))=false:=by
  rw[decide_eq_true_iff]at c4;rw[decide_eq_false_iff_not];omega
 obtain⟨hi,-⟩:=Faa c1 (of_decide_eq_true c4);have yc:=(Eag hi).1;have hi2:=(Eag hi).2;obtain⟨a1,a2,a3,a4⟩:=Gat (c:=⟨aq,bq,a8,a6,a7⟩) (rep:=bl) (no:=Bak ⟨bl,⟨ae,aa⟩,aj⟩) ht;have a5m:(Caf ⟨ae,aa⟩ ⟨aq,bq,a8,a6,a7⟩ bl (Bak ⟨bl,⟨ae,aa⟩,aj⟩)).deps.length<=10000000000:=by rw[a1];simp only;omega
 have ha11:0<(Caf ⟨ae,aa⟩ ⟨aq,bq,a8,a6,a7⟩ bl (Bak ⟨bl,⟨ae,aa⟩,aj⟩)).deps.length:=by rw[a1];simp only;omega
 have eN:((atI aa bl).length:Int)+1=Bak ⟨bl,⟨ae,aa⟩,aj⟩:=rfl;have z9:([]:List iB).length<=1000000000:=by simp
 cases c6:decide ((sbA ⟨bl,⟨ae,aa⟩,aj⟩ ⟨aq,bq,a8,a6,a7⟩).seq<=999)
 ·have hR:bK ⟨bl,⟨ae,aa⟩,aj⟩ ⟨aq,bq,a8,a6,a7⟩=Uak:=by unfold bK sbB;rw[c6,Tb3];rfl
  rw[hR];unfold sbA at c6;simp only at c6;simp (disch:=first|assumption|omega) only[S0,rA,rQ,rB,rT,rE,fH,c1,dS,c2,c3,aW,c5,Sb3,Tbf,zD,Nab,eN,Ca7,c6];rfl
 ·have hB:sbB ⟨bl,⟨ae,aa⟩,aj⟩ ⟨aq,bq,a8,a6,a7⟩=true:=by unfold sbB;simp only;rw[c1,c2,c3,c4,c6];rfl
  have hR:bK ⟨bl,⟨ae,aa⟩,aj⟩ ⟨aq,bq,a8,a6,a7⟩=(⟨bl,Cam ⟨ae,aa⟩ bl (Bak ⟨bl,⟨ae,aa⟩,aj⟩) (qH 0 ⟨aq,bq,a8,a6,a7⟩ (sbA ⟨bl,⟨ae,aa⟩,aj⟩ ⟨aq,bq,a8,a6,a7⟩)),Mak (pF bl bl (Bak ⟨bl,⟨ae,aa⟩,aj⟩) 0 ⟨aq,bq,a8,a6,a7⟩ (sbA ⟨bl,⟨ae,aa⟩,aj⟩ ⟨aq,bq,a8,a6,a7⟩)) aj⟩,Ga6 ae bl (Dan bl (Bak ⟨bl,⟨ae,aa⟩,aj⟩) 0 ⟨aq,bq,a8,a6,a7⟩ (sbA ⟨bl,⟨ae,aa⟩,aj⟩ ⟨aq,bq,a8,a6,a7⟩)) ae.toNat,true):=by unfold bK;rw[hB];rfl
  rw[hR];unfold sbA at *;simp only at c6 ⊢;simp (disch:=first|assumption|omega) only[S0,rA,rQ,rB,rT,rE,fH,c1,dS,c2,c3,aW,c5,Sb3,zD,Nab,eN,Ca7,c6,Nae,Waz,Tba];rfl
theorem law (bl ae:Int)(aa:(List (List bD)))(aj:(List aR))(aq bq a8 a6 a7:Int)(a0y:Jaf ⟨bl,⟨ae,aa⟩,aj⟩):Fun T 0 [i64 bl,i64 ae,rL aa,rL aj,i64 aq,i64 bq,i64 a8,i64 a6,i64 a7]=some [.bool true]:=by
 rw[aQ (t:=tm0) rfl];unfold tm0
 by_cases c_r:((fE ⟨bl,⟨ae,aa⟩,aj⟩:Nat):Int)<=1048576
 rotate_left
 ·have e:szR (1048576) (fE ⟨bl,⟨ae,aa⟩,aj⟩)=-1:=if_neg c_r
  (refine aF ?_;repeat' (refine aD ?_ ?_<;>intro _<;>try simp (disch:=first|assumption|omega) only[S0,rA,rQ,rB,rT,rE,Ral,lt0,Pbd, *]))
 have e_r:szR (1048576) (fE ⟨bl,⟨ae,aa⟩,aj⟩)=1048576-((fE ⟨bl,⟨ae,aa⟩,aj⟩:Nat):Int):=if_pos c_r;have a0c:fE ⟨bl,⟨ae,aa⟩,aj⟩<=1048576:=by omega
 have a1j:fE ⟨bl,⟨ae,aa⟩,aj⟩<=1099511627776:=by omega
 have wu:=a0c;rw[Da4]at wu;simp only at wu;have m1_r_table_rows:szL (szL aH) aa<=1099511627776:=by first|omega|(have h:=a1j;rw[jB]at h;exact h)
 have m2_r_table_rows:ctL (ctL aY) aa<=1125899906842624:=by have:=oN (c:=(ctL aY)) (f:=(szL aH)) (m:=16) (by omega) (fun xs=>Sb1 (oN (c:=aY) (f:=aH) (m:=16) (by omega) Kax xs) (Nat.le_add_left _ _)) aa;omega
 have m1_r_leads:szL aL aj<=1099511627776:=by first|omega|(have h:=a1j;rw[jB]at h;exact h)
 have m2_r_leads:ctL dC aj<=1125899906842624:=by have:=oN (c:=dC) (f:=aL) (m:=16) (by omega) Na3 aj;omega
 have s3:Fb1 ⟨bl,⟨ae,aa⟩,aj⟩:=Abb a0c;obtain⟨s4,s5⟩:=s3;simp only at s4 s5;have s6:aj.length<=2000000:=Sb1 (fU (f:=aL)) (by omega);have hz:=Yai (Oa0 ⟨bl,⟨ae,aa⟩,aj⟩ ⟨aq,bq,a8,a6,a7⟩ s6);generalize hA:bK ⟨bl,⟨ae,aa⟩,aj⟩ ⟨aq,bq,a8,a6,a7⟩=A at hz;obtain⟨r1,r2,r3,r4,r5,r6,r7,r8⟩:=hz
 (refine aF ?_;repeat' (refine aD ?_ ?_<;>intro _<;>try simp (maxSteps:=4000000) (disch:=first|assumption|omega) only[S0,rA,rQ,rB,rT,rE,Ral,Abv,Kaa,Jas,Kao,Ab1,Wae,Aby,Va8,Ab0,Wac,lt0,Pbd, *]))
theorem hpure:∀ ds,WTs [.int .i64,.int .i64,.sl 24 [.sl 96 [.int .i64,.int .i64,.int .i64,.int .i64,.int .i64,.int .i64,.int .i64,.int .i64,.int .i64,.sl 8 [.int .i64]]],.sl 192 [.int .i64,.int .i64,.int .i64,.int .i64,.int .i64,.int .i64,.int .i64,.int .i64,.int .i64,.int .i64,.sl 8 [.int .i64],.int .i64,.sl 8 [.int .i64],.bool,.sl 8 [.int .i64],.sl 96 [.int .i64,.int .i64,.int .i64,.int .i64,.int .i64,.int .i64,.int .i64,.int .i64,.int .i64,.sl 8 [.int .i64]]],.int .i64,.int .i64,.int .i64,.int .i64,.int .i64] ds->∃ n,jI T n 0 ds=some [.bool true]:=by
 intro ds h;simp only[WTs]at h;obtain⟨d0,r0,rfl,w0,d1,r1,rfl,w1,d2,r2,rfl,w2,d3,r3,rfl,w3,d4,r4,rfl,w4,d5,r5,rfl,w5,d6,r6,rfl,w6,d7,r7,rfl,w7,d8,r8,rfl,w8,rfl⟩:=h;obtain⟨r,e_r,a0y⟩:=Bbv [d0,d1,d2,d3] (by simp only[WTs];exact⟨_,_,rfl,w0,_,_,rfl,w1,_,_,rfl,w2,_,_,rfl,w3,rfl⟩);simp only[Enc.enc,List.cons.injEq,and_true]at e_r;obtain⟨rfl,rfl,rfl,rfl⟩:=e_r;obtain⟨aq,rfl,hc_kind1,hc_kind2⟩:=gF w4;obtain⟨bq,rfl,hc_id1,hc_id2⟩:=gF w5;obtain⟨a8,rfl,hc_src1,hc_src2⟩:=gF w6;obtain⟨a6,rfl,hc_dst1,hc_dst2⟩:=gF w7;obtain⟨a7,rfl,hc_amt1,hc_amt2⟩:=gF w8;exact Db3 (law (r.me) (r.table.n) (r.table.rows) (r.leads) aq bq a8 a6 a7 a0y)
end FnExactSubmitTo
end Go.Proofs.YtgpamlpecmldfaaGreat
