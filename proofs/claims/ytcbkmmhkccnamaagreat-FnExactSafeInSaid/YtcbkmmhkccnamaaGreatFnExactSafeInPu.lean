import Derived.Test.YtcbkmmhkccnamaaGreatFnExactSafeInTab
set_option linter.all false
open Bool renaming and_eq_true → Zb5, false_eq_true → Aca, not_eq_true' → Ac2, or_eq_true → Bcp, beq_eq_decide_eq → Bc5, eq_iff_iff → Ccs, and_true → Cc3, decide_and → Cc4, and_assoc → Cc8, not_true → Dcf, or_false → Dcl, and_eq_false_iff → Dcw, or_true → Dcx, or_eq_false_iff → Dc5, true_and → Dc8, not_false → Ecc
open Int renaming toNat_natCast → Ac7, toNat_zero → Ccb
open List renaming mem_singleton → Zb9, length_append → Ace, append_assoc → Aci, replicate → Acm, length_cons → Aco, length_map → Acp, mem_append → Acr, length_nil → Acx, length_take → Ac1, append_nil → Ac4, length_replicate → Bcj, take_length → Bcm, nil_append → Bco, mem_iff_getElem → Bct, length_drop → Bcu, drop_eq_getElem_cons → Bcz, mem_of_mem_take → Bc0, map_append → Cca, length_filter_le → Ccd, filter_append → Cce, drop_zero → Cch, length_set → Ccj, getElem_of_mem → Ccl, not_all_eq_any_not → Ccm, filter_nil → Ccw, filter_cons_of_neg → Ccz, filter_cons_of_pos → Dce, length_pos_of_mem → Dch, length_pos_iff → Dck, getElem_take → Dc4, replicate_zero → Dc9
open Nat renaming le_refl → Acn, lt_or_ge → Acy, le_trans → Bci, zero_le → Ccc
namespace Go.Proofs.YtcbkmmhkccnamaaGreat
namespace FnExactSafeIn
open Go Go.Proofs.YtcbkmmhkccnamaaGreat.Rf
open Nat renaming reduceAdd → rA, reduceEqDiff → rQ
open Int renaming reduceBEq → rB, reduceLT → rT, reduceLE → rE
set_option maxHeartbeats 4000000
set_option maxRecDepth 10000
theorem Ga1 (cR qk eC eE mz:Int):Fun T 22 [i64 cR,i64 qk,i64 eC,i64 eE,i64 mz]=some [i64 cR,i64 qk,i64 eC,i64 eE,i64 mz]:=by
 rw[aO (t:=Rbw) rfl];unfold Rbw
 (refine aD ?_;repeat' (refine aC ?_ ?_<;>intro _<;>try simp (disch:=first|assumption|omega) only[S0,rA,rQ,rB,rT,rE, *]))
theorem Ga3 (cR qk eC eE mz:Int)(iy vl kt ko qx:Int):Fun T 181 [i64 cR,i64 qk,i64 eC,i64 eE,i64 mz,i64 iy,i64 vl,i64 kt,i64 ko,i64 qx]=some [.bool (decide ((⟨cR,qk,eC,eE,mz⟩:Bak)=⟨iy,vl,kt,ko,qx⟩))]:=by
 rw[aO (t:=Dbo) rfl];unfold Dbo
 have e:decide ((⟨cR,qk,eC,eE,mz⟩:Bak)=⟨iy,vl,kt,ko,qx⟩)=((cR==iy)&&(qk==vl)&&(eC==kt)&&(eE==ko)&&(mz==qx)):=by
  simp only[Bak.mk.injEq,Bc5,Cc4,Cc8]
 rw[e]
 (refine aD ?_;repeat' (refine aC ?_ ?_<;>intro _<;>try simp (disch:=first|assumption|omega) only[S0,rA,rQ,rB,rT,rE, *]))
theorem Ial (xs:(List Int))(l:Int)(h0:0<=l)(h1:l<=1048576)(hw:xs.length<=140737488351232):Fun T 9 [rL xs,i64 l]=some [i64 (szR l (szL (fun _=>0) xs))]:=by
 rw[aO (t:=tm9) rfl];unfold tm9
 have es:szL (fun _=>0) xs=xs.length:=fQ;rw[es];by_cases c:(xs.length:Int)<=l
 ·have e:szR l xs.length=l-xs.length:=if_pos c
  have d:decide (l-(xs.length:Int)<0)=false:=by simp;omega
  (refine aD ?_;repeat' (refine aC ?_ ?_<;>intro _<;>try simp (disch:=first|assumption|omega) only[S0,rA,rQ,rB,rT,rE, *]))
 ·have e:szR l xs.length=-1:=if_neg c
  have d:decide (l-(xs.length:Int)<0)=true:=by simp;omega
  (refine aD ?_;repeat' (refine aC ?_ ?_<;>intro _<;>try simp (disch:=first|assumption|omega) only[S0,rA,rQ,rB,rT,rE, *]))
theorem Ibt (xs:(List Int))(hs:szL (fun _=>0) xs<=1048576):Fun T 24 [rL xs]=some [rL xs]:=by
 rw[aO (t:=Rbu) rfl];unfold Rbu
 have hl:xs.length<=1048576:=Bci iE hs;simp (disch:=first|assumption|omega) only[S0,rA,rQ,rB,rT,rE,yF,Ac7, *];rw[Ham xs rfl]
 ·(refine aD ?_;repeat' (refine aC ?_ ?_<;>intro _<;>try simp (disch:=first|assumption|omega) only[S0,rA,rQ,rB,rT,rE, *]))
 ·intro i ys hi hb di fx
  (refine aD ?_;repeat' (refine aC ?_ ?_<;>intro _<;>try simp (disch:=first|assumption|omega) only[S0,rA,rQ,rB,rT,rE,aI,Bam, *]))
 ·intro ys fx
  (refine aD ?_;repeat' (refine aC ?_ ?_<;>intro _<;>try simp (disch:=first|assumption|omega) only[S0,rA,rQ,rB,rT,rE, *]))
theorem Ibu (xs ys:(List Int))(hs:szL (fun _=>0) xs<=1099511627776):Fun T 183 [rL xs,rL ys]=some [.bool (decide (xs=ys))]:=by
 rw[aO (t:=Dbm) rfl];unfold Dbm
 have hx:xs.length<=1099511627776:=Bci iE hs;by_cases hl:ys.length=xs.length
 ·simp (disch:=first|assumption|omega) only[S0,rA,rQ,rB,rT,rE, *]
  rw[Ha7 1 xs.length (fun i=>decide (atI xs i=atI ys i)) [.bool false],vE hl.symm]
  ·(refine aD ?_;repeat' (refine aC ?_ ?_<;>intro _<;>try simp (disch:=first|assumption|omega) only[S0,rA,rQ,rB,rT,rE, *]))
  ·intro i hi hp
   have hb:InB xs (i:Int):=aH.2 hi;have di:InB ys (i:Int):=aH.2 (by omega);have h2:decide ((i:Int)<xs.length)=true:=by simp;omega
   have h3:(atI xs i==atI ys i)=true:=by simpa using hp
   (refine aD ?_;repeat' (refine aC ?_ ?_<;>intro _<;>try simp (disch:=first|assumption|omega) only[S0,rA,rQ,rB,rT,rE,aI, *]))
  ·intro i hi hp
   have hb:InB xs (i:Int):=aH.2 hi;have di:InB ys (i:Int):=aH.2 (by omega);have h2:decide ((i:Int)<xs.length)=true:=by simp;omega
   have h3:(atI xs i==atI ys i)=false:=by simpa using hp
   (refine aD ?_;repeat' (refine aC ?_ ?_<;>intro _<;>try simp (disch:=first|assumption|omega) only[S0,rA,rQ,rB,rT,rE,aI, *]))
  ·have h2:decide ((xs.length:Int)<xs.length)=false:=by simp
   (refine aD ?_;repeat' (refine aC ?_ ?_<;>intro _<;>try simp (disch:=first|assumption|omega) only[S0,rA,rQ,rB,rT,rE, *]))
 ·have fx:((xs.length:Int)==(ys.length:Int))=false:=by simp;omega
  have e:=Dae (fun h=>hl h.symm)
  (refine aD ?_;repeat' (refine aC ?_ ?_<;>intro _<;>try simp (disch:=first|assumption|omega) only[S0,rA,rQ,rB,rT,rE, *]))
theorem gJ (gu:Int)(cS:(List Int))(l:Int)(h0:0<=l)(h1:l<=1048576)(hw:yJ ⟨gu,cS⟩):Fun T 8 [i64 gu,rL cS,i64 l]=some [i64 (szR l (aP ⟨gu,cS⟩))]:=by
 rw[aO (t:=tm8) rfl];unfold tm8
 unfold yJ at hw;simp only at hw;have w0:=hw;by_cases c0:((szL (fun _=>0) cS:Nat):Int)<=l
 rotate_left
 ·have e0:szR (l) (szL (fun _=>0) cS)=-1:=if_neg c0
  have d0:decide ((-1:Int)<0)=true:=rfl;have e:szR l (aP ⟨gu,cS⟩)=-1:=by unfold szR aP;simp only[];split<;>omega
  (refine aD ?_;repeat' (refine aC ?_ ?_<;>intro _<;>try simp (disch:=first|assumption|omega) only[S0,rA,rQ,rB,rT,rE,Ial, *]))
 have e0:szR (l) (szL (fun _=>0) cS)=l-(szL (fun _=>0) cS:Nat):=if_pos c0;have d0:decide (l-((szL (fun _=>0) cS:Nat):Int)<0)=false:=by simp;omega
 have e:szR l (aP ⟨gu,cS⟩)=l-((szL (fun _=>0) cS:Nat):Int):=by unfold szR aP;simp only[];split<;>omega
 (refine aD ?_;repeat' (refine aC ?_ ?_<;>intro _<;>try simp (disch:=first|assumption|omega) only[S0,rA,rQ,rB,rT,rE,Ial, *]))
theorem Iak (gu:Int)(cS:(List Int))(hs:aP ⟨gu,cS⟩<=1048576):Fun T 23 [i64 gu,rL cS]=some [i64 gu,rL cS]:=by
 rw[aO (t:=Rbv) rfl];unfold Rbv
 unfold aP at hs;simp only at hs;have s0:szL (fun _=>0) cS<=1048576:=by omega
 (refine aD ?_;repeat' (refine aC ?_ ?_<;>intro _<;>try simp (disch:=first|assumption|omega) only[S0,rA,rQ,rB,rT,rE,Ibt, *]))
theorem Iap (gu:Int)(cS:(List Int))(qp:Int)(om:(List Int))(hs:aP ⟨gu,cS⟩<=1099511627776):Fun T 182 [i64 gu,rL cS,i64 qp,rL om]=some [.bool (decide ((⟨gu,cS⟩:fT)=⟨qp,om⟩))]:=by
 rw[aO (t:=Dbn) rfl];unfold Dbn
 unfold aP at hs;simp only at hs;have s0:szL (fun _=>0) cS<=1099511627776:=by omega
 have e:decide ((⟨gu,cS⟩:fT)=⟨qp,om⟩)=((gu==qp)&&decide ((cS:(List Int))=om)):=by
  simp only[fT.mk.injEq,Bc5,Cc4,Cc8]
 rw[e]
 (refine aD ?_;repeat' (refine aC ?_ ?_<;>intro _<;>try simp (disch:=first|assumption|omega) only[S0,rA,rQ,rB,rT,rE,Ibu, *]))
theorem Vau (ar cj bm ae aq aj ah an ab:Int)(aa:(List Int))(l:Int)(h0:0<=l)(h1:l<=1048576)(hw:oL ⟨ar,cj,bm,⟨ae,aq,aj,ah,an⟩,⟨ab,aa⟩⟩):Fun T 7 [i64 ar,i64 cj,i64 bm,i64 ae,i64 aq,i64 aj,i64 ah,i64 an,i64 ab,rL aa,i64 l]=some [i64 (szR l (aQ ⟨ar,cj,bm,⟨ae,aq,aj,ah,an⟩,⟨ab,aa⟩⟩))]:=by
 rw[aO (t:=tm7) rfl];unfold tm7
 unfold oL at hw;simp only at hw;have w0:=hw;by_cases c0:((aP ⟨ab,aa⟩:Nat):Int)<=l
 rotate_left
 ·have e0:szR (l) (aP ⟨ab,aa⟩)=-1:=if_neg c0
  have d0:decide ((-1:Int)<0)=true:=rfl;have e:szR l (aQ ⟨ar,cj,bm,⟨ae,aq,aj,ah,an⟩,⟨ab,aa⟩⟩)=-1:=by unfold szR aQ;simp only[];split<;>omega
  (refine aD ?_;repeat' (refine aC ?_ ?_<;>intro _<;>try simp (disch:=first|assumption|omega) only[S0,rA,rQ,rB,rT,rE,gJ, *]))
 have e0:szR (l) (aP ⟨ab,aa⟩)=l-(aP ⟨ab,aa⟩:Nat):=if_pos c0;have d0:decide (l-((aP ⟨ab,aa⟩:Nat):Int)<0)=false:=by simp;omega
 have e:szR l (aQ ⟨ar,cj,bm,⟨ae,aq,aj,ah,an⟩,⟨ab,aa⟩⟩)=l-((aP ⟨ab,aa⟩:Nat):Int):=by unfold szR aQ;simp only[];split<;>omega
 (refine aD ?_;repeat' (refine aC ?_ ?_<;>intro _<;>try simp (disch:=first|assumption|omega) only[S0,rA,rQ,rB,rT,rE,gJ, *]))
theorem Gbj (ar cj bm ae aq aj ah an ab:Int)(aa:(List Int))(hs:aQ ⟨ar,cj,bm,⟨ae,aq,aj,ah,an⟩,⟨ab,aa⟩⟩<=1048576):Fun T 21 [i64 ar,i64 cj,i64 bm,i64 ae,i64 aq,i64 aj,i64 ah,i64 an,i64 ab,rL aa]=some [i64 ar,i64 cj,i64 bm,i64 ae,i64 aq,i64 aj,i64 ah,i64 an,i64 ab,rL aa]:=by
 rw[aO (t:=Rbx) rfl];unfold Rbx
 unfold aQ at hs;simp only at hs;have s0:aP ⟨ab,aa⟩<=1048576:=by omega
 (refine aD ?_;repeat' (refine aC ?_ ?_<;>intro _<;>try simp (disch:=first|assumption|omega) only[S0,rA,rQ,rB,rT,rE,Ga1,Iak, *]))
theorem Vay (ar cj bm ae aq aj ah an ab:Int)(aa:(List Int))(dh iS gi bl ct bt bz bw cz:Int)(b6:(List Int))(hs:aQ ⟨ar,cj,bm,⟨ae,aq,aj,ah,an⟩,⟨ab,aa⟩⟩<=1099511627776):Fun T 180 [i64 ar,i64 cj,i64 bm,i64 ae,i64 aq,i64 aj,i64 ah,i64 an,i64 ab,rL aa,i64 dh,i64 iS,i64 gi,i64 bl,i64 ct,i64 bt,i64 bz,i64 bw,i64 cz,rL b6]=some [.bool (decide ((⟨ar,cj,bm,⟨ae,aq,aj,ah,an⟩,⟨ab,aa⟩⟩:bU)=⟨dh,iS,gi,⟨bl,ct,bt,bz,bw⟩,⟨cz,b6⟩⟩))]:=by
 rw[aO (t:=Dbp) rfl];unfold Dbp
 unfold aQ at hs;simp only at hs;have s0:aP ⟨ab,aa⟩<=1099511627776:=by omega
 have e:decide ((⟨ar,cj,bm,⟨ae,aq,aj,ah,an⟩,⟨ab,aa⟩⟩:bU)=⟨dh,iS,gi,⟨bl,ct,bt,bz,bw⟩,⟨cz,b6⟩⟩)=((ar==dh)&&(cj==iS)&&(bm==gi)&&decide ((⟨ae,aq,aj,ah,an⟩:Bak)=⟨bl,ct,bt,bz,bw⟩)&&decide ((⟨ab,aa⟩:fT)=⟨cz,b6⟩)):=by
  simp only[bU.mk.injEq,Bc5,Cc4,Cc8]
 rw[e]
 (refine aD ?_;repeat' (refine aC ?_ ?_<;>intro _<;>try simp (disch:=first|assumption|omega) only[S0,rA,rQ,rB,rT,rE,Ga3,Iap, *]))
theorem pF (xs:(List bU))(l:Int)(h0:0<=l)(h1:l<=1048576)(hw:xs.length<=140737488351232/\∀ y0∈xs,oL y0):Fun T 6 [rL xs,i64 l]=some [i64 (szR l (szL aQ xs))]:=by
 rw[aO (t:=tm6) rfl];unfold tm6
 obtain⟨hw1,p8⟩:=hw;by_cases c:(xs.length:Int)<=l
 ·have d:decide (l-(xs.length:Int)<0)=false:=by simp;omega
  simp (disch:=first|assumption|omega) only[S0,rA,rQ,rB,rT,rE, *];rw[Pah xs aQ (l-xs.length) rfl (by omega) (by omega)]
  ·by_cases hd:((xs.map aQ).sum:Int)<=l-xs.length
   ·have e:szR l (szL aQ xs)=l-xs.length-((xs.map aQ).sum:Nat):=by unfold szR;rw[show (szL aQ xs)=xs.length+(xs.map aQ).sum from rfl,if_pos (by omega)];omega
    rw[decide_eq_true hd]
    (refine aD ?_;repeat' (refine aC ?_ ?_<;>intro _<;>try simp (disch:=first|assumption|omega) only[S0,rA,rQ,rB,rT,rE, *]))
   ·have e:szR l (szL aQ xs)=-1:=by unfold szR;rw[show (szL aQ xs)=xs.length+(xs.map aQ).sum from rfl,if_neg (by omega)]
    rw[decide_eq_false hd]
    (refine aD ?_;repeat' (refine aC ?_ ?_<;>intro _<;>try simp (disch:=first|assumption|omega) only[S0,rA,rQ,rB,rT,rE, *]))
  ·intro i m hi hb hl hm oS hf hr hd
   have hq:=p8 _ (at_mem hi)
   (refine aD ?_;repeat' (refine aC ?_ ?_<;>intro _<;>try simp (disch:=first|assumption|omega) only[S0,rA,rQ,rB,rT,rE,aI,Vau, *]))
  ·intro i m hi hb hl hm oS hf hr hd
   have hq:=p8 _ (at_mem hi)
   (refine aD ?_;repeat' (refine aC ?_ ?_<;>intro _<;>try simp (disch:=first|assumption|omega) only[S0,rA,rQ,rB,rT,rE,aI,Vau, *]))
  ·intro m hl
   (refine aD ?_;repeat' (refine aC ?_ ?_<;>intro _<;>try simp (disch:=first|assumption|omega) only[S0,rA,rQ,rB,rT,rE, *]))
 ·have e:szR l (szL aQ xs)=-1:=by unfold szR;rw[show (szL aQ xs)=xs.length+(xs.map aQ).sum from rfl,if_neg (by omega)]
  have d:decide (l-(xs.length:Int)<0)=true:=by simp;omega
  (refine aD ?_;repeat' (refine aC ?_ ?_<;>intro _<;>try simp (disch:=first|assumption|omega) only[S0,rA,rQ,rB,rT,rE, *]))
theorem Qan (xs:(List bU))(hs:szL aQ xs<=1048576):Fun T 20 [rL xs]=some [rL xs]:=by
 rw[aO (t:=Rby) rfl];unfold Rby
 have hl:xs.length<=1048576:=Bci iE hs;simp (disch:=first|assumption|omega) only[S0,rA,rQ,rB,rT,rE,yF,Ac7, *];rw[Ham xs rfl]
 ·(refine aD ?_;repeat' (refine aC ?_ ?_<;>intro _<;>try simp (disch:=first|assumption|omega) only[S0,rA,rQ,rB,rT,rE, *]))
 ·intro i ys hi hb di fx
  have hq:aQ (atI xs i)<=1048576:=by
   have:=gV (f:=aQ) (at_mem hi);omega
  (refine aD ?_;repeat' (refine aC ?_ ?_<;>intro _<;>try simp (disch:=first|assumption|omega) only[S0,rA,rQ,rB,rT,rE,aI,Bam,Gbj, *]))
 ·intro ys fx
  (refine aD ?_;repeat' (refine aC ?_ ?_<;>intro _<;>try simp (disch:=first|assumption|omega) only[S0,rA,rQ,rB,rT,rE, *]))
theorem Iaq (xs ys:(List bU))(hs:szL aQ xs<=1099511627776):Fun T 179 [rL xs,rL ys]=some [.bool (decide (xs=ys))]:=by
 rw[aO (t:=Dbq) rfl];unfold Dbq
 have hx:xs.length<=1099511627776:=Bci iE hs;by_cases hl:ys.length=xs.length
 ·simp (disch:=first|assumption|omega) only[S0,rA,rQ,rB,rT,rE, *]
  rw[Ha7 1 xs.length (fun i=>decide (atI xs i=atI ys i)) [.bool false],vE hl.symm]
  ·(refine aD ?_;repeat' (refine aC ?_ ?_<;>intro _<;>try simp (disch:=first|assumption|omega) only[S0,rA,rQ,rB,rT,rE, *]))
  ·intro i hi hp
   have hb:InB xs (i:Int):=aH.2 hi;have di:InB ys (i:Int):=aH.2 (by omega);have h2:decide ((i:Int)<xs.length)=true:=by simp;omega
   have hq:aQ (atI xs i)<=1099511627776:=by
    have:=gV (f:=aQ) (at_mem hi);omega
   (refine aD ?_;repeat' (refine aC ?_ ?_<;>intro _<;>try simp (disch:=first|assumption|omega) only[S0,rA,rQ,rB,rT,rE,aI,Vay, *]))
  ·intro i hi hp
   have hb:InB xs (i:Int):=aH.2 hi;have di:InB ys (i:Int):=aH.2 (by omega);have h2:decide ((i:Int)<xs.length)=true:=by simp;omega
   have hq:aQ (atI xs i)<=1099511627776:=by
    have:=gV (f:=aQ) (at_mem hi);omega
   (refine aD ?_;repeat' (refine aC ?_ ?_<;>intro _<;>try simp (disch:=first|assumption|omega) only[S0,rA,rQ,rB,rT,rE,aI,Vay, *]))
  ·have h2:decide ((xs.length:Int)<xs.length)=false:=by simp
   (refine aD ?_;repeat' (refine aC ?_ ?_<;>intro _<;>try simp (disch:=first|assumption|omega) only[S0,rA,rQ,rB,rT,rE, *]))
 ·have fx:((xs.length:Int)==(ys.length:Int))=false:=by simp;omega
  have e:=Dae (fun h=>hl h.symm)
  (refine aD ?_;repeat' (refine aC ?_ ?_<;>intro _<;>try simp (disch:=first|assumption|omega) only[S0,rA,rQ,rB,rT,rE, *]))
theorem La6 (xs:(List (List bU)))(l:Int)(h0:0<=l)(h1:l<=1048576)(hw:xs.length<=140737488351232/\∀ y0∈xs,y0.length<=140737488351232/\∀ y1∈y0,oL y1):Fun T 5 [rL xs,i64 l]=some [i64 (szR l (szL (szL aQ) xs))]:=by
 rw[aO (t:=tm5) rfl];unfold tm5
 obtain⟨hw1,p8⟩:=hw;by_cases c:(xs.length:Int)<=l
 ·have d:decide (l-(xs.length:Int)<0)=false:=by simp;omega
  simp (disch:=first|assumption|omega) only[S0,rA,rQ,rB,rT,rE, *];rw[Pah xs (szL aQ) (l-xs.length) rfl (by omega) (by omega)]
  ·by_cases hd:((xs.map (szL aQ)).sum:Int)<=l-xs.length
   ·have e:szR l (szL (szL aQ) xs)=l-xs.length-((xs.map (szL aQ)).sum:Nat):=by unfold szR;rw[show (szL (szL aQ) xs)=xs.length+(xs.map (szL aQ)).sum from rfl,if_pos (by omega)];omega
    rw[decide_eq_true hd]
    (refine aD ?_;repeat' (refine aC ?_ ?_<;>intro _<;>try simp (disch:=first|assumption|omega) only[S0,rA,rQ,rB,rT,rE, *]))
   ·have e:szR l (szL (szL aQ) xs)=-1:=by unfold szR;rw[show (szL (szL aQ) xs)=xs.length+(xs.map (szL aQ)).sum from rfl,if_neg (by omega)]
    rw[decide_eq_false hd]
    (refine aD ?_;repeat' (refine aC ?_ ?_<;>intro _<;>try simp (disch:=first|assumption|omega) only[S0,rA,rQ,rB,rT,rE, *]))
  ·intro i m hi hb hl hm oS hf hr hd
   have hq:=p8 _ (at_mem hi)
   (refine aD ?_;repeat' (refine aC ?_ ?_<;>intro _<;>try simp (disch:=first|assumption|omega) only[S0,rA,rQ,rB,rT,rE,aI,pF, *]))
  ·intro i m hi hb hl hm oS hf hr hd
   have hq:=p8 _ (at_mem hi)
   (refine aD ?_;repeat' (refine aC ?_ ?_<;>intro _<;>try simp (disch:=first|assumption|omega) only[S0,rA,rQ,rB,rT,rE,aI,pF, *]))
  ·intro m hl
   (refine aD ?_;repeat' (refine aC ?_ ?_<;>intro _<;>try simp (disch:=first|assumption|omega) only[S0,rA,rQ,rB,rT,rE, *]))
 ·have e:szR l (szL (szL aQ) xs)=-1:=by unfold szR;rw[show (szL (szL aQ) xs)=xs.length+(xs.map (szL aQ)).sum from rfl,if_neg (by omega)]
  have d:decide (l-(xs.length:Int)<0)=true:=by simp;omega
  (refine aD ?_;repeat' (refine aC ?_ ?_<;>intro _<;>try simp (disch:=first|assumption|omega) only[S0,rA,rQ,rB,rT,rE, *]))
theorem Xav (xs:(List (List bU)))(hs:szL (szL aQ) xs<=1048576):Fun T 19 [rL xs]=some [rL xs]:=by
 rw[aO (t:=Rbz) rfl];unfold Rbz
 have hl:xs.length<=1048576:=Bci iE hs;simp (disch:=first|assumption|omega) only[S0,rA,rQ,rB,rT,rE,yF,Ac7, *];rw[Ham xs rfl]
 ·(refine aD ?_;repeat' (refine aC ?_ ?_<;>intro _<;>try simp (disch:=first|assumption|omega) only[S0,rA,rQ,rB,rT,rE, *]))
 ·intro i ys hi hb di fx
  have hq:szL aQ (atI xs i)<=1048576:=by
   have:=gV (f:=(szL aQ)) (at_mem hi);omega
  (refine aD ?_;repeat' (refine aC ?_ ?_<;>intro _<;>try simp (disch:=first|assumption|omega) only[S0,rA,rQ,rB,rT,rE,aI,Bam,Qan, *]))
 ·intro ys fx
  (refine aD ?_;repeat' (refine aC ?_ ?_<;>intro _<;>try simp (disch:=first|assumption|omega) only[S0,rA,rQ,rB,rT,rE, *]))
theorem Xay (xs ys:(List (List bU)))(hs:szL (szL aQ) xs<=1099511627776):Fun T 178 [rL xs,rL ys]=some [.bool (decide (xs=ys))]:=by
 rw[aO (t:=Dbr) rfl];unfold Dbr
 have hx:xs.length<=1099511627776:=Bci iE hs;by_cases hl:ys.length=xs.length
 ·simp (disch:=first|assumption|omega) only[S0,rA,rQ,rB,rT,rE, *]
  rw[Ha7 1 xs.length (fun i=>decide (atI xs i=atI ys i)) [.bool false],vE hl.symm]
  ·(refine aD ?_;repeat' (refine aC ?_ ?_<;>intro _<;>try simp (disch:=first|assumption|omega) only[S0,rA,rQ,rB,rT,rE, *]))
  ·intro i hi hp
   have hb:InB xs (i:Int):=aH.2 hi;have di:InB ys (i:Int):=aH.2 (by omega);have h2:decide ((i:Int)<xs.length)=true:=by simp;omega
   have hq:szL aQ (atI xs i)<=1099511627776:=by
    have:=gV (f:=(szL aQ)) (at_mem hi);omega
   (refine aD ?_;repeat' (refine aC ?_ ?_<;>intro _<;>try simp (disch:=first|assumption|omega) only[S0,rA,rQ,rB,rT,rE,aI,Iaq, *]))
  ·intro i hi hp
   have hb:InB xs (i:Int):=aH.2 hi;have di:InB ys (i:Int):=aH.2 (by omega);have h2:decide ((i:Int)<xs.length)=true:=by simp;omega
   have hq:szL aQ (atI xs i)<=1099511627776:=by
    have:=gV (f:=(szL aQ)) (at_mem hi);omega
   (refine aD ?_;repeat' (refine aC ?_ ?_<;>intro _<;>try simp (disch:=first|assumption|omega) only[S0,rA,rQ,rB,rT,rE,aI,Iaq, *]))
  ·have h2:decide ((xs.length:Int)<xs.length)=false:=by simp
   (refine aD ?_;repeat' (refine aC ?_ ?_<;>intro _<;>try simp (disch:=first|assumption|omega) only[S0,rA,rQ,rB,rT,rE, *]))
 ·have fx:((xs.length:Int)==(ys.length:Int))=false:=by simp;omega
  have e:=Dae (fun h=>hl h.symm)
  (refine aD ?_;repeat' (refine aC ?_ ?_<;>intro _<;>try simp (disch:=first|assumption|omega) only[S0,rA,rQ,rB,rT,rE, *]))
theorem Eai (qc:Int)(cV:(List (List bU)))(l:Int)(h0:0<=l)(h1:l<=1048576)(hw:Hae ⟨qc,cV⟩):Fun T 4 [i64 qc,rL cV,i64 l]=some [i64 (szR l (bQ ⟨qc,cV⟩))]:=by
 rw[aO (t:=tm4) rfl];unfold tm4
 unfold Hae at hw;simp only at hw;have w0:=hw;by_cases c0:((szL (szL aQ) cV:Nat):Int)<=l
 rotate_left
 ·have e0:szR (l) (szL (szL aQ) cV)=-1:=if_neg c0
  have d0:decide ((-1:Int)<0)=true:=rfl;have e:szR l (bQ ⟨qc,cV⟩)=-1:=by unfold szR bQ;simp only[];split<;>omega
  (refine aD ?_;repeat' (refine aC ?_ ?_<;>intro _<;>try simp (disch:=first|assumption|omega) only[S0,rA,rQ,rB,rT,rE,La6, *]))
 have e0:szR (l) (szL (szL aQ) cV)=l-(szL (szL aQ) cV:Nat):=if_pos c0;have d0:decide (l-((szL (szL aQ) cV:Nat):Int)<0)=false:=by simp;omega
 have e:szR l (bQ ⟨qc,cV⟩)=l-((szL (szL aQ) cV:Nat):Int):=by unfold szR bQ;simp only[];split<;>omega
 (refine aD ?_;repeat' (refine aC ?_ ?_<;>intro _<;>try simp (disch:=first|assumption|omega) only[S0,rA,rQ,rB,rT,rE,La6, *]))
theorem Xas (qc:Int)(cV:(List (List bU)))(hs:bQ ⟨qc,cV⟩<=1048576):Fun T 18 [i64 qc,rL cV]=some [i64 qc,rL cV]:=by
 rw[aO (t:=Rb0) rfl];unfold Rb0
 unfold bQ at hs;simp only at hs;have s0:szL (szL aQ) cV<=1048576:=by omega
 (refine aD ?_;repeat' (refine aC ?_ ?_<;>intro _<;>try simp (disch:=first|assumption|omega) only[S0,rA,rQ,rB,rT,rE,Xav, *]))
theorem Xaw (qc:Int)(cV:(List (List bU)))(y_n:Int)(og:(List (List bU)))(hs:bQ ⟨qc,cV⟩<=1099511627776):Fun T 177 [i64 qc,rL cV,i64 y_n,rL og]=some [.bool (decide ((⟨qc,cV⟩:aL)=⟨y_n,og⟩))]:=by
 rw[aO (t:=Dbs) rfl];unfold Dbs
 unfold bQ at hs;simp only at hs;have s0:szL (szL aQ) cV<=1099511627776:=by omega
 have e:decide ((⟨qc,cV⟩:aL)=⟨y_n,og⟩)=((qc==y_n)&&decide ((cV:(List (List bU)))=og)):=by
  simp only[aL.mk.injEq,Bc5,Cc4,Cc8]
 rw[e]
 (refine aD ?_;repeat' (refine aC ?_ ?_<;>intro _<;>try simp (disch:=first|assumption|omega) only[S0,rA,rQ,rB,rT,rE,Xay, *]))
theorem Qao (cd dt ar cW ae aq aj ah an ao:Int)(af:(List Int))(ab:Int)(aa:(List Int))(ez:Bool)(cN:(List Int))(cE:(List bU))(l:Int)(h0:0<=l)(h1:l<=1048576)(hw:yI ⟨cd,dt,ar,cW,⟨ae,aq,aj,ah,an⟩,⟨ao,af⟩,⟨ab,aa⟩,ez,cN,cE⟩):Fun T 11 [i64 cd,i64 dt,i64 ar,i64 cW,i64 ae,i64 aq,i64 aj,i64 ah,i64 an,i64 ao,rL af,i64 ab,rL aa,.bool ez,rL cN,rL cE,i64 l]=some [i64 (szR l (aW ⟨cd,dt,ar,cW,⟨ae,aq,aj,ah,an⟩,⟨ao,af⟩,⟨ab,aa⟩,ez,cN,cE⟩))]:=by
 rw[aO (t:=Rb7) rfl];unfold Rb7
 unfold yI at hw;simp only at hw;obtain⟨w0,w1,w2,w3⟩:=hw;by_cases c0:((aP ⟨ao,af⟩:Nat):Int)<=l
 rotate_left
 ·have e0:szR (l) (aP ⟨ao,af⟩)=-1:=if_neg c0
  have d0:decide ((-1:Int)<0)=true:=rfl;have e:szR l (aW ⟨cd,dt,ar,cW,⟨ae,aq,aj,ah,an⟩,⟨ao,af⟩,⟨ab,aa⟩,ez,cN,cE⟩)=-1:=by unfold szR aW;simp only[];split<;>omega
  (refine aD ?_;repeat' (refine aC ?_ ?_<;>intro _<;>try simp (disch:=first|assumption|omega) only[S0,rA,rQ,rB,rT,rE,gJ,gJ,Ial,pF, *]))
 have e0:szR (l) (aP ⟨ao,af⟩)=l-(aP ⟨ao,af⟩:Nat):=if_pos c0;have d0:decide (l-((aP ⟨ao,af⟩:Nat):Int)<0)=false:=by simp;omega
 by_cases c1:((aP ⟨ab,aa⟩:Nat):Int)<=l-((aP ⟨ao,af⟩:Nat):Int)
 rotate_left
 ·have e1:szR (l-((aP ⟨ao,af⟩:Nat):Int)) (aP ⟨ab,aa⟩)=-1:=if_neg c1
  have d1:decide ((-1:Int)<0)=true:=rfl;have e:szR l (aW ⟨cd,dt,ar,cW,⟨ae,aq,aj,ah,an⟩,⟨ao,af⟩,⟨ab,aa⟩,ez,cN,cE⟩)=-1:=by unfold szR aW;simp only[];split<;>omega
  (refine aD ?_;repeat' (refine aC ?_ ?_<;>intro _<;>try simp (disch:=first|assumption|omega) only[S0,rA,rQ,rB,rT,rE,gJ,gJ,Ial,pF, *]))
 have e1:szR (l-((aP ⟨ao,af⟩:Nat):Int)) (aP ⟨ab,aa⟩)=l-((aP ⟨ao,af⟩:Nat):Int)-(aP ⟨ab,aa⟩:Nat):=if_pos c1;have d1:decide (l-((aP ⟨ao,af⟩:Nat):Int)-((aP ⟨ab,aa⟩:Nat):Int)<0)=false:=by simp;omega
 by_cases c2:((szL (fun _=>0) cN:Nat):Int)<=l-((aP ⟨ao,af⟩:Nat):Int)-((aP ⟨ab,aa⟩:Nat):Int)
 rotate_left
 ·have e2:szR (l-((aP ⟨ao,af⟩:Nat):Int)-((aP ⟨ab,aa⟩:Nat):Int)) (szL (fun _=>0) cN)=-1:=if_neg c2
  have d2:decide ((-1:Int)<0)=true:=rfl;have e:szR l (aW ⟨cd,dt,ar,cW,⟨ae,aq,aj,ah,an⟩,⟨ao,af⟩,⟨ab,aa⟩,ez,cN,cE⟩)=-1:=by unfold szR aW;simp only[];split<;>omega
  (refine aD ?_;repeat' (refine aC ?_ ?_<;>intro _<;>try simp (disch:=first|assumption|omega) only[S0,rA,rQ,rB,rT,rE,gJ,gJ,Ial,pF, *]))
 have e2:szR (l-((aP ⟨ao,af⟩:Nat):Int)-((aP ⟨ab,aa⟩:Nat):Int)) (szL (fun _=>0) cN)=l-((aP ⟨ao,af⟩:Nat):Int)-((aP ⟨ab,aa⟩:Nat):Int)-(szL (fun _=>0) cN:Nat):=if_pos c2;have d2:decide (l-((aP ⟨ao,af⟩:Nat):Int)-((aP ⟨ab,aa⟩:Nat):Int)-((szL (fun _=>0) cN:Nat):Int)<0)=false:=by simp;omega
 by_cases c3:((szL aQ cE:Nat):Int)<=l-((aP ⟨ao,af⟩:Nat):Int)-((aP ⟨ab,aa⟩:Nat):Int)-((szL (fun _=>0) cN:Nat):Int)
 rotate_left
 ·have e3:szR (l-((aP ⟨ao,af⟩:Nat):Int)-((aP ⟨ab,aa⟩:Nat):Int)-((szL (fun _=>0) cN:Nat):Int)) (szL aQ cE)=-1:=if_neg c3
  have d3:decide ((-1:Int)<0)=true:=rfl;have e:szR l (aW ⟨cd,dt,ar,cW,⟨ae,aq,aj,ah,an⟩,⟨ao,af⟩,⟨ab,aa⟩,ez,cN,cE⟩)=-1:=by unfold szR aW;simp only[];split<;>omega
  (refine aD ?_;repeat' (refine aC ?_ ?_<;>intro _<;>try simp (disch:=first|assumption|omega) only[S0,rA,rQ,rB,rT,rE,gJ,gJ,Ial,pF, *]))
 have e3:szR (l-((aP ⟨ao,af⟩:Nat):Int)-((aP ⟨ab,aa⟩:Nat):Int)-((szL (fun _=>0) cN:Nat):Int)) (szL aQ cE)=l-((aP ⟨ao,af⟩:Nat):Int)-((aP ⟨ab,aa⟩:Nat):Int)-((szL (fun _=>0) cN:Nat):Int)-(szL aQ cE:Nat):=if_pos c3;have d3:decide (l-((aP ⟨ao,af⟩:Nat):Int)-((aP ⟨ab,aa⟩:Nat):Int)-((szL (fun _=>0) cN:Nat):Int)-((szL aQ cE:Nat):Int)<0)=false:=by simp;omega
 have e:szR l (aW ⟨cd,dt,ar,cW,⟨ae,aq,aj,ah,an⟩,⟨ao,af⟩,⟨ab,aa⟩,ez,cN,cE⟩)=l-((aP ⟨ao,af⟩:Nat):Int)-((aP ⟨ab,aa⟩:Nat):Int)-((szL (fun _=>0) cN:Nat):Int)-((szL aQ cE:Nat):Int):=by unfold szR aW;simp only[];split<;>omega
 (refine aD ?_;repeat' (refine aC ?_ ?_<;>intro _<;>try simp (disch:=first|assumption|omega) only[S0,rA,rQ,rB,rT,rE,gJ,gJ,Ial,pF, *]))
theorem Abl (cd dt ar cW ae aq aj ah an ao:Int)(af:(List Int))(ab:Int)(aa:(List Int))(ez:Bool)(cN:(List Int))(cE:(List bU))(hs:aW ⟨cd,dt,ar,cW,⟨ae,aq,aj,ah,an⟩,⟨ao,af⟩,⟨ab,aa⟩,ez,cN,cE⟩<=1048576):Fun T 26 [i64 cd,i64 dt,i64 ar,i64 cW,i64 ae,i64 aq,i64 aj,i64 ah,i64 an,i64 ao,rL af,i64 ab,rL aa,.bool ez,rL cN,rL cE]=some [i64 cd,i64 dt,i64 ar,i64 cW,i64 ae,i64 aq,i64 aj,i64 ah,i64 an,i64 ao,rL af,i64 ab,rL aa,.bool ez,rL cN,rL cE]:=by
 rw[aO (t:=Rbs) rfl];unfold Rbs
 unfold aW at hs;simp only at hs;have s0:aP ⟨ao,af⟩<=1048576:=by omega
 have s1:aP ⟨ab,aa⟩<=1048576:=by omega
 have s2:szL (fun _=>0) cN<=1048576:=by omega
 have s3:szL aQ cE<=1048576:=by omega
 (refine aD ?_;repeat' (refine aC ?_ ?_<;>intro _<;>try simp (disch:=first|assumption|omega) only[S0,rA,rQ,rB,rT,rE,Ga1,Iak,Ibt,Qan, *]))
theorem Qaq (cd dt ar cW ae aq aj ah an ao:Int)(af:(List Int))(ab:Int)(aa:(List Int))(ez:Bool)(cN:(List Int))(cE:(List bU))(hL km dh mb bl ct bt bz bw ic:Int)(gg:(List Int))(cz:Int)(b6:(List Int))(ou:Bool)(re:(List Int))(oa:(List bU))(hs:aW ⟨cd,dt,ar,cW,⟨ae,aq,aj,ah,an⟩,⟨ao,af⟩,⟨ab,aa⟩,ez,cN,cE⟩<=1099511627776):Fun T 185 [i64 cd,i64 dt,i64 ar,i64 cW,i64 ae,i64 aq,i64 aj,i64 ah,i64 an,i64 ao,rL af,i64 ab,rL aa,.bool ez,rL cN,rL cE,i64 hL,i64 km,i64 dh,i64 mb,i64 bl,i64 ct,i64 bt,i64 bz,i64 bw,i64 ic,rL gg,i64 cz,rL b6,.bool ou,rL re,rL oa]=some [.bool (decide ((⟨cd,dt,ar,cW,⟨ae,aq,aj,ah,an⟩,⟨ao,af⟩,⟨ab,aa⟩,ez,cN,cE⟩:iC)=⟨hL,km,dh,mb,⟨bl,ct,bt,bz,bw⟩,⟨ic,gg⟩,⟨cz,b6⟩,ou,re,oa⟩))]:=by
 rw[aO (t:=Dbk) rfl];unfold Dbk
 unfold aW at hs;simp only at hs;have s0:aP ⟨ao,af⟩<=1099511627776:=by omega
 have s1:aP ⟨ab,aa⟩<=1099511627776:=by omega
 have s2:szL (fun _=>0) cN<=1099511627776:=by omega
 have s3:szL aQ cE<=1099511627776:=by omega
 have e:decide ((⟨cd,dt,ar,cW,⟨ae,aq,aj,ah,an⟩,⟨ao,af⟩,⟨ab,aa⟩,ez,cN,cE⟩:iC)=⟨hL,km,dh,mb,⟨bl,ct,bt,bz,bw⟩,⟨ic,gg⟩,⟨cz,b6⟩,ou,re,oa⟩)=((cd==hL)&&(dt==km)&&(ar==dh)&&(cW==mb)&&decide ((⟨ae,aq,aj,ah,an⟩:Bak)=⟨bl,ct,bt,bz,bw⟩)&&decide ((⟨ao,af⟩:fT)=⟨ic,gg⟩)&&decide ((⟨ab,aa⟩:fT)=⟨cz,b6⟩)&&(ez==ou)&&decide ((cN:(List Int))=re)&&decide ((cE:(List bU))=oa)):=by
  simp only[iC.mk.injEq,Bc5,Cc4,Cc8]
 rw[e]
 (refine aD ?_;repeat' (refine aC ?_ ?_<;>intro _<;>try simp (disch:=first|assumption|omega) only[S0,rA,rQ,rB,rT,rE,Ga3,Iap,Ibu,Iaq, *]))
theorem Eaj (xs:(List iC))(l:Int)(h0:0<=l)(h1:l<=1048576)(hw:xs.length<=140737488351232/\∀ y0∈xs,yI y0):Fun T 10 [rL xs,i64 l]=some [i64 (szR l (szL aW xs))]:=by
 rw[aO (t:=Rb8) rfl];unfold Rb8
 obtain⟨hw1,p8⟩:=hw;by_cases c:(xs.length:Int)<=l
 ·have d:decide (l-(xs.length:Int)<0)=false:=by simp;omega
  simp (disch:=first|assumption|omega) only[S0,rA,rQ,rB,rT,rE, *];rw[Pah xs aW (l-xs.length) rfl (by omega) (by omega)]
  ·by_cases hd:((xs.map aW).sum:Int)<=l-xs.length
   ·have e:szR l (szL aW xs)=l-xs.length-((xs.map aW).sum:Nat):=by unfold szR;rw[show (szL aW xs)=xs.length+(xs.map aW).sum from rfl,if_pos (by omega)];omega
    rw[decide_eq_true hd]
    (refine aD ?_;repeat' (refine aC ?_ ?_<;>intro _<;>try simp (disch:=first|assumption|omega) only[S0,rA,rQ,rB,rT,rE, *]))
   ·have e:szR l (szL aW xs)=-1:=by unfold szR;rw[show (szL aW xs)=xs.length+(xs.map aW).sum from rfl,if_neg (by omega)]
    rw[decide_eq_false hd]
    (refine aD ?_;repeat' (refine aC ?_ ?_<;>intro _<;>try simp (disch:=first|assumption|omega) only[S0,rA,rQ,rB,rT,rE, *]))
  ·intro i m hi hb hl hm oS hf hr hd
   have hq:=p8 _ (at_mem hi)
   (refine aD ?_;repeat' (refine aC ?_ ?_<;>intro _<;>try simp (disch:=first|assumption|omega) only[S0,rA,rQ,rB,rT,rE,aI,Qao, *]))
  ·intro i m hi hb hl hm oS hf hr hd
   have hq:=p8 _ (at_mem hi)
   (refine aD ?_;repeat' (refine aC ?_ ?_<;>intro _<;>try simp (disch:=first|assumption|omega) only[S0,rA,rQ,rB,rT,rE,aI,Qao, *]))
  ·intro m hl
   (refine aD ?_;repeat' (refine aC ?_ ?_<;>intro _<;>try simp (disch:=first|assumption|omega) only[S0,rA,rQ,rB,rT,rE, *]))
 ·have e:szR l (szL aW xs)=-1:=by unfold szR;rw[show (szL aW xs)=xs.length+(xs.map aW).sum from rfl,if_neg (by omega)]
  have d:decide (l-(xs.length:Int)<0)=true:=by simp;omega
  (refine aD ?_;repeat' (refine aC ?_ ?_<;>intro _<;>try simp (disch:=first|assumption|omega) only[S0,rA,rQ,rB,rT,rE, *]))
theorem Xau (xs:(List iC))(hs:szL aW xs<=1048576):Fun T 25 [rL xs]=some [rL xs]:=by
 rw[aO (t:=Rbt) rfl];unfold Rbt
 have hl:xs.length<=1048576:=Bci iE hs;simp (disch:=first|assumption|omega) only[S0,rA,rQ,rB,rT,rE,yF,Ac7, *];rw[Ham xs rfl]
 ·(refine aD ?_;repeat' (refine aC ?_ ?_<;>intro _<;>try simp (disch:=first|assumption|omega) only[S0,rA,rQ,rB,rT,rE, *]))
 ·intro i ys hi hb di fx
  have hq:aW (atI xs i)<=1048576:=by
   have:=gV (f:=aW) (at_mem hi);omega
  (refine aD ?_;repeat' (refine aC ?_ ?_<;>intro _<;>try simp (disch:=first|assumption|omega) only[S0,rA,rQ,rB,rT,rE,aI,Bam,Abl, *]))
 ·intro ys fx
  (refine aD ?_;repeat' (refine aC ?_ ?_<;>intro _<;>try simp (disch:=first|assumption|omega) only[S0,rA,rQ,rB,rT,rE, *]))
theorem Xax (xs ys:(List iC))(hs:szL aW xs<=1099511627776):Fun T 184 [rL xs,rL ys]=some [.bool (decide (xs=ys))]:=by
 rw[aO (t:=Dbl) rfl];unfold Dbl
 have hx:xs.length<=1099511627776:=Bci iE hs;by_cases hl:ys.length=xs.length
 ·simp (disch:=first|assumption|omega) only[S0,rA,rQ,rB,rT,rE, *]
  rw[Ha7 1 xs.length (fun i=>decide (atI xs i=atI ys i)) [.bool false],vE hl.symm]
  ·(refine aD ?_;repeat' (refine aC ?_ ?_<;>intro _<;>try simp (disch:=first|assumption|omega) only[S0,rA,rQ,rB,rT,rE, *]))
  ·intro i hi hp
   have hb:InB xs (i:Int):=aH.2 hi;have di:InB ys (i:Int):=aH.2 (by omega);have h2:decide ((i:Int)<xs.length)=true:=by simp;omega
   have hq:aW (atI xs i)<=1099511627776:=by
    have:=gV (f:=aW) (at_mem hi);omega
   (refine aD ?_;repeat' (refine aC ?_ ?_<;>intro _<;>try simp (disch:=first|assumption|omega) only[S0,rA,rQ,rB,rT,rE,aI,Qaq, *]))
  ·intro i hi hp
   have hb:InB xs (i:Int):=aH.2 hi;have di:InB ys (i:Int):=aH.2 (by omega);have h2:decide ((i:Int)<xs.length)=true:=by simp;omega
   have hq:aW (atI xs i)<=1099511627776:=by
    have:=gV (f:=aW) (at_mem hi);omega
   (refine aD ?_;repeat' (refine aC ?_ ?_<;>intro _<;>try simp (disch:=first|assumption|omega) only[S0,rA,rQ,rB,rT,rE,aI,Qaq, *]))
  ·have h2:decide ((xs.length:Int)<xs.length)=false:=by simp
   (refine aD ?_;repeat' (refine aC ?_ ?_<;>intro _<;>try simp (disch:=first|assumption|omega) only[S0,rA,rQ,rB,rT,rE, *]))
 ·have fx:((xs.length:Int)==(ys.length:Int))=false:=by simp;omega
  have e:=Dae (fun h=>hl h.symm)
  (refine aD ?_;repeat' (refine aC ?_ ?_<;>intro _<;>try simp (disch:=first|assumption|omega) only[S0,rA,rQ,rB,rT,rE, *]))
theorem Vav (jv az:Int)(au:(List (List bU)))(cm:(List iC))(l:Int)(h0:0<=l)(h1:l<=1048576)(hw:Da2 ⟨jv,⟨az,au⟩,cm⟩):Fun T 3 [i64 jv,i64 az,rL au,rL cm,i64 l]=some [i64 (szR l (bA ⟨jv,⟨az,au⟩,cm⟩))]:=by
 rw[aO (t:=tm3) rfl];unfold tm3
 unfold Da2 at hw;simp only at hw;obtain⟨w0,w1⟩:=hw;by_cases c0:((bQ ⟨az,au⟩:Nat):Int)<=l
 rotate_left
 ·have e0:szR (l) (bQ ⟨az,au⟩)=-1:=if_neg c0
  have d0:decide ((-1:Int)<0)=true:=rfl;have e:szR l (bA ⟨jv,⟨az,au⟩,cm⟩)=-1:=by unfold szR bA;simp only[];split<;>omega
  (refine aD ?_;repeat' (refine aC ?_ ?_<;>intro _<;>try simp (disch:=first|assumption|omega) only[S0,rA,rQ,rB,rT,rE,Eai,Eaj, *]))
 have e0:szR (l) (bQ ⟨az,au⟩)=l-(bQ ⟨az,au⟩:Nat):=if_pos c0;have d0:decide (l-((bQ ⟨az,au⟩:Nat):Int)<0)=false:=by simp;omega
 by_cases c1:((szL aW cm:Nat):Int)<=l-((bQ ⟨az,au⟩:Nat):Int)
 rotate_left
 ·have e1:szR (l-((bQ ⟨az,au⟩:Nat):Int)) (szL aW cm)=-1:=if_neg c1
  have d1:decide ((-1:Int)<0)=true:=rfl;have e:szR l (bA ⟨jv,⟨az,au⟩,cm⟩)=-1:=by unfold szR bA;simp only[];split<;>omega
  (refine aD ?_;repeat' (refine aC ?_ ?_<;>intro _<;>try simp (disch:=first|assumption|omega) only[S0,rA,rQ,rB,rT,rE,Eai,Eaj, *]))
 have e1:szR (l-((bQ ⟨az,au⟩:Nat):Int)) (szL aW cm)=l-((bQ ⟨az,au⟩:Nat):Int)-(szL aW cm:Nat):=if_pos c1;have d1:decide (l-((bQ ⟨az,au⟩:Nat):Int)-((szL aW cm:Nat):Int)<0)=false:=by simp;omega
 have e:szR l (bA ⟨jv,⟨az,au⟩,cm⟩)=l-((bQ ⟨az,au⟩:Nat):Int)-((szL aW cm:Nat):Int):=by unfold szR bA;simp only[];split<;>omega
 (refine aD ?_;repeat' (refine aC ?_ ?_<;>intro _<;>try simp (disch:=first|assumption|omega) only[S0,rA,rQ,rB,rT,rE,Eai,Eaj, *]))
theorem Gbk (jv az:Int)(au:(List (List bU)))(cm:(List iC))(hs:bA ⟨jv,⟨az,au⟩,cm⟩<=1048576):Fun T 17 [i64 jv,i64 az,rL au,rL cm]=some [i64 jv,i64 az,rL au,rL cm]:=by
 rw[aO (t:=Rb1) rfl];unfold Rb1
 unfold bA at hs;simp only at hs;have s0:bQ ⟨az,au⟩<=1048576:=by omega
 have s1:szL aW cm<=1048576:=by omega
 (refine aD ?_;repeat' (refine aC ?_ ?_<;>intro _<;>try simp (disch:=first|assumption|omega) only[S0,rA,rQ,rB,rT,rE,Xas,Xau, *]))
theorem Vaz (jv az:Int)(au:(List (List bU)))(cm:(List iC))(vu jm:Int)(gf:(List (List bU)))(ma:(List iC))(hs:bA ⟨jv,⟨az,au⟩,cm⟩<=1099511627776):Fun T 176 [i64 jv,i64 az,rL au,rL cm,i64 vu,i64 jm,rL gf,rL ma]=some [.bool (decide ((⟨jv,⟨az,au⟩,cm⟩:nO)=⟨vu,⟨jm,gf⟩,ma⟩))]:=by
 rw[aO (t:=Dbt) rfl];unfold Dbt
 unfold bA at hs;simp only at hs;have s0:bQ ⟨az,au⟩<=1099511627776:=by omega
 have s1:szL aW cm<=1099511627776:=by omega
 have e:decide ((⟨jv,⟨az,au⟩,cm⟩:nO)=⟨vu,⟨jm,gf⟩,ma⟩)=((jv==vu)&&decide ((⟨az,au⟩:aL)=⟨jm,gf⟩)&&decide ((cm:(List iC))=ma)):=by
  simp only[nO.mk.injEq,Bc5,Cc4,Cc8]
 rw[e]
 (refine aD ?_;repeat' (refine aC ?_ ?_<;>intro _<;>try simp (disch:=first|assumption|omega) only[S0,rA,rQ,rB,rT,rE,Xaw,Xax, *]))
theorem Cam (xs:(List nO))(l:Int)(h0:0<=l)(h1:l<=1048576)(hw:xs.length<=140737488351232/\∀ y0∈xs,Da2 y0):Fun T 2 [rL xs,i64 l]=some [i64 (szR l (szL bA xs))]:=by
 rw[aO (t:=tm2) rfl];unfold tm2
 obtain⟨hw1,p8⟩:=hw;by_cases c:(xs.length:Int)<=l
 ·have d:decide (l-(xs.length:Int)<0)=false:=by simp;omega
  simp (disch:=first|assumption|omega) only[S0,rA,rQ,rB,rT,rE, *];rw[Pah xs bA (l-xs.length) rfl (by omega) (by omega)]
  ·by_cases hd:((xs.map bA).sum:Int)<=l-xs.length
   ·have e:szR l (szL bA xs)=l-xs.length-((xs.map bA).sum:Nat):=by unfold szR;rw[show (szL bA xs)=xs.length+(xs.map bA).sum from rfl,if_pos (by omega)];omega
    rw[decide_eq_true hd]
    (refine aD ?_;repeat' (refine aC ?_ ?_<;>intro _<;>try simp (disch:=first|assumption|omega) only[S0,rA,rQ,rB,rT,rE, *]))
   ·have e:szR l (szL bA xs)=-1:=by unfold szR;rw[show (szL bA xs)=xs.length+(xs.map bA).sum from rfl,if_neg (by omega)]
    rw[decide_eq_false hd]
    (refine aD ?_;repeat' (refine aC ?_ ?_<;>intro _<;>try simp (disch:=first|assumption|omega) only[S0,rA,rQ,rB,rT,rE, *]))
  ·intro i m hi hb hl hm oS hf hr hd
   have hq:=p8 _ (at_mem hi)
   (refine aD ?_;repeat' (refine aC ?_ ?_<;>intro _<;>try simp (disch:=first|assumption|omega) only[S0,rA,rQ,rB,rT,rE,aI,Vav, *]))
  ·intro i m hi hb hl hm oS hf hr hd
   have hq:=p8 _ (at_mem hi)
   (refine aD ?_;repeat' (refine aC ?_ ?_<;>intro _<;>try simp (disch:=first|assumption|omega) only[S0,rA,rQ,rB,rT,rE,aI,Vav, *]))
  ·intro m hl
   (refine aD ?_;repeat' (refine aC ?_ ?_<;>intro _<;>try simp (disch:=first|assumption|omega) only[S0,rA,rQ,rB,rT,rE, *]))
 ·have e:szR l (szL bA xs)=-1:=by unfold szR;rw[show (szL bA xs)=xs.length+(xs.map bA).sum from rfl,if_neg (by omega)]
  have d:decide (l-(xs.length:Int)<0)=true:=by simp;omega
  (refine aD ?_;repeat' (refine aC ?_ ?_<;>intro _<;>try simp (disch:=first|assumption|omega) only[S0,rA,rQ,rB,rT,rE, *]))
theorem Abm (xs:(List nO))(hs:szL bA xs<=1048576):Fun T 16 [rL xs]=some [rL xs]:=by
 rw[aO (t:=Rb2) rfl];unfold Rb2
 have hl:xs.length<=1048576:=Bci iE hs;simp (disch:=first|assumption|omega) only[S0,rA,rQ,rB,rT,rE,yF,Ac7, *];rw[Ham xs rfl]
 ·(refine aD ?_;repeat' (refine aC ?_ ?_<;>intro _<;>try simp (disch:=first|assumption|omega) only[S0,rA,rQ,rB,rT,rE, *]))
 ·intro i ys hi hb di fx
  have hq:bA (atI xs i)<=1048576:=by
   have:=gV (f:=bA) (at_mem hi);omega
  (refine aD ?_;repeat' (refine aC ?_ ?_<;>intro _<;>try simp (disch:=first|assumption|omega) only[S0,rA,rQ,rB,rT,rE,aI,Bam,Gbk, *]))
 ·intro ys fx
  (refine aD ?_;repeat' (refine aC ?_ ?_<;>intro _<;>try simp (disch:=first|assumption|omega) only[S0,rA,rQ,rB,rT,rE, *]))
theorem Abr (xs ys:(List nO))(hs:szL bA xs<=1099511627776):Fun T 175 [rL xs,rL ys]=some [.bool (decide (xs=ys))]:=by
 rw[aO (t:=Dbu) rfl];unfold Dbu
 have hx:xs.length<=1099511627776:=Bci iE hs;by_cases hl:ys.length=xs.length
 ·simp (disch:=first|assumption|omega) only[S0,rA,rQ,rB,rT,rE, *]
  rw[Ha7 1 xs.length (fun i=>decide (atI xs i=atI ys i)) [.bool false],vE hl.symm]
  ·(refine aD ?_;repeat' (refine aC ?_ ?_<;>intro _<;>try simp (disch:=first|assumption|omega) only[S0,rA,rQ,rB,rT,rE, *]))
  ·intro i hi hp
   have hb:InB xs (i:Int):=aH.2 hi;have di:InB ys (i:Int):=aH.2 (by omega);have h2:decide ((i:Int)<xs.length)=true:=by simp;omega
   have hq:bA (atI xs i)<=1099511627776:=by
    have:=gV (f:=bA) (at_mem hi);omega
   (refine aD ?_;repeat' (refine aC ?_ ?_<;>intro _<;>try simp (disch:=first|assumption|omega) only[S0,rA,rQ,rB,rT,rE,aI,Vaz, *]))
  ·intro i hi hp
   have hb:InB xs (i:Int):=aH.2 hi;have di:InB ys (i:Int):=aH.2 (by omega);have h2:decide ((i:Int)<xs.length)=true:=by simp;omega
   have hq:bA (atI xs i)<=1099511627776:=by
    have:=gV (f:=bA) (at_mem hi);omega
   (refine aD ?_;repeat' (refine aC ?_ ?_<;>intro _<;>try simp (disch:=first|assumption|omega) only[S0,rA,rQ,rB,rT,rE,aI,Vaz, *]))
  ·have h2:decide ((xs.length:Int)<xs.length)=false:=by simp
   (refine aD ?_;repeat' (refine aC ?_ ?_<;>intro _<;>try simp (disch:=first|assumption|omega) only[S0,rA,rQ,rB,rT,rE, *]))
 ·have fx:((xs.length:Int)==(ys.length:Int))=false:=by simp;omega
  have e:=Dae (fun h=>hl h.symm)
  (refine aD ?_;repeat' (refine aC ?_ ?_<;>intro _<;>try simp (disch:=first|assumption|omega) only[S0,rA,rQ,rB,rT,rE, *]))
theorem Vax (cR eC eE cd dt ar cj bm ae aq aj ah an ab:Int)(aa:(List Int))(l:Int)(h0:0<=l)(h1:l<=1048576)(hw:Da3 ⟨cR,eC,eE,cd,dt,ar,cj,bm,⟨ae,aq,aj,ah,an⟩,⟨ab,aa⟩⟩):Fun T 13 [i64 cR,i64 eC,i64 eE,i64 cd,i64 dt,i64 ar,i64 cj,i64 bm,i64 ae,i64 aq,i64 aj,i64 ah,i64 an,i64 ab,rL aa,i64 l]=some [i64 (szR l (bE ⟨cR,eC,eE,cd,dt,ar,cj,bm,⟨ae,aq,aj,ah,an⟩,⟨ab,aa⟩⟩))]:=by
 rw[aO (t:=Rb5) rfl];unfold Rb5
 unfold Da3 at hw;simp only at hw;have w0:=hw;by_cases c0:((aP ⟨ab,aa⟩:Nat):Int)<=l
 rotate_left
 ·have e0:szR (l) (aP ⟨ab,aa⟩)=-1:=if_neg c0
  have d0:decide ((-1:Int)<0)=true:=rfl;have e:szR l (bE ⟨cR,eC,eE,cd,dt,ar,cj,bm,⟨ae,aq,aj,ah,an⟩,⟨ab,aa⟩⟩)=-1:=by unfold szR bE;simp only[];split<;>omega
  (refine aD ?_;repeat' (refine aC ?_ ?_<;>intro _<;>try simp (disch:=first|assumption|omega) only[S0,rA,rQ,rB,rT,rE,gJ, *]))
 have e0:szR (l) (aP ⟨ab,aa⟩)=l-(aP ⟨ab,aa⟩:Nat):=if_pos c0;have d0:decide (l-((aP ⟨ab,aa⟩:Nat):Int)<0)=false:=by simp;omega
 have e:szR l (bE ⟨cR,eC,eE,cd,dt,ar,cj,bm,⟨ae,aq,aj,ah,an⟩,⟨ab,aa⟩⟩)=l-((aP ⟨ab,aa⟩:Nat):Int):=by unfold szR bE;simp only[];split<;>omega
 (refine aD ?_;repeat' (refine aC ?_ ?_<;>intro _<;>try simp (disch:=first|assumption|omega) only[S0,rA,rQ,rB,rT,rE,gJ, *]))
theorem Gbm (cR eC eE cd dt ar cj bm ae aq aj ah an ab:Int)(aa:(List Int))(hs:bE ⟨cR,eC,eE,cd,dt,ar,cj,bm,⟨ae,aq,aj,ah,an⟩,⟨ab,aa⟩⟩<=1048576):Fun T 28 [i64 cR,i64 eC,i64 eE,i64 cd,i64 dt,i64 ar,i64 cj,i64 bm,i64 ae,i64 aq,i64 aj,i64 ah,i64 an,i64 ab,rL aa]=some [i64 cR,i64 eC,i64 eE,i64 cd,i64 dt,i64 ar,i64 cj,i64 bm,i64 ae,i64 aq,i64 aj,i64 ah,i64 an,i64 ab,rL aa]:=by
 rw[aO (t:=Rbq) rfl];unfold Rbq
 unfold bE at hs;simp only at hs;have s0:aP ⟨ab,aa⟩<=1048576:=by omega
 (refine aD ?_;repeat' (refine aC ?_ ?_<;>intro _<;>try simp (disch:=first|assumption|omega) only[S0,rA,rQ,rB,rT,rE,Ga1,Iak, *]))
theorem Va0 (cR eC eE cd dt ar cj bm ae aq aj ah an ab:Int)(aa:(List Int))(iy kt ko hL km dh iS gi bl ct bt bz bw cz:Int)(b6:(List Int))(hs:bE ⟨cR,eC,eE,cd,dt,ar,cj,bm,⟨ae,aq,aj,ah,an⟩,⟨ab,aa⟩⟩<=1099511627776):Fun T 187 [i64 cR,i64 eC,i64 eE,i64 cd,i64 dt,i64 ar,i64 cj,i64 bm,i64 ae,i64 aq,i64 aj,i64 ah,i64 an,i64 ab,rL aa,i64 iy,i64 kt,i64 ko,i64 hL,i64 km,i64 dh,i64 iS,i64 gi,i64 bl,i64 ct,i64 bt,i64 bz,i64 bw,i64 cz,rL b6]=some [.bool (decide ((⟨cR,eC,eE,cd,dt,ar,cj,bm,⟨ae,aq,aj,ah,an⟩,⟨ab,aa⟩⟩:nS)=⟨iy,kt,ko,hL,km,dh,iS,gi,⟨bl,ct,bt,bz,bw⟩,⟨cz,b6⟩⟩))]:=by
 rw[aO (t:=Dbi) rfl];unfold Dbi
 unfold bE at hs;simp only at hs;have s0:aP ⟨ab,aa⟩<=1099511627776:=by omega
 have e:decide ((⟨cR,eC,eE,cd,dt,ar,cj,bm,⟨ae,aq,aj,ah,an⟩,⟨ab,aa⟩⟩:nS)=⟨iy,kt,ko,hL,km,dh,iS,gi,⟨bl,ct,bt,bz,bw⟩,⟨cz,b6⟩⟩)=((cR==iy)&&(eC==kt)&&(eE==ko)&&(cd==hL)&&(dt==km)&&(ar==dh)&&(cj==iS)&&(bm==gi)&&decide ((⟨ae,aq,aj,ah,an⟩:Bak)=⟨bl,ct,bt,bz,bw⟩)&&decide ((⟨ab,aa⟩:fT)=⟨cz,b6⟩)):=by
  simp only[nS.mk.injEq,Bc5,Cc4,Cc8]
 rw[e]
 (refine aD ?_;repeat' (refine aC ?_ ?_<;>intro _<;>try simp (disch:=first|assumption|omega) only[S0,rA,rQ,rB,rT,rE,Ga3,Iap, *]))
theorem Cao (xs:(List nS))(l:Int)(h0:0<=l)(h1:l<=1048576)(hw:xs.length<=140737488351232/\∀ y0∈xs,Da3 y0):Fun T 12 [rL xs,i64 l]=some [i64 (szR l (szL bE xs))]:=by
 rw[aO (t:=Rb6) rfl];unfold Rb6
 obtain⟨hw1,p8⟩:=hw;by_cases c:(xs.length:Int)<=l
 ·have d:decide (l-(xs.length:Int)<0)=false:=by simp;omega
  simp (disch:=first|assumption|omega) only[S0,rA,rQ,rB,rT,rE, *];rw[Pah xs bE (l-xs.length) rfl (by omega) (by omega)]
  ·by_cases hd:((xs.map bE).sum:Int)<=l-xs.length
   ·have e:szR l (szL bE xs)=l-xs.length-((xs.map bE).sum:Nat):=by unfold szR;rw[show (szL bE xs)=xs.length+(xs.map bE).sum from rfl,if_pos (by omega)];omega
    rw[decide_eq_true hd]
    (refine aD ?_;repeat' (refine aC ?_ ?_<;>intro _<;>try simp (disch:=first|assumption|omega) only[S0,rA,rQ,rB,rT,rE, *]))
   ·have e:szR l (szL bE xs)=-1:=by unfold szR;rw[show (szL bE xs)=xs.length+(xs.map bE).sum from rfl,if_neg (by omega)]
    rw[decide_eq_false hd]
    (refine aD ?_;repeat' (refine aC ?_ ?_<;>intro _<;>try simp (disch:=first|assumption|omega) only[S0,rA,rQ,rB,rT,rE, *]))
  ·intro i m hi hb hl hm oS hf hr hd
   have hq:=p8 _ (at_mem hi)
   (refine aD ?_;repeat' (refine aC ?_ ?_<;>intro _<;>try simp (disch:=first|assumption|omega) only[S0,rA,rQ,rB,rT,rE,aI,Vax, *]))
  ·intro i m hi hb hl hm oS hf hr hd
   have hq:=p8 _ (at_mem hi)
   (refine aD ?_;repeat' (refine aC ?_ ?_<;>intro _<;>try simp (disch:=first|assumption|omega) only[S0,rA,rQ,rB,rT,rE,aI,Vax, *]))
  ·intro m hl
   (refine aD ?_;repeat' (refine aC ?_ ?_<;>intro _<;>try simp (disch:=first|assumption|omega) only[S0,rA,rQ,rB,rT,rE, *]))
 ·have e:szR l (szL bE xs)=-1:=by unfold szR;rw[show (szL bE xs)=xs.length+(xs.map bE).sum from rfl,if_neg (by omega)]
  have d:decide (l-(xs.length:Int)<0)=true:=by simp;omega
  (refine aD ?_;repeat' (refine aC ?_ ?_<;>intro _<;>try simp (disch:=first|assumption|omega) only[S0,rA,rQ,rB,rT,rE, *]))
theorem Abn (xs:(List nS))(hs:szL bE xs<=1048576):Fun T 27 [rL xs]=some [rL xs]:=by
 rw[aO (t:=Rbr) rfl];unfold Rbr
 have hl:xs.length<=1048576:=Bci iE hs;simp (disch:=first|assumption|omega) only[S0,rA,rQ,rB,rT,rE,yF,Ac7, *];rw[Ham xs rfl]
 ·(refine aD ?_;repeat' (refine aC ?_ ?_<;>intro _<;>try simp (disch:=first|assumption|omega) only[S0,rA,rQ,rB,rT,rE, *]))
 ·intro i ys hi hb di fx
  have hq:bE (atI xs i)<=1048576:=by
   have:=gV (f:=bE) (at_mem hi);omega
  (refine aD ?_;repeat' (refine aC ?_ ?_<;>intro _<;>try simp (disch:=first|assumption|omega) only[S0,rA,rQ,rB,rT,rE,aI,Bam,Gbm, *]))
 ·intro ys fx
  (refine aD ?_;repeat' (refine aC ?_ ?_<;>intro _<;>try simp (disch:=first|assumption|omega) only[S0,rA,rQ,rB,rT,rE, *]))
theorem Abs (xs ys:(List nS))(hs:szL bE xs<=1099511627776):Fun T 186 [rL xs,rL ys]=some [.bool (decide (xs=ys))]:=by
 rw[aO (t:=Dbj) rfl];unfold Dbj
 have hx:xs.length<=1099511627776:=Bci iE hs;by_cases hl:ys.length=xs.length
 ·simp (disch:=first|assumption|omega) only[S0,rA,rQ,rB,rT,rE, *]
  rw[Ha7 1 xs.length (fun i=>decide (atI xs i=atI ys i)) [.bool false],vE hl.symm]
  ·(refine aD ?_;repeat' (refine aC ?_ ?_<;>intro _<;>try simp (disch:=first|assumption|omega) only[S0,rA,rQ,rB,rT,rE, *]))
  ·intro i hi hp
   have hb:InB xs (i:Int):=aH.2 hi;have di:InB ys (i:Int):=aH.2 (by omega);have h2:decide ((i:Int)<xs.length)=true:=by simp;omega
   have hq:bE (atI xs i)<=1099511627776:=by
    have:=gV (f:=bE) (at_mem hi);omega
   (refine aD ?_;repeat' (refine aC ?_ ?_<;>intro _<;>try simp (disch:=first|assumption|omega) only[S0,rA,rQ,rB,rT,rE,aI,Va0, *]))
  ·intro i hi hp
   have hb:InB xs (i:Int):=aH.2 hi;have di:InB ys (i:Int):=aH.2 (by omega);have h2:decide ((i:Int)<xs.length)=true:=by simp;omega
   have hq:bE (atI xs i)<=1099511627776:=by
    have:=gV (f:=bE) (at_mem hi);omega
   (refine aD ?_;repeat' (refine aC ?_ ?_<;>intro _<;>try simp (disch:=first|assumption|omega) only[S0,rA,rQ,rB,rT,rE,aI,Va0, *]))
  ·have h2:decide ((xs.length:Int)<xs.length)=false:=by simp
   (refine aD ?_;repeat' (refine aC ?_ ?_<;>intro _<;>try simp (disch:=first|assumption|omega) only[S0,rA,rQ,rB,rT,rE, *]))
 ·have fx:((xs.length:Int)==(ys.length:Int))=false:=by simp;omega
  have e:=Dae (fun h=>hl h.symm)
  (refine aD ?_;repeat' (refine aC ?_ ?_<;>intro _<;>try simp (disch:=first|assumption|omega) only[S0,rA,rQ,rB,rT,rE, *]))
theorem Xat (cd dt ae aq aj ah an:Int):Fun T 30 [i64 cd,i64 dt,i64 ae,i64 aq,i64 aj,i64 ah,i64 an]=some [i64 cd,i64 dt,i64 ae,i64 aq,i64 aj,i64 ah,i64 an]:=by
 rw[aO (t:=Rbo) rfl];unfold Rbo
 (refine aD ?_;repeat' (refine aC ?_ ?_<;>intro _<;>try simp (disch:=first|assumption|omega) only[S0,rA,rQ,rB,rT,rE,Ga1, *]))
theorem La7 (cd dt ae aq aj ah an:Int)(hL km bl ct bt bz bw:Int):Fun T 189 [i64 cd,i64 dt,i64 ae,i64 aq,i64 aj,i64 ah,i64 an,i64 hL,i64 km,i64 bl,i64 ct,i64 bt,i64 bz,i64 bw]=some [.bool (decide ((⟨cd,dt,⟨ae,aq,aj,ah,an⟩⟩:bM)=⟨hL,km,⟨bl,ct,bt,bz,bw⟩⟩))]:=by
 rw[aO (t:=Dbg) rfl];unfold Dbg
 have e:decide ((⟨cd,dt,⟨ae,aq,aj,ah,an⟩⟩:bM)=⟨hL,km,⟨bl,ct,bt,bz,bw⟩⟩)=((cd==hL)&&(dt==km)&&decide ((⟨ae,aq,aj,ah,an⟩:Bak)=⟨bl,ct,bt,bz,bw⟩)):=by
  simp only[bM.mk.injEq,Bc5,Cc4,Cc8]
 rw[e]
 (refine aD ?_;repeat' (refine aC ?_ ?_<;>intro _<;>try simp (disch:=first|assumption|omega) only[S0,rA,rQ,rB,rT,rE,Ga3, *]))
theorem uM (xs:(List bM))(l:Int)(h0:0<=l)(h1:l<=1048576)(hw:xs.length<=140737488351232):Fun T 14 [rL xs,i64 l]=some [i64 (szR l (szL (fun _=>0) xs))]:=by
 rw[aO (t:=Rb4) rfl];unfold Rb4
 have es:szL (fun _=>0) xs=xs.length:=fQ;rw[es];by_cases c:(xs.length:Int)<=l
 ·have e:szR l xs.length=l-xs.length:=if_pos c
  have d:decide (l-(xs.length:Int)<0)=false:=by simp;omega
  (refine aD ?_;repeat' (refine aC ?_ ?_<;>intro _<;>try simp (disch:=first|assumption|omega) only[S0,rA,rQ,rB,rT,rE, *]))
 ·have e:szR l xs.length=-1:=if_neg c
  have d:decide (l-(xs.length:Int)<0)=true:=by simp;omega
  (refine aD ?_;repeat' (refine aC ?_ ?_<;>intro _<;>try simp (disch:=first|assumption|omega) only[S0,rA,rQ,rB,rT,rE, *]))
theorem Tao (xs:(List bM))(hs:szL (fun _=>0) xs<=1048576):Fun T 29 [rL xs]=some [rL xs]:=by
 rw[aO (t:=Rbp) rfl];unfold Rbp
 have hl:xs.length<=1048576:=Bci iE hs;simp (disch:=first|assumption|omega) only[S0,rA,rQ,rB,rT,rE,yF,Ac7, *];rw[Ham xs rfl]
 ·(refine aD ?_;repeat' (refine aC ?_ ?_<;>intro _<;>try simp (disch:=first|assumption|omega) only[S0,rA,rQ,rB,rT,rE, *]))
 ·intro i ys hi hb di fx
  (refine aD ?_;repeat' (refine aC ?_ ?_<;>intro _<;>try simp (disch:=first|assumption|omega) only[S0,rA,rQ,rB,rT,rE,aI,Bam,Xat, *]))
 ·intro ys fx
  (refine aD ?_;repeat' (refine aC ?_ ?_<;>intro _<;>try simp (disch:=first|assumption|omega) only[S0,rA,rQ,rB,rT,rE, *]))
theorem Taq (xs ys:(List bM))(hs:szL (fun _=>0) xs<=1099511627776):Fun T 188 [rL xs,rL ys]=some [.bool (decide (xs=ys))]:=by
 rw[aO (t:=Dbh) rfl];unfold Dbh
 have hx:xs.length<=1099511627776:=Bci iE hs;by_cases hl:ys.length=xs.length
 ·simp (disch:=first|assumption|omega) only[S0,rA,rQ,rB,rT,rE, *]
  rw[Ha7 1 xs.length (fun i=>decide (atI xs i=atI ys i)) [.bool false],vE hl.symm]
  ·(refine aD ?_;repeat' (refine aC ?_ ?_<;>intro _<;>try simp (disch:=first|assumption|omega) only[S0,rA,rQ,rB,rT,rE, *]))
  ·intro i hi hp
   have hb:InB xs (i:Int):=aH.2 hi;have di:InB ys (i:Int):=aH.2 (by omega);have h2:decide ((i:Int)<xs.length)=true:=by simp;omega
   (refine aD ?_;repeat' (refine aC ?_ ?_<;>intro _<;>try simp (disch:=first|assumption|omega) only[S0,rA,rQ,rB,rT,rE,aI,La7, *]))
  ·intro i hi hp
   have hb:InB xs (i:Int):=aH.2 hi;have di:InB ys (i:Int):=aH.2 (by omega);have h2:decide ((i:Int)<xs.length)=true:=by simp;omega
   (refine aD ?_;repeat' (refine aC ?_ ?_<;>intro _<;>try simp (disch:=first|assumption|omega) only[S0,rA,rQ,rB,rT,rE,aI,La7, *]))
  ·have h2:decide ((xs.length:Int)<xs.length)=false:=by simp
   (refine aD ?_;repeat' (refine aC ?_ ?_<;>intro _<;>try simp (disch:=first|assumption|omega) only[S0,rA,rQ,rB,rT,rE, *]))
 ·have fx:((xs.length:Int)==(ys.length:Int))=false:=by simp;omega
  have e:=Dae (fun h=>hl h.symm)
  (refine aD ?_;repeat' (refine aC ?_ ?_<;>intro _<;>try simp (disch:=first|assumption|omega) only[S0,rA,rQ,rB,rT,rE, *]))
theorem Vaw (a7:(List nO))(br:(List nS))(aw:(List bM))(l:Int)(h0:0<=l)(h1:l<=1048576)(hw:Maz ⟨a7,br,aw⟩):Fun T 1 [rL a7,rL br,rL aw,i64 l]=some [i64 (szR l (gU ⟨a7,br,aw⟩))]:=by
 rw[aO (t:=tm1) rfl];unfold tm1
 unfold Maz at hw;simp only at hw;obtain⟨w0,w1,w2⟩:=hw;by_cases c0:((szL bA a7:Nat):Int)<=l
 rotate_left
 ·have e0:szR (l) (szL bA a7)=-1:=if_neg c0
  have d0:decide ((-1:Int)<0)=true:=rfl;have e:szR l (gU ⟨a7,br,aw⟩)=-1:=by unfold szR gU;simp only[];split<;>omega
  (refine aD ?_;repeat' (refine aC ?_ ?_<;>intro _<;>try simp (disch:=first|assumption|omega) only[S0,rA,rQ,rB,rT,rE,Cam,Cao,uM, *]))
 have e0:szR (l) (szL bA a7)=l-(szL bA a7:Nat):=if_pos c0;have d0:decide (l-((szL bA a7:Nat):Int)<0)=false:=by simp;omega
 by_cases c1:((szL bE br:Nat):Int)<=l-((szL bA a7:Nat):Int)
 rotate_left
 ·have e1:szR (l-((szL bA a7:Nat):Int)) (szL bE br)=-1:=if_neg c1
  have d1:decide ((-1:Int)<0)=true:=rfl;have e:szR l (gU ⟨a7,br,aw⟩)=-1:=by unfold szR gU;simp only[];split<;>omega
  (refine aD ?_;repeat' (refine aC ?_ ?_<;>intro _<;>try simp (disch:=first|assumption|omega) only[S0,rA,rQ,rB,rT,rE,Cam,Cao,uM, *]))
 have e1:szR (l-((szL bA a7:Nat):Int)) (szL bE br)=l-((szL bA a7:Nat):Int)-(szL bE br:Nat):=if_pos c1;have d1:decide (l-((szL bA a7:Nat):Int)-((szL bE br:Nat):Int)<0)=false:=by simp;omega
 by_cases c2:((szL (fun _=>0) aw:Nat):Int)<=l-((szL bA a7:Nat):Int)-((szL bE br:Nat):Int)
 rotate_left
 ·have e2:szR (l-((szL bA a7:Nat):Int)-((szL bE br:Nat):Int)) (szL (fun _=>0) aw)=-1:=if_neg c2
  have d2:decide ((-1:Int)<0)=true:=rfl;have e:szR l (gU ⟨a7,br,aw⟩)=-1:=by unfold szR gU;simp only[];split<;>omega
  (refine aD ?_;repeat' (refine aC ?_ ?_<;>intro _<;>try simp (disch:=first|assumption|omega) only[S0,rA,rQ,rB,rT,rE,Cam,Cao,uM, *]))
 have e2:szR (l-((szL bA a7:Nat):Int)-((szL bE br:Nat):Int)) (szL (fun _=>0) aw)=l-((szL bA a7:Nat):Int)-((szL bE br:Nat):Int)-(szL (fun _=>0) aw:Nat):=if_pos c2;have d2:decide (l-((szL bA a7:Nat):Int)-((szL bE br:Nat):Int)-((szL (fun _=>0) aw:Nat):Int)<0)=false:=by simp;omega
 have e:szR l (gU ⟨a7,br,aw⟩)=l-((szL bA a7:Nat):Int)-((szL bE br:Nat):Int)-((szL (fun _=>0) aw:Nat):Int):=by unfold szR gU;simp only[];split<;>omega
 (refine aD ?_;repeat' (refine aC ?_ ?_<;>intro _<;>try simp (disch:=first|assumption|omega) only[S0,rA,rQ,rB,rT,rE,Cam,Cao,uM, *]))
theorem Gbl (a7:(List nO))(br:(List nS))(aw:(List bM))(hs:gU ⟨a7,br,aw⟩<=1048576):Fun T 15 [rL a7,rL br,rL aw]=some [rL a7,rL br,rL aw]:=by
 rw[aO (t:=Rb3) rfl];unfold Rb3
 unfold gU at hs;simp only at hs;have s0:szL bA a7<=1048576:=by omega
 have s1:szL bE br<=1048576:=by omega
 have s2:szL (fun _=>0) aw<=1048576:=by omega
 (refine aD ?_;repeat' (refine aC ?_ ?_<;>intro _<;>try simp (disch:=first|assumption|omega) only[S0,rA,rQ,rB,rT,rE,Abm,Abn,Tao, *]))
theorem Gbo (a7:(List nO))(br:(List nS))(aw:(List bM))(ox:(List nO))(qz:(List nS))(mg:(List bM))(hs:gU ⟨a7,br,aw⟩<=1099511627776):Fun T 174 [rL a7,rL br,rL aw,rL ox,rL qz,rL mg]=some [.bool (decide ((⟨a7,br,aw⟩:zY)=⟨ox,qz,mg⟩))]:=by
 rw[aO (t:=Dbv) rfl];unfold Dbv
 unfold gU at hs;simp only at hs;have s0:szL bA a7<=1099511627776:=by omega
 have s1:szL bE br<=1099511627776:=by omega
 have s2:szL (fun _=>0) aw<=1099511627776:=by omega
 have e:decide ((⟨a7,br,aw⟩:zY)=⟨ox,qz,mg⟩)=(decide ((a7:(List nO))=ox)&&decide ((br:(List nS))=qz)&&decide ((aw:(List bM))=mg)):=by
  simp only[zY.mk.injEq,Bc5,Cc4,Cc8]
 rw[e]
 (refine aD ?_;repeat' (refine aC ?_ ?_<;>intro _<;>try simp (disch:=first|assumption|omega) only[S0,rA,rQ,rB,rT,rE,Abr,Abs,Taq, *]))
theorem bY (x lo up:Int):Fun T 89 [i64 x,i64 lo,i64 up]=some [.bool (inR x lo up)]:=by
 rw[aO (t:=Pb1) rfl];unfold Pb1;unfold inR
 (refine aD ?_;repeat' (refine aC ?_ ?_<;>intro _<;>try simp (disch:=first|assumption|omega) only[S0,rA,rQ,rB,rT,rE, *]))
theorem dM (x lo up:Int):Fun T 36 [i64 x,i64 lo,i64 up]=some [.bool (inR x lo up)]:=by
 rw[aO (t:=Rbi) rfl];unfold Rbi;unfold inR
 (refine aD ?_;repeat' (refine aC ?_ ?_<;>intro _<;>try simp (disch:=first|assumption|omega) only[S0,rA,rQ,rB,rT,rE, *]))
theorem iR (n:Int):Fun T 84 [i64 n]=some [.bool (dF n)]:=by
 rw[aO (t:=Pb6) rfl];unfold Pb6;unfold dF
 (refine aD ?_;repeat' (refine aC ?_ ?_<;>intro _<;>try simp (disch:=first|assumption|omega) only[S0,rA,rQ,rB,rT,rE, *]))
theorem gF (n:Int):Fun T 33 [i64 n]=some [.bool (dF n)]:=by
 rw[aO (t:=Rbl) rfl];unfold Rbl;unfold dF
 (refine aD ?_;repeat' (refine aC ?_ ?_<;>intro _<;>try simp (disch:=first|assumption|omega) only[S0,rA,rQ,rB,rT,rE, *]))
theorem Kav (n:Int):Fun T 96 [i64 n]=some [.bool (inR n 0 3)]:=by
 rw[aO (t:=Pbv) rfl];unfold Pbv
 (refine aD ?_;repeat' (refine aC ?_ ?_<;>intro _<;>try simp (disch:=first|assumption|omega) only[S0,rA,rQ,rB,rT,rE,bY, *]))
theorem Kaj (n:Int):Fun T 39 [i64 n]=some [.bool (inR n 0 3)]:=by
 rw[aO (t:=Rbf) rfl];unfold Rbf
 (refine aD ?_;repeat' (refine aC ?_ ?_<;>intro _<;>try simp (disch:=first|assumption|omega) only[S0,rA,rQ,rB,rT,rE,dM, *]))
theorem Say (k i f t a:Int):Fun T 38 [i64 k,i64 i,i64 f,i64 t,i64 a]=some [i64 (Oal ⟨k,i,f,t,a⟩)]:=by
 rw[aO (t:=Rbg) rfl];unfold Rbg;unfold Oal
 (refine aD ?_;repeat' (refine aC ?_ ?_<;>intro _<;>try simp (disch:=first|assumption|omega) only[S0,rA,rQ,rB,rT,rE,Kaj,dM, *]))
theorem gG (k i f t a:Int):Fun T 37 [i64 k,i64 i,i64 f,i64 t,i64 a]=some [.bool (qA ⟨k,i,f,t,a⟩)]:=by
 rw[aO (t:=Rbh) rfl];unfold Rbh;unfold qA
 (refine aD ?_;repeat' (refine aC ?_ ?_<;>intro _<;>try simp (disch:=first|assumption|omega) only[S0,rA,rQ,rB,rT,rE,Say,mI,Hbu, *]))
 all_goals (refine Ga8 ?_;simp only[Zb5,Bcp,Ac2,Bool.not_eq_false',Dcw,Dc5,Aca,beq_iff_eq,beq_eq_false_iff_ne,decide_eq_true_eq,decide_eq_false_iff_not,ne_eq]at *;grind)
theorem fK (k i f t a:Int):Fun T 95 [i64 k,i64 i,i64 f,i64 t,i64 a]=some [.bool (qA ⟨k,i,f,t,a⟩)]:=by
 rw[aO (t:=Pbw) rfl];unfold Pbw;unfold qA
 (refine aD ?_;repeat' (refine aC ?_ ?_<;>intro _<;>try simp (disch:=first|assumption|omega) only[S0,rA,rQ,rB,rT,rE,bY,Kav,mI, *]))
theorem dK (n rep no:Int)(hg:dF n=true):Fun T 35 [i64 n,i64 rep,i64 no]=some [.bool (inst n rep no)]:=by
 rw[aO (t:=Rbj) rfl];unfold Rbj;unfold inst
 have hn:=aV hg
 (refine aD ?_;repeat' (refine aC ?_ ?_<;>intro _<;>try simp (disch:=first|assumption|omega) only[S0,rA,rQ,rB,rT,rE,dM, *]))
theorem bN (n rep no:Int):Fun T 90 [i64 n,i64 rep,i64 no]=some [.bool (dF n&&inst n rep no)]:=by
 rw[aO (t:=Pb0) rfl];unfold Pb0;unfold inst
 cases hg:dF n
 ·(refine aD ?_;repeat' (refine aC ?_ ?_<;>intro _<;>try simp (disch:=first|assumption|omega) only[S0,rA,rQ,rB,rT,rE,iR, *]))
 have hn:=aV hg
 (refine aD ?_;repeat' (refine aC ?_ ?_<;>intro _<;>try simp (disch:=first|assumption|omega) only[S0,rA,rQ,rB,rT,rE,iR,bY, *]))
theorem Xag (xs:List Int)(lo up:Int)(hx:xs.length<=1099511627776):Fun T 47 [rL xs,i64 lo,i64 up]=some [.bool (xs.all fun x=>inR x lo up)]:=by
 rw[aO (t:=Qb7) rfl];unfold Qb7
 simp (disch:=first|assumption|omega) only[S0,rA,rQ,rB,rT,rE,aI, *];rw[Wbh 1 xs (fun x=>inR x lo up) [.bool false]]
 ·(refine aD ?_;repeat' (refine aC ?_ ?_<;>intro _<;>try simp (disch:=first|assumption|omega) only[S0,rA,rQ,rB,rT,rE, *]))
 ·intro i hi hb hl hp
  (refine aD ?_;repeat' (refine aC ?_ ?_<;>intro _<;>try simp (disch:=first|assumption|omega) only[S0,rA,rQ,rB,rT,rE,aI,dM, *]))
 ·intro i hi hb hl hp
  (refine aD ?_;repeat' (refine aC ?_ ?_<;>intro _<;>try simp (disch:=first|assumption|omega) only[S0,rA,rQ,rB,rT,rE,aI,dM, *]))
 ·intro hl
  (refine aD ?_;repeat' (refine aC ?_ ?_<;>intro _<;>try simp (disch:=first|assumption|omega) only[S0,rA,rQ,rB,rT,rE, *]))
theorem oO (n s:Int)(xs:List Int)(hx:xs.length<=1099511627776):Fun T 46 [i64 n,i64 s,rL xs]=some [.bool (mF n ⟨s,xs⟩)]:=by
 rw[aO (t:=Qb8) rfl];unfold Qb8;unfold mF
 (refine aD ?_;repeat' (refine aC ?_ ?_<;>intro _<;>try simp (disch:=first|assumption|omega) only[S0,rA,rQ,rB,rT,rE,dM,Xag, *]))
theorem xL (x:Int):Fun T 100 [i64 x]=some [.bool (!inR x 0 6)]:=by
 rw[aO (t:=Fbu) rfl];unfold Fbu
 (refine aD ?_;repeat' (refine aC ?_ ?_<;>intro _<;>try simp (disch:=first|assumption|omega) only[S0,rA,rQ,rB,rT,rE,bY, *]))
theorem Na2  (xs:List Int)(hx:xs.length<=1099511627776):Fun T 99 [rL xs]=some [i64 (ixF (fun x=>!inR x 0 6) xs)]:=by
 rw[aO (t:=Pbs) rfl];unfold Pbs
 simp (disch:=first|assumption|omega) only[S0,rA,rQ,rB,rT,rE,aI, *];rw[xR 1 xs (fun x=>!inR x 0 6) (fun i=>[i64 i])]
 ·cases h:xs.any (fun x=>!inR x 0 6)
  ·have e:ixF (fun x=>!inR x 0 6) xs=-1:=by
    have h2:=dJ (fun x=>!inR x 0 6) xs;rw[h]at h2;unfold ixF at h2 ⊢;split at h2<;>simp_all
   rw[e];simp (disch:=first|assumption|omega) only[S0,rA,rQ,rB,rT,rE]
  ·simp (disch:=first|assumption|omega) only[S0,rA,rQ,rB,rT,rE]
 ·intro i hi hb hl hp
  (refine aD ?_;repeat' (refine aC ?_ ?_<;>intro _<;>try simp (disch:=first|assumption|omega) only[S0,rA,rQ,rB,rT,rE,aI,xL, *]))
 ·intro i hi hb hl hp
  (refine aD ?_;repeat' (refine aC ?_ ?_<;>intro _<;>try simp (disch:=first|assumption|omega) only[S0,rA,rQ,rB,rT,rE,aI,xL, *]))
 ·intro hl
  (refine aD ?_;repeat' (refine aC ?_ ?_<;>intro _<;>try simp (disch:=first|assumption|omega) only[S0,rA,rQ,rB,rT,rE, *]))
theorem Oah  (xs:List Int)(hx:xs.length<=1099511627776):Fun T 98 [rL xs]=some [.bool (xs.any (fun x=>!inR x 0 6))]:=by
 rw[aO (t:=Pbt) rfl];unfold Pbt
 (refine aD ?_;repeat' (refine aC ?_ ?_<;>intro _<;>try simp (disch:=first|assumption|omega) only[S0,rA,rQ,rB,rT,rE,Na2,dJ, *]))
theorem lY (n s:Int)(xs:List Int)(hx:xs.length<=1099511627776):Fun T 97 [i64 n,i64 s,rL xs]=some [.bool (dF n&&mF n ⟨s,xs⟩)]:=by
 rw[aO (t:=Pbu) rfl];unfold Pbu;unfold mF
 have e:xs.any (fun x=>!inR x 0 6)=!xs.all fun x=>inR x 0 6:=by rw[Ccm]
 (refine aD ?_;repeat' (refine aC ?_ ?_<;>intro _<;>try simp (disch:=first|assumption|omega) only[S0,rA,rQ,rB,rT,rE,iR,bY,Oah,e,Bool.not_not, *]))
theorem Aaw (xs ys:List Int)(hx:xs.length<=1099511627776):Fun T 45 [rL xs,rL ys]=some [.bool (decide (xs=ys))]:=by
 rw[aO (t:=Qb9) rfl];unfold Qb9
 by_cases hl:ys.length=xs.length
 ·simp (disch:=first|assumption|omega) only[S0,rA,rQ,rB,rT,rE, *]
  rw[Ha7 1 xs.length (fun i=>decide (atI xs i=atI ys i)) [.bool false],vE hl.symm]
  ·(refine aD ?_;repeat' (refine aC ?_ ?_<;>intro _<;>try simp (disch:=first|assumption|omega) only[S0,rA,rQ,rB,rT,rE, *]))
  ·intro i hi hp
   have hb:InB xs (i:Int):=aH.2 hi;have di:InB ys (i:Int):=aH.2 (by omega);have h2:decide ((i:Int)<xs.length)=true:=by simp;omega
   have h3:(atI xs i==atI ys i)=true:=by simpa using hp
   (refine aD ?_;repeat' (refine aC ?_ ?_<;>intro _<;>try simp (disch:=first|assumption|omega) only[S0,rA,rQ,rB,rT,rE,aI, *]))
  ·intro i hi hp
   have hb:InB xs (i:Int):=aH.2 hi;have di:InB ys (i:Int):=aH.2 (by omega);have h2:decide ((i:Int)<xs.length)=true:=by simp;omega
   have h3:(atI xs i==atI ys i)=false:=by simpa using hp
   (refine aD ?_;repeat' (refine aC ?_ ?_<;>intro _<;>try simp (disch:=first|assumption|omega) only[S0,rA,rQ,rB,rT,rE,aI, *]))
  ·have h2:decide ((xs.length:Int)<xs.length)=false:=by simp
   (refine aD ?_;repeat' (refine aC ?_ ?_<;>intro _<;>try simp (disch:=first|assumption|omega) only[S0,rA,rQ,rB,rT,rE, *]))
 ·have fx:((xs.length:Int)==(ys.length:Int))=false:=by simp;omega
  have e:=Dae (fun h=>hl h.symm)
  (refine aD ?_;repeat' (refine aC ?_ ?_<;>intro _<;>try simp (disch:=first|assumption|omega) only[S0,rA,rQ,rB,rT,rE, *]))
theorem slices_Equal_int (xs ys:List Int)(hx:xs.length<=1099511627776):Fun T 103 [rL xs,rL ys]=some [.bool (decide (xs=ys))]:=by
 rw[aO (t:=Fbr) rfl];unfold Fbr
 by_cases hl:ys.length=xs.length
 ·simp (disch:=first|assumption|omega) only[S0,rA,rQ,rB,rT,rE, *]
  rw[Ha7 1 xs.length (fun i=>decide (atI xs i=atI ys i)) [.bool false],vE hl.symm]
  ·(refine aD ?_;repeat' (refine aC ?_ ?_<;>intro _<;>try simp (disch:=first|assumption|omega) only[S0,rA,rQ,rB,rT,rE, *]))
  ·intro i hi hp
   have hb:InB xs (i:Int):=aH.2 hi;have di:InB ys (i:Int):=aH.2 (by omega);have h2:decide ((i:Int)<xs.length)=true:=by simp;omega
   have h3:(atI xs i==atI ys i)=true:=by simpa using hp
   (refine aD ?_;repeat' (refine aC ?_ ?_<;>intro _<;>try simp (disch:=first|assumption|omega) only[S0,rA,rQ,rB,rT,rE,aI, *]))
  ·intro i hi hp
   have hb:InB xs (i:Int):=aH.2 hi;have di:InB ys (i:Int):=aH.2 (by omega);have h2:decide ((i:Int)<xs.length)=true:=by simp;omega
   have h3:(atI xs i==atI ys i)=false:=by simpa using hp
   (refine aD ?_;repeat' (refine aC ?_ ?_<;>intro _<;>try simp (disch:=first|assumption|omega) only[S0,rA,rQ,rB,rT,rE,aI, *]))
  ·have h2:decide ((xs.length:Int)<xs.length)=false:=by simp
   (refine aD ?_;repeat' (refine aC ?_ ?_<;>intro _<;>try simp (disch:=first|assumption|omega) only[S0,rA,rQ,rB,rT,rE, *]))
 ·have fx:((xs.length:Int)==(ys.length:Int))=false:=by simp;omega
  have e:=Dae (fun h=>hl h.symm)
  (refine aD ?_;repeat' (refine aC ?_ ?_<;>intro _<;>try simp (disch:=first|assumption|omega) only[S0,rA,rQ,rB,rT,rE, *]))
theorem jZ (s s':Int)(xs ys:List Int)(hx:xs.length<=1099511627776):Fun T 44 [i64 s,rL xs,i64 s',rL ys]=some [.bool (decide ((⟨s,xs⟩:fT)=⟨s',ys⟩))]:=by
 rw[aO (t:=Rba) rfl];unfold Rba
 have e:decide ((⟨s,xs⟩:fT)=⟨s',ys⟩)=(s==s'&&decide (xs=ys)):=by simp[fT.mk.injEq,Bc5]
 (refine aD ?_;repeat' (refine aC ?_ ?_<;>intro _<;>try simp (disch:=first|assumption|omega) only[S0,rA,rQ,rB,rT,rE,Aaw,e, *]))
theorem eF (s s':Int)(xs ys:List Int)(hx:xs.length<=1099511627776):Fun T 102 [i64 s,rL xs,i64 s',rL ys]=some [.bool (decide ((⟨s,xs⟩:fT)=⟨s',ys⟩))]:=by
 rw[aO (t:=Fbs) rfl];unfold Fbs
 have e:decide ((⟨s,xs⟩:fT)=⟨s',ys⟩)=(s==s'&&decide (xs=ys)):=by simp[fT.mk.injEq,Bc5]
 (refine aD ?_;repeat' (refine aC ?_ ?_<;>intro _<;>try simp (disch:=first|assumption|omega) only[S0,rA,rQ,rB,rT,rE,slices_Equal_int,e, *]))
theorem mO (n:Int)(hg:dF n=true):Fun T 43 [i64 n]=some [i64 (none0 n).seq,rL (none0 n).deps]:=by
 rw[aO (t:=Rbb) rfl];unfold Rbb;unfold none0
 have hn:=aV hg
 (refine aD ?_;repeat' (refine aC ?_ ?_<;>intro _<;>try simp (disch:=first|assumption|omega) only[S0,rA,rQ,rB,rT,rE,yF, *]))
theorem eD (n:Int)(hg:dF n=true):Fun T 101 [i64 n]=some [i64 (none0 n).seq,rL (none0 n).deps]:=by
 rw[aO (t:=Fbt) rfl];unfold Fbt;unfold none0
 have hn:=aV hg
 (refine aD ?_;repeat' (refine aC ?_ ?_<;>intro _<;>try simp (disch:=first|assumption|omega) only[S0,rA,rQ,rB,rT,rE,yF, *]))
theorem yQ (n bal vot sta k i f t a sq:Int)(xs:List Int)(hg:dF n=true)(hx:xs.length<=1099511627776) :
  Fun T 42 [i64 n,i64 bal,i64 vot,i64 sta,i64 k,i64 i,i64 f,i64 t,i64 a,i64 sq,rL xs]=some [.bool (rowOk n ⟨bal,vot,sta,⟨k,i,f,t,a⟩,⟨sq,xs⟩⟩)]:=by
 rw[aO (t:=Rbc) rfl];unfold Rbc;unfold rowOk
 (refine aD ?_;repeat' (refine aC ?_ ?_<;>intro _<;>try simp (disch:=first|assumption|omega) only[S0,rA,rQ,rB,rT,rE,dM,mI,mO,jZ,gG,oO, *]))
theorem xH (n bal vot sta k i f t a sq:Int)(xs:List Int)(hg:dF n=true)(hx:xs.length<=1099511627776) :
  Fun T 94 [i64 n,i64 bal,i64 vot,i64 sta,i64 k,i64 i,i64 f,i64 t,i64 a,i64 sq,rL xs]=some [.bool (rowOk n ⟨bal,vot,sta,⟨k,i,f,t,a⟩,⟨sq,xs⟩⟩)]:=by
 rw[aO (t:=Pbx) rfl];unfold Pbx;unfold rowOk
 have h1:=@Cbm ⟨k,i,f,t,a⟩;have h2:=Nap hg;have h3:decide ((⟨sq,xs⟩:fT)=none0 n)=true->mF n ⟨sq,xs⟩=true:=fun h=>by rw[of_decide_eq_true h];exact h2
 (refine aD ?_;repeat' (refine aC ?_ ?_<;>intro _<;>try simp (disch:=first|assumption|omega) only[S0,rA,rQ,rB,rT,rE,bY,mI,eD,eF,fK,lY, *]))
 all_goals (refine Ga8 ?_;simp only[Zb5,Bcp,Ac2,Bool.not_eq_false',Dcw,Dc5,Aca,beq_iff_eq,beq_eq_false_iff_ne,decide_eq_true_eq,decide_eq_false_iff_not,ne_eq]at *;grind)
theorem slices_Clone_int (xs:List Int)(hx:xs.length<=10000000000):Fun T 93 [rL xs]=some [rL xs]:=by
 rw[Oau (e:=Wbg) rfl]
 cases xs with
 |nil=>rfl
 | cons x xs =>
  show Fun (Raq [(93,.tm Lbp)]) 93 [rL (x::xs)]=_
  rw[aO (t:=Lbp) rfl];unfold Lbp;have qj:(x::xs).length<=100000000000:=by omega
  have h0:(aU.mk 1 0).run []=some [.rows 1 []]:=rfl;have h1:(x::xs).isEmpty=false:=rfl;simp (disch:=first|assumption|omega) only[SA,SB,SC,SP,SQ,SZ,reduceIte,reduceCtorEq,Nat.reduceAdd,Nat.reduceEqDiff,Sbz,Obt,h0,h1,iA]
theorem vR (s:Int)(xs:List Int)(hx:xs.length<=10000000000):Fun T 92 [i64 s,rL xs]=some [i64 s,rL xs]:=by
 rw[aO (t:=Pby) rfl];unfold Pby
 (refine aD ?_;repeat' (refine aC ?_ ?_<;>intro _<;>try simp (disch:=first|assumption|omega) only[S0,rA,rQ,rB,rT,rE,slices_Clone_int, *]))
theorem Qa4 (fv jy jx jz np eA gm fe cU eN ee dT ec cP:Int)(bk:(List Int))(hx:bk.length<=10000000000):Fun T 91 [i64 fv,i64 jy,i64 jx,i64 jz,i64 np,i64 eA,i64 gm,i64 fe,i64 cU,i64 eN,i64 ee,i64 dT,i64 ec,i64 cP,rL bk]=some [i64 eA,i64 gm,i64 fe,i64 cU,i64 eN,i64 ee,i64 dT,i64 ec,i64 cP,rL bk]:=by
 rw[aO (t:=Pbz) rfl];unfold Pbz
 (refine aD ?_;repeat' (refine aC ?_ ?_<;>intro _<;>try simp (disch:=first|assumption|omega) only[S0,rA,rQ,rB,rT,rE,vR, *]))
theorem Pat (n:Int)(fv jy jx jz np eA gm fe cU eN ee dT ec cP:Int)(bk:(List Int))(hx:bk.length<=10000000000):Fun T 51 [i64 n,i64 fv,i64 jy,i64 jx,i64 jz,i64 np,i64 eA,i64 gm,i64 fe,i64 cU,i64 eN,i64 ee,i64 dT,i64 ec,i64 cP,rL bk]=some [.bool (zP n ⟨fv,jy,jx,jz,np,eA,gm,fe,⟨cU,eN,ee,dT,ec⟩,⟨cP,bk⟩⟩)]:=by
 rw[aO (t:=Qb3) rfl];unfold Qb3;unfold zP
 have qj:bk.length<=1099511627776:=by omega
 cases hg:dF n
 ·(refine aD ?_;repeat' (refine aC ?_ ?_<;>intro _<;>try simp (disch:=first|assumption|omega) only[S0,rA,rQ,rB,rT,rE,gF, *]))
 have hn:=aV hg
 (refine aD ?_;repeat' (refine aC ?_ ?_<;>intro _<;>try simp (disch:=first|assumption|omega) only[S0,rA,rQ,rB,rT,rE,gF,dM,dK,yQ,oO,gG,mI,mO,jZ, *]))
 all_goals (refine Ga8 ?_;simp only[Zb5,Bcp,Ac2,Bool.not_eq_false',Dcw,Dc5,Aca,beq_iff_eq,beq_eq_false_iff_ne,decide_eq_true_eq,decide_eq_false_iff_not,ne_eq]at *;grind)
theorem Qa5 (n:Int)(fv jy jx jz np eA gm fe cU eN ee dT ec cP:Int)(bk:(List Int))(hx:bk.length<=10000000000):Fun T 88 [i64 n,i64 fv,i64 jy,i64 jx,i64 jz,i64 np,i64 eA,i64 gm,i64 fe,i64 cU,i64 eN,i64 ee,i64 dT,i64 ec,i64 cP,rL bk]=some [.bool (zP n ⟨fv,jy,jx,jz,np,eA,gm,fe,⟨cU,eN,ee,dT,ec⟩,⟨cP,bk⟩⟩)]:=by
 rw[aO (t:=Pb2) rfl];unfold Pb2;unfold zP
 have qj:bk.length<=1099511627776:=by omega
 cases hg:dF n
 ·(refine aD ?_;repeat' (refine aC ?_ ?_<;>intro _<;>try simp (disch:=first|assumption|omega) only[S0,rA,rQ,rB,rT,rE,bN,bY, *]))
 have hn:=aV hg;have hk:inR fv 1 7=true->1<=fv/\fv<=7:=by simp[inR]
 (refine aD ?_;repeat' (refine aC ?_ ?_<;>intro _<;>try simp (disch:=first|assumption|omega) only[S0,rA,rQ,rB,rT,rE,bN,bY,Qa4,xH,lY,fK,mI,eD,eF, *]))
 all_goals (refine Ga8 ?_;simp only[Zb5,Bcp,Ac2,Bool.not_eq_false',Dcw,Dc5,Aca,beq_iff_eq,beq_eq_false_iff_ne,decide_eq_true_eq,decide_eq_false_iff_not,ne_eq]at *;grind)
theorem gW (n:Int)(rows:List (List bU))(hs:lQ rows):Fun T 41 [i64 n,rL rows]=some [.bool (bJ ⟨n,rows⟩)]:=by
 rw[aO (t:=Rbd) rfl];unfold Rbd;unfold bJ
 obtain⟨oA,lz⟩:=hs;cases hg:dF n
 ·(refine aD ?_;repeat' (refine aC ?_ ?_<;>intro _<;>try simp (disch:=first|assumption|omega) only[S0,rA,rQ,rB,rT,rE,gF, *]))
 cases hl:(rows.length:Int)==n
 ·(refine aD ?_;repeat' (refine aC ?_ ?_<;>intro _<;>try simp (disch:=first|assumption|omega) only[S0,rA,rQ,rB,rT,rE,gF, *]))
 simp (disch:=first|assumption|omega) only[S0,rA,rQ,rB,rT,rE,gF, *];rw[Sad 1 rows (fun l=>l.all (fun r=>rowOk n r)&&decide ((l.length:Int)<=6)) [.bool false]]
 ·(refine aD ?_;repeat' (refine aC ?_ ?_<;>intro _<;>try simp (disch:=first|assumption|omega) only[S0,rA,rQ,rB,rT,rE, *]))
 ·intro i hi hb hlt hm
  obtain⟨kn,jr⟩:=lz _ hm;simp (disch:=first|assumption|omega) only[S0,rA,rQ,rB,rT,rE,aI, *];rw[Sad 3 (atI rows i) (fun r=>rowOk n r) [.bool false]]
  ·have e:decide (6<((atI rows (i:Int)).length:Int))=!decide (((atI rows (i:Int)).length:Int)<=6):=by
    by_cases h:((atI rows (i:Int)).length:Int)<=6
    ·simp[h]
    ·simp[h];omega
   (refine aD ?_;repeat' (refine aC ?_ ?_<;>intro _<;>try simp (disch:=first|assumption|omega) only[S0,rA,rQ,rB,rT,rE,e, *]))
  ·intro j hj gx a8 hm2
   have hq3:=jr _ hm2;have hq4:(atI (atI rows (i:Int)) (j:Int)).attr.deps.length<=1099511627776:=by omega
   (refine aD ?_;repeat' (refine aC ?_ ?_<;>intro _<;>try simp (disch:=first|assumption|omega) only[S0,rA,rQ,rB,rT,rE,aI,yQ, *]))
  ·intro jb
   (refine aD ?_;repeat' (refine aC ?_ ?_<;>intro _<;>try simp (disch:=first|assumption|omega) only[S0,rA,rQ,rB,rT,rE, *]))
 ·intro jb
  (refine aD ?_;repeat' (refine aC ?_ ?_<;>intro _<;>try simp (disch:=first|assumption|omega) only[S0,rA,rQ,rB,rT,rE, *]))
theorem qZ (b9 dj cn bg b7 bo bn bp bf:Int)(av:(List Int))(n:Int)(rows:List (List bU))(hg:dF n=true)(hx:av.length<=1099511627776):Fun T 111 [i64 b9,i64 dj,i64 cn,i64 bg,i64 b7,i64 bo,i64 bn,i64 bp,i64 bf,rL av,i64 n,rL rows]=some [.bool (!rowOk n ⟨b9,dj,cn,⟨bg,b7,bo,bn,bp⟩,⟨bf,av⟩⟩)]:=by
 rw[aO (t:=Fbj) rfl];unfold Fbj
 (refine aD ?_;repeat' (refine aC ?_ ?_<;>intro _<;>try simp (disch:=first|assumption|omega) only[S0,rA,rQ,rB,rT,rE,xH, *]))
theorem Gah (n:Int)(rows:List (List bU))(hg:dF n=true)(xs:List bU)(hx:xs.length<=1099511627776)(hq:∀ x∈xs,x.attr.deps.length<=1099511627776):Fun T 110 [rL xs,i64 n,rL rows]=some [i64 (ixF (fun r=>!rowOk n r) xs)]:=by
 rw[aO (t:=Fbk) rfl];unfold Fbk
 simp (disch:=first|assumption|omega) only[S0,rA,rQ,rB,rT,rE,aI, *];rw[xR 1 xs (fun r=>!rowOk n r) (fun i=>[i64 i])]
 ·cases h:xs.any (fun r=>!rowOk n r)
  ·have e:ixF (fun r=>!rowOk n r) xs=-1:=by
    have h2:=dJ (fun r=>!rowOk n r) xs;rw[h]at h2;unfold ixF at h2 ⊢;split at h2<;>simp_all
   rw[e];simp (disch:=first|assumption|omega) only[S0,rA,rQ,rB,rT,rE]
  ·simp (disch:=first|assumption|omega) only[S0,rA,rQ,rB,rT,rE]
 ·intro i hi hb hl hp
  have k8:=hq _ (at_mem hi)
  try simp only at k8 hp
  (refine aD ?_;repeat' (refine aC ?_ ?_<;>intro _<;>try simp (disch:=first|assumption|omega) only[S0,rA,rQ,rB,rT,rE,aI,qZ, *]))
 ·intro i hi hb hl hp
  have k8:=hq _ (at_mem hi)
  try simp only at k8 hp
  (refine aD ?_;repeat' (refine aC ?_ ?_<;>intro _<;>try simp (disch:=first|assumption|omega) only[S0,rA,rQ,rB,rT,rE,aI,qZ, *]))
 ·intro hl
  (refine aD ?_;repeat' (refine aC ?_ ?_<;>intro _<;>try simp (disch:=first|assumption|omega) only[S0,rA,rQ,rB,rT,rE, *]))
theorem Gan (n:Int)(rows:List (List bU))(hg:dF n=true)(xs:List bU)(hx:xs.length<=1099511627776)(hq:∀ x∈xs,x.attr.deps.length<=1099511627776):Fun T 109 [rL xs,i64 n,rL rows]=some [.bool (xs.any (fun r=>!rowOk n r))]:=by
 rw[aO (t:=Fbl) rfl];unfold Fbl
 (refine aD ?_;repeat' (refine aC ?_ ?_<;>intro _<;>try simp (disch:=first|assumption|omega) only[S0,rA,rQ,rB,rT,rE,Gah,dJ, *]))
theorem vQ (l:List bU)(n:Int)(rows:List (List bU))(hg:dF n=true)(hx:l.length<=1099511627776)(hq:∀ x∈l,x.attr.deps.length<=1099511627776):Fun T 108 [rL l,i64 n,rL rows]=some [.bool (decide (6<(l.length:Int))||l.any fun r=>!rowOk n r)]:=by
 rw[aO (t:=Fbm) rfl];unfold Fbm
 (refine aD ?_;repeat' (refine aC ?_ ?_<;>intro _<;>try simp (disch:=first|assumption|omega) only[S0,rA,rQ,rB,rT,rE,Gan, *]))
theorem Kat (n:Int)(rows:List (List bU))(hg:dF n=true)(xs:List (List bU))(hx:xs.length<=1099511627776)(hq:∀ x∈xs,x.length<=1099511627776/\∀ y∈x,y.attr.deps.length<=1099511627776):Fun T 107 [rL xs,i64 n,rL rows]=some [i64 (ixF (fun l=>decide (6<(l.length:Int))||l.any fun r=>!rowOk n r) xs)]:=by
 rw[aO (t:=Fbn) rfl];unfold Fbn
 simp (disch:=first|assumption|omega) only[S0,rA,rQ,rB,rT,rE,aI, *];rw[xR 1 xs (fun l=>decide (6<(l.length:Int))||l.any fun r=>!rowOk n r) (fun i=>[i64 i])]
 ·cases h:xs.any (fun l=>decide (6<(l.length:Int))||l.any fun r=>!rowOk n r)
  ·have e:ixF (fun l=>decide (6<(l.length:Int))||l.any fun r=>!rowOk n r) xs=-1:=by
    have h2:=dJ (fun l=>decide (6<(l.length:Int))||l.any fun r=>!rowOk n r) xs;rw[h]at h2;unfold ixF at h2 ⊢;split at h2<;>simp_all
   rw[e];simp (disch:=first|assumption|omega) only[S0,rA,rQ,rB,rT,rE]
  ·simp (disch:=first|assumption|omega) only[S0,rA,rQ,rB,rT,rE]
 ·intro i hi hb hl hp
  have k8:=hq _ (at_mem hi)
  try simp only at k8 hp
  obtain⟨kn,jr⟩:=k8
  (refine aD ?_;repeat' (refine aC ?_ ?_<;>intro _<;>try simp (disch:=first|assumption|omega) only[S0,rA,rQ,rB,rT,rE,aI,vQ, *]))
 ·intro i hi hb hl hp
  have k8:=hq _ (at_mem hi)
  try simp only at k8 hp
  obtain⟨kn,jr⟩:=k8
  (refine aD ?_;repeat' (refine aC ?_ ?_<;>intro _<;>try simp (disch:=first|assumption|omega) only[S0,rA,rQ,rB,rT,rE,aI,vQ, *]))
 ·intro hl
  (refine aD ?_;repeat' (refine aC ?_ ?_<;>intro _<;>try simp (disch:=first|assumption|omega) only[S0,rA,rQ,rB,rT,rE, *]))
theorem Ka1 (n:Int)(rows:List (List bU))(hg:dF n=true)(xs:List (List bU))(hx:xs.length<=1099511627776)(hq:∀ x∈xs,x.length<=1099511627776/\∀ y∈x,y.attr.deps.length<=1099511627776):Fun T 106 [rL xs,i64 n,rL rows]=some [.bool (xs.any (fun l=>decide (6<(l.length:Int))||l.any fun r=>!rowOk n r))]:=by
 rw[aO (t:=Fbo) rfl];unfold Fbo
 (refine aD ?_;repeat' (refine aC ?_ ?_<;>intro _<;>try simp (disch:=first|assumption|omega) only[S0,rA,rQ,rB,rT,rE,Kat,dJ, *]))
theorem rV (n:Int)(rows:List (List bU))(hs:lQ rows):Fun T 105 [i64 n,rL rows]=some [.bool (bJ ⟨n,rows⟩)]:=by
 rw[aO (t:=Fbp) rfl];unfold Fbp;unfold bJ
 obtain⟨oA,lz⟩:=hs;have hs3:∀ x∈rows,x.length<=1099511627776/\∀ y∈x,y.attr.deps.length<=1099511627776:=fun x hx=>⟨by have:=(lz x hx).1;omega,fun y hy=>by have:=(lz x hx).2 y hy;omega⟩
 have e:(rows.any fun l=>decide (6<(l.length:Int))||l.any fun r=>!rowOk n r)=!rows.all fun l=>l.all (fun r=>rowOk n r)&&decide ((l.length:Int)<=6):=by
  rw[Ccm];congr 1;funext l;rw[<- Ccm,Bool.not_and,Bool.or_comm];congr 1;by_cases h:(l.length:Int)<=6
  ·simp[h]
  ·simp[h];omega
 (refine aD ?_;repeat' (refine aC ?_ ?_<;>intro _<;>try simp (disch:=first|assumption|omega) only[S0,rA,rQ,rB,rT,rE,iR,Ka1,e,Bool.not_not, *]))
theorem Lah (xs:List Int)(hx:xs.length<=10000000000):Fun T 57 [rL xs]=some [rL xs]:=by
 rw[aO (t:=Qbx) rfl];unfold Qbx
 have h0:(aU.mk 1 0).run []=some [.rows 1 []]:=rfl
 (refine aD ?_;repeat' (refine aC ?_ ?_<;>intro _<;>try simp (disch:=first|assumption|omega) only[S0,rA,rQ,rB,rT,rE,h0,iA, *]))
theorem Kai (s:Int)(xs:List Int)(hx:xs.length<=10000000000):Fun T 56 [i64 s,rL xs]=some [i64 s,rL xs]:=by
 rw[aO (t:=Qby) rfl];unfold Qby
 (refine aD ?_;repeat' (refine aC ?_ ?_<;>intro _<;>try simp (disch:=first|assumption|omega) only[S0,rA,rQ,rB,rT,rE,Lah, *]))
theorem uC (b9 dj cn bg b7 bo bn bp bf:Int)(av:(List Int))(hx:av.length<=10000000000):Fun T 55 [i64 b9,i64 dj,i64 cn,i64 bg,i64 b7,i64 bo,i64 bn,i64 bp,i64 bf,rL av]=some [i64 b9,i64 dj,i64 cn,i64 bg,i64 b7,i64 bo,i64 bn,i64 bp,i64 bf,rL av]:=by
 rw[aO (t:=Qbz) rfl];unfold Qbz
 (refine aD ?_;repeat' (refine aC ?_ ?_<;>intro _<;>try simp (disch:=first|assumption|omega) only[S0,rA,rQ,rB,rT,rE,Kai, *]))
theorem xK (b9 dj cn bg b7 bo bn bp bf:Int)(av:(List Int))(hx:av.length<=10000000000):Fun T 135 [i64 b9,i64 dj,i64 cn,i64 bg,i64 b7,i64 bo,i64 bn,i64 bp,i64 bf,rL av]=some [i64 b9,i64 dj,i64 cn,i64 bg,i64 b7,i64 bo,i64 bn,i64 bp,i64 bf,rL av]:=by
 rw[aO (t:=Ebv) rfl];unfold Ebv
 (refine aD ?_;repeat' (refine aC ?_ ?_<;>intro _<;>try simp (disch:=first|assumption|omega) only[S0,rA,rQ,rB,rT,rE,vR, *]))
theorem jB (n:Int)(rows:List (List bU))(rep no:Int)(hg:dF n=true)(hs:lQ rows)(hb:InB rows rep)(h1:1<=no)(h2:no<=1000):Fun T 54 [i64 n,rL rows,i64 rep,i64 no]=some [i64 (eT ⟨n,rows⟩ rep no).ballot,i64 (eT ⟨n,rows⟩ rep no).vote,i64 (eT ⟨n,rows⟩ rep no).state,i64 (eT ⟨n,rows⟩ rep no).cmd.kind,i64 (eT ⟨n,rows⟩ rep no).cmd.id,i64 (eT ⟨n,rows⟩ rep no).cmd.src,i64 (eT ⟨n,rows⟩ rep no).cmd.dst,i64 (eT ⟨n,rows⟩ rep no).cmd.amt,i64 (eT ⟨n,rows⟩ rep no).attr.seq,rL (eT ⟨n,rows⟩ rep no).attr.deps]:=by
 rw[aO (t:=Qb0) rfl];unfold Qb0;unfold eT row0
 have hq:=hs.2 _ (fV hb);by_cases h:no<=(atI rows rep).length
 ·have h3:decide (((atI rows rep).length:Int)<no)=false:=by simp;omega
  have gx:InB (atI rows rep) (no-1):=by unfold InB;omega
  have jr:=hq.2 _ (fV gx)
  (refine aD ?_;repeat' (refine aC ?_ ?_<;>intro _<;>try simp (disch:=first|assumption|omega) only[S0,rA,rQ,rB,rT,rE,aI,uC, *]))
 ·have h3:decide (((atI rows rep).length:Int)<no)=true:=by simp;omega
  (refine aD ?_;repeat' (refine aC ?_ ?_<;>intro _<;>try simp (disch:=first|assumption|omega) only[S0,rA,rQ,rB,rT,rE,aI,mO, *]))
theorem bH (n:Int)(rows:List (List bU))(rep no:Int)(hg:dF n=true)(hs:lQ rows)(hb:InB rows rep)(h1:1<=no)(h2:no<=1000):Fun T 134 [i64 n,rL rows,i64 rep,i64 no]=some [i64 (eT ⟨n,rows⟩ rep no).ballot,i64 (eT ⟨n,rows⟩ rep no).vote,i64 (eT ⟨n,rows⟩ rep no).state,i64 (eT ⟨n,rows⟩ rep no).cmd.kind,i64 (eT ⟨n,rows⟩ rep no).cmd.id,i64 (eT ⟨n,rows⟩ rep no).cmd.src,i64 (eT ⟨n,rows⟩ rep no).cmd.dst,i64 (eT ⟨n,rows⟩ rep no).cmd.amt,i64 (eT ⟨n,rows⟩ rep no).attr.seq,rL (eT ⟨n,rows⟩ rep no).attr.deps]:=by
 rw[aO (t:=Ebw) rfl];unfold Ebw;unfold eT row0
 have hq:=hs.2 _ (fV hb);by_cases h:no<=(atI rows rep).length
 ·have h3:decide (no<=((atI rows rep).length:Int))=true:=by simp;omega
  have gx:InB (atI rows rep) (no-1):=by unfold InB;omega
  have jr:=hq.2 _ (fV gx)
  (refine aD ?_;repeat' (refine aC ?_ ?_<;>intro _<;>try simp (disch:=first|assumption|omega) only[S0,rA,rQ,rB,rT,rE,aI,xK, *]))
 ·have h3:decide (no<=((atI rows rep).length:Int))=false:=by simp;omega
  (refine aD ?_;repeat' (refine aC ?_ ?_<;>intro _<;>try simp (disch:=first|assumption|omega) only[S0,rA,rQ,rB,rT,rE,aI,eD, *]))
theorem Lag (n:Int)(hg:dF n=true):Fun T 60 [i64 n]=some [i64 n,rL (Acm n.toNat ([]:List bU))]:=by
 rw[aO (t:=Qbu) rfl];unfold Qbu
 have hn:=aV hg
 (refine aD ?_;repeat' (refine aC ?_ ?_<;>intro _<;>try simp (disch:=first|assumption|omega) only[S0,rA,rQ,rB,rT,rE,yF, *]))
theorem Laf (n:Int)(rows:List (List bU))(hg:dF n=true)(hl:(rows.length:Int)=n)(hs:lQ rows):Fun T 62 [i64 n,rL rows]=some [i64 n,rL rows]:=by
 rw[aO (t:=Qbs) rfl];unfold Qbs
 obtain⟨oA,lz⟩:=hs;have hn:=aV hg;have e0:Acm n.toNat ([]:List bU)=upto [] rows 0:=by rw[Oa6];congr 1;omega
 simp (disch:=first|assumption|omega) only[SA,SB,SC,SP,SQ,SZ,reduceIte,reduceCtorEq,Nat.reduceAdd,Nat.reduceEqDiff,Lag];rw[jQ rows.length (fun i=>[i64 i,rL (upto [] rows i)]) (.yield 1,[rL rows]) (by rw[e0];rfl) (by simp)]
 ·(refine aD ?_;repeat' (refine aC ?_ ?_<;>intro _<;>try simp (disch:=first|assumption|omega) only[S0,rA,rQ,rB,rT,rE, *]))
 ·intro i hi hlt
  have hb:InB rows (i:Int):=aH.2 hi;have hq:=lz _ (at_mem hi);have hu:(upto [] rows i).length=rows.length:=Uar [] rows (Nat.le_of_lt hi);have rK:InB (upto [] rows i) (i:Int):=aH.2 (by rw[hu];exact hi)
  have u9:upto [] rows i=iM (upto [] rows i) i ((atI rows (i:Int)).take 0):=by
   have:atI (upto [] rows i) (i:Int)=[]:=by
    unfold upto;rw[Oao,List.getD_eq_getElem?_getD,List.getElem?_append_right (by rw[Ac1];omega),List.getElem?_replicate];split<;>rfl
   have h3:=Sa8 rK;rw[this]at h3;rw[List.take_zero];exact h3.symm
  have ql:iM (upto [] rows i) i (atI rows (i:Int))=upto [] rows (i+1):=by
   rw[iM];exact Uaq [] rows (by rw[bB hi];exact List.getElem?_eq_getElem hi)
  obtain⟨kn,jr⟩:=hq;have hr:rows.length<=10:=by omega
  simp (disch:=first|assumption|omega) only[S0,rA,rQ,rB,rT,rE,aI,hlt];rw[jQ (atI rows (i:Int)).length (fun j=>[i64 j,rL (iM (upto [] rows i) i ((atI rows (i:Int)).take j))]) (.yield 3,[rL (upto [] rows (i+1))]) (by rw[<- u9];rfl) (by simp)]
  ·clear hu u9 ql
   simp (disch:=first|assumption|omega) only[S0,rA,rQ,rB,rT,rE]
  ·intro j hj a8
   have gx:InB (atI rows (i:Int)) (j:Int):=aH.2 hj;have hq3:=jr _ (at_mem hj)
   have ha:atI (iM (upto [] rows i) (i:Int) ((atI rows (i:Int)).take j)) (i:Int)=(atI rows (i:Int)).take j:=by
    have:=Bal;exact this.1 rK
   have zm:InB (iM (upto [] rows i) (i:Int) ((atI rows (i:Int)).take j)) (i:Int):=aH.2 (by rw[iM,Ccj,hu];exact hi);have tj:=take_at hj;have k9:((atI rows (i:Int)).take j).length+1<=100000000000:=by rw[Ac1];omega
   have a2w:((atI rows (i:Int)).take j).length+([atI (atI rows (i:Int)) (j:Int)]:List bU).length<=100000000000:=k9;clear hu u9 ql;simp (disch:=first|assumption|omega) only[S0,rA,rQ,rB,rT,rE,aI,Bam,oG,iA,Mas,Bal,uC,a8,ha,tj]
  ·intro a8
   rw[Bcm];clear hu u9
   (refine aD ?_;repeat' (refine aC ?_ ?_<;>intro _<;>try simp (disch:=first|assumption|omega) only[S0,rA,rQ,rB,rT,rE, *]))
 ·intro hlt
  rw[Uas];simp (disch:=first|assumption|omega) only[S0,rA,rQ,rB,rT,rE,hlt]
theorem Xaf (n:Int)(rows:List (List bU))(rep no:Int)(b9 dj cn bg b7 bo bn bp bf:Int)(av:(List Int))(hg:dF n=true)(hl:(rows.length:Int)=n)(hs:lQ rows)(hb:InB rows rep)(h1:1<=no)(h2:no<=1000)(hx:av.length<=10000000000) :
  Fun T 61 [i64 n,rL rows,i64 rep,i64 no,i64 b9,i64 dj,i64 cn,i64 bg,i64 b7,i64 bo,i64 bn,i64 bp,i64 bf,rL av]=some [i64 (Kag ⟨n,rows⟩ rep no ⟨b9,dj,cn,⟨bg,b7,bo,bn,bp⟩,⟨bf,av⟩⟩).n,rL (Kag ⟨n,rows⟩ rep no ⟨b9,dj,cn,⟨bg,b7,bo,bn,bp⟩,⟨bf,av⟩⟩).rows]:=by
 rw[aO (t:=Qbt) rfl];unfold Qbt;unfold Kag
 have hq:=hs.2 _ (fV hb);have kn:=hq.1;simp (maxSteps:=2000000) (disch:=first|assumption|omega) only[SA,SB,SC,SP,SQ,SZ,reduceIte,reduceCtorEq,Nat.reduceAdd,Nat.reduceEqDiff,Laf,hg,hl];rw[Had (T:=T) (.yield 1,[rL (iM rows rep (ext n (atI rows rep) no))]) (fun j:Nat=>(no-(atI rows rep).length).toNat-j) (fun j=>j<=(no-(atI rows rep).length).toNat) (fun j=>[rL (iM rows rep (atI rows rep++Acm j (row0 n)))]) 0 (by rw[Dc9,Ac4,Sa8 hb];rfl) (by omega) (by simp)]
 ·have gx:InB (iM rows rep (ext n (atI rows rep) no)) rep:=by unfold InB;rw[iM,Ccj];exact hb
  have ha:atI (iM rows rep (ext n (atI rows rep) no)) rep=ext n (atI rows rep) no:=Bal.1 hb;have tB:InB (ext n (atI rows rep) no) (no-1):=by unfold InB;rw[Jak (by omega)];omega
  simp (disch:=first|assumption|omega) only[S0,rA,rQ,rB,rT,rE,aI,Bam,Bal,uC,ha]
 ·intro j hj
  have gx:InB (iM rows rep (atI rows rep++Acm j (row0 n))) rep:=by unfold InB;rw[iM,Ccj];exact hb
  have ha:atI (iM rows rep (atI rows rep++Acm j (row0 n))) rep=atI rows rep++Acm j (row0 n):=Bal.1 hb;have hlen:((atI rows rep++Acm j (row0 n)).length:Int)=(atI rows rep).length+j:=by simp
  have pd:(atI rows rep++Acm j (row0 n))++[row0 n]=atI rows rep++Acm (j+1) (row0 n):=by rw[Aci,<- List.replicate_succ']
  have k9:(atI rows rep++Acm j (row0 n)).length+([row0 n]:List bU).length<=100000000000:=by simp only[Ace,Bcj,Aco,Acx];omega
  unfold row0 at pd k9 ha gx hlen ⊢;by_cases hc:(atI rows rep).length+j<no
  ·have gj:decide (((atI rows rep).length:Int)+j<no)=true:=by simpa using hc
   refine .inl ⟨j+1,?_,by omega,by omega⟩;simp (disch:=first|assumption|omega) only[S0,rA,rQ,rB,rT,rE,aI,Bam,oG,iA,Mas,Bal,mO,ha,hlen,gj,pd]
  ·have gj:decide (((atI rows rep).length:Int)+j<no)=false:=by simpa using hc
   have jo:j=(no-(atI rows rep).length).toNat:=by omega
   refine .inr ?_;simp (disch:=first|assumption|omega) only[S0,rA,rQ,rB,rT,rE,aI,Bam,oG,iA,Mas,Bal,ha,hlen,gj];rw[jo];rfl
theorem Aal (n:Int)(rows:List (List bU))(rep no:Int)(b9 dj cn bg b7 bo bn bp bf:Int)(av:(List Int))(hg:dF n=true)(hs:lQ rows)(hb:InB rows rep)(h1:1<=no)(h2:no<=1000)(hx:av.length<=10000000000) :
  Fun T 139 [i64 rep,i64 no,i64 b9,i64 dj,i64 cn,i64 bg,i64 b7,i64 bo,i64 bn,i64 bp,i64 bf,rL av,i64 n,rL rows]=some [i64 (Kag ⟨n,rows⟩ rep no ⟨b9,dj,cn,⟨bg,b7,bo,bn,bp⟩,⟨bf,av⟩⟩).n,rL (Kag ⟨n,rows⟩ rep no ⟨b9,dj,cn,⟨bg,b7,bo,bn,bp⟩,⟨bf,av⟩⟩).rows]:=by
 rw[aO (t:=Ebr) rfl];unfold Ebr;unfold Kag
 have hq:=hs.2 _ (fV hb);have kn:=hq.1;simp (disch:=first|assumption|omega) only[S0,rA,rQ,rB,rT,rE];rw[Had (T:=T) (.yield 1,[rL (iM rows rep (ext n (atI rows rep) no))]) (fun j:Nat=>(no-(atI rows rep).length).toNat-j) (fun j=>j<=(no-(atI rows rep).length).toNat) (fun j=>[rL (iM rows rep (atI rows rep++Acm j (row0 n)))]) 0 (by rw[Dc9,Ac4,Sa8 hb];rfl) (by omega) (by simp)]
 ·have gx:InB (iM rows rep (ext n (atI rows rep) no)) rep:=by unfold InB;rw[iM,Ccj];exact hb
  have ha:atI (iM rows rep (ext n (atI rows rep) no)) rep=ext n (atI rows rep) no:=Bal.1 hb;have tB:InB (ext n (atI rows rep) no) (no-1):=by unfold InB;rw[Jak (by omega)];omega
  simp (disch:=first|assumption|omega) only[S0,rA,rQ,rB,rT,rE,aI,Bam,Bal,xK,ha]
 ·intro j hj
  have gx:InB (iM rows rep (atI rows rep++Acm j (row0 n))) rep:=by unfold InB;rw[iM,Ccj];exact hb
  have ha:atI (iM rows rep (atI rows rep++Acm j (row0 n))) rep=atI rows rep++Acm j (row0 n):=Bal.1 hb;have hlen:((atI rows rep++Acm j (row0 n)).length:Int)=(atI rows rep).length+j:=by simp
  have pd:(atI rows rep++Acm j (row0 n))++[row0 n]=atI rows rep++Acm (j+1) (row0 n):=by rw[Aci,<- List.replicate_succ']
  have k9:(atI rows rep++Acm j (row0 n)).length+([row0 n]:List bU).length<=100000000000:=by simp only[Ace,Bcj,Aco,Acx];omega
  unfold row0 at pd k9 ha gx hlen ⊢;by_cases hc:(atI rows rep).length+j<no
  ·have gj:decide (((atI rows rep).length:Int)+j<no)=true:=by simpa using hc
   refine .inl ⟨j+1,?_,by omega,by omega⟩;simp (disch:=first|assumption|omega) only[S0,rA,rQ,rB,rT,rE,aI,Bam,oG,iA,Mas,Bal,eD,ha,hlen,gj,pd]
  ·have gj:decide (((atI rows rep).length:Int)+j<no)=false:=by simpa using hc
   have jo:j=(no-(atI rows rep).length).toNat:=by omega
   refine .inr ?_;simp (disch:=first|assumption|omega) only[S0,rA,rQ,rB,rT,rE,aI,Bam,oG,iA,Mas,Bal,ha,hlen,gj];rw[jo];rfl
theorem iF (xs:List Int)(n:Int)(hx:xs.length<=1099511627776):Fun T 50 [rL xs,i64 n]=some [.bool (lG xs n)]:=by
 rw[aO (t:=Qb4) rfl];unfold Qb4;unfold lG
 simp (disch:=first|assumption|omega) only[S0,rA,rQ,rB,rT,rE];rw[xR 1 xs (fun x=>x==n) (fun _=>[.bool true])]
 ·(refine aD ?_;repeat' (refine aC ?_ ?_<;>intro _<;>try simp (disch:=first|assumption|omega) only[S0,rA,rQ,rB,rT,rE, *]))
 ·intro i hi hb hl hp
  (refine aD ?_;repeat' (refine aC ?_ ?_<;>intro _<;>try simp (disch:=first|assumption|omega) only[S0,rA,rQ,rB,rT,rE,aI, *]))
 ·intro i hi hb hl hp
  (refine aD ?_;repeat' (refine aC ?_ ?_<;>intro _<;>try simp (disch:=first|assumption|omega) only[S0,rA,rQ,rB,rT,rE,aI, *]))
 ·intro hl
  simp (disch:=first|assumption|omega) only[S0,rA,rQ,rB,rT,rE,hl]
theorem slices_Index_int (xs:List Int)(n:Int)(hx:xs.length<=1099511627776):Fun T 119 [rL xs,i64 n]=some [i64 (ixF (fun x=>n==x) xs)]:=by
 rw[aO (t:=Fbb) rfl];unfold Fbb
 simp (disch:=first|assumption|omega) only[S0,rA,rQ,rB,rT,rE];rw[xR 1 xs (fun x=>n==x) (fun i=>[i64 i])]
 ·cases h:xs.any (fun x=>n==x)
  ·have e:ixF (fun x=>n==x) xs=-1:=by
    have h2:=dJ (fun x=>n==x) xs;rw[h]at h2;unfold ixF at h2 ⊢;split at h2<;>simp_all
   rw[e];simp (disch:=first|assumption|omega) only[S0,rA,rQ,rB,rT,rE]
  ·simp (disch:=first|assumption|omega) only[S0,rA,rQ,rB,rT,rE]
 ·intro i hi hb hl hp
  (refine aD ?_;repeat' (refine aC ?_ ?_<;>intro _<;>try simp (disch:=first|assumption|omega) only[S0,rA,rQ,rB,rT,rE,aI, *]))
 ·intro i hi hb hl hp
  (refine aD ?_;repeat' (refine aC ?_ ?_<;>intro _<;>try simp (disch:=first|assumption|omega) only[S0,rA,rQ,rB,rT,rE,aI, *]))
 ·intro hl
  simp (disch:=first|assumption|omega) only[S0,rA,rQ,rB,rT,rE,hl]
theorem slices_Contains_int (xs:List Int)(n:Int)(hx:xs.length<=1099511627776):Fun T 118 [rL xs,i64 n]=some [.bool (lG xs n)]:=by
 rw[aO (t:=Fbc) rfl];unfold Fbc
 have e:lG xs n=xs.any fun x=>n==x:=by
  unfold lG;congr 1;funext x;rw[Ccs,beq_iff_eq,beq_iff_eq];exact eq_comm
 simp (disch:=first|assumption|omega) only[S0,rA,rQ,rB,rT,rE,slices_Index_int,dJ,e]
theorem Eab (xs:List Int)(n:Int)(hx:xs.length<=10000000000):Fun T 66 [rL xs,i64 n]=some [rL (Oa1 xs n)]:=by
 rw[aO (t:=Qbo) rfl];unfold Qbo;unfold Oa1
 have hk:=Jb1 xs n;have h0:(aU.mk 1 0).run []=some [.rows 1 []]:=rfl;simp (disch:=first|assumption|omega) only[S0,rA,rQ,rB,rT,rE];rw[Had (T:=T) (.yield 1,[i64 (oU xs n:Nat)]) (fun k:Nat=>oU xs n-k) (fun k=>k<=oU xs n) (fun k=>[i64 k]) 0 rfl (by omega) (by simp)]
 ·have l1:(xs.take (oU xs n)).length<=10000000000:=by rw[Ac1];omega
  have l2:(xs.take (oU xs n)).length+([n]:List Int).length<=100000000000:=by simp only[Aco,Acx];omega
  have l3:(xs.take (oU xs n)++[n]).length+(xs.drop (oU xs n)).length<=100000000000:=by simp only[Ace,Aco,Acx,Bcu];omega
  by_cases h:oU xs n<xs.length
  ·have hb:InB xs (oU xs n:Nat):=aH.2 h
   have h2:decide ((oU xs n:Int)<xs.length)=true:=by simp;omega
   cases h3:atI xs (oU xs n:Nat)==n
   ·simp (disch:=first|assumption|omega) only[S0,rA,rQ,rB,rT,rE,aI,oG,iA,tK,h0,h2,h3,hb,Ac7,Ccb,Cch,Bcm]
   ·simp (disch:=first|assumption|omega) only[S0,rA,rQ,rB,rT,rE,aI,oG,iA,tK,h0,h2,h3,hb]
  ·have h2:decide ((oU xs n:Int)<xs.length)=false:=by simp;omega
   simp (disch:=first|assumption|omega) only[S0,rA,rQ,rB,rT,rE,aI,oG,iA,tK,h0,h2,Ac7,Ccb,Cch,Bcm]
 ·intro k ob
  by_cases h:k<oU xs n
  ·have hb:InB xs (k:Int):=aH.2 (by omega)
   have h2:decide ((k:Int)<xs.length)=true:=by simp;omega
   have h3:decide (atI xs (k:Int)<n)=true:=by simpa using Za4 h
   refine .inl ⟨k+1,?_,by omega,by omega⟩;simp (disch:=first|assumption|omega) only[S0,rA,rQ,rB,rT,rE,aI,h2,h3,hb]
  ·obtain rfl:k=oU xs n:=by omega
   refine .inr ?_;by_cases h4:oU xs n<xs.length
   ·have hb:InB xs (oU xs n:Nat):=aH.2 h4
    have h2:decide ((oU xs n:Int)<xs.length)=true:=by simp;omega
    have h3:decide (atI xs (oU xs n:Nat)<n)=false:=by simpa using Za5 h4
    simp (disch:=first|assumption|omega) only[S0,rA,rQ,rB,rT,rE,aI,h2,h3,hb]
   ·have h2:decide ((oU xs n:Int)<xs.length)=false:=by simp;omega
    simp (disch:=first|assumption|omega) only[S0,rA,rQ,rB,rT,rE,aI,h2]
theorem rO (k i f t a:Int)(hc:qA ⟨k,i,f,t,a⟩=true):Fun T 65 [i64 k,i64 i,i64 f,i64 t,i64 a]=some [rL (kX ⟨k,i,f,t,a⟩)]:=by
 rw[aO (t:=Qbp) rfl];unfold Qbp;unfold kX
 obtain⟨hk,hm,hr⟩:=Cbn hc;simp only at hk hm hr
 rcases hk with rfl|rfl|rfl
 ·simp (disch:=first|assumption|omega) only[S0,rA,rQ,rB,rT,rE,Lbb]
 ·have cJ:=(hm rfl).2.2.1
  have l1:([f]:List Int).length<=10000000000:=by simp
  simp (disch:=first|assumption|omega) only[S0,rA,rQ,rB,rT,rE,oG,Eab,Xbc cJ]
 ·simp (disch:=first|assumption|omega) only[S0,rA,rQ,rB,rT,rE,oG]
theorem Fas (k i f t a:Int):Fun T 142 [i64 k,i64 i,i64 f,i64 t,i64 a]=some [rL (kX ⟨k,i,f,t,a⟩)]:=by
 rw[aO (t:=Ebo) rfl];unfold Ebo;unfold kX
 have h0:(aU.mk 1 0).run []=some [.rows 1 []]:=rfl
 (refine aD ?_;repeat' (refine aC ?_ ?_<;>intro _<;>try simp (disch:=first|assumption|omega) only[S0,rA,rQ,rB,rT,rE,oG,h0,Lbb, *]))
theorem vK (eS ka gn gw gv:Int)(cu fj db de dc:Int)(ha:qA ⟨eS,ka,gn,gw,gv⟩=true)(hb:qA ⟨cu,fj,db,de,dc⟩=true):Fun T 64 [i64 eS,i64 ka,i64 gn,i64 gw,i64 gv,i64 cu,i64 fj,i64 db,i64 de,i64 dc]=some [.bool (xG ⟨eS,ka,gn,gw,gv⟩ ⟨cu,fj,db,de,dc⟩)]:=by
 rw[aO (t:=Qbq) rfl];unfold Qbq;unfold xG
 have la:=yN ⟨eS,ka,gn,gw,gv⟩;have lb:=yN ⟨cu,fj,db,de,dc⟩;have lb':(kX ⟨cu,fj,db,de,dc⟩).length<=1099511627776:=by omega
 simp (disch:=first|assumption|omega) only[S0,rA,rQ,rB,rT,rE,rO,ha];rw[xR 1 (kX ⟨eS,ka,gn,gw,gv⟩) (fun k=>lG (kX ⟨cu,fj,db,de,dc⟩) k) (fun _=>[.bool true])]
 ·(refine aD ?_;repeat' (refine aC ?_ ?_<;>intro _<;>try simp (disch:=first|assumption|omega) only[S0,rA,rQ,rB,rT,rE, *]))
 ·intro i hi gx hl hp
  simp (disch:=first|assumption|omega) only[S0,rA,rQ,rB,rT,rE,aI,rO,iF,hb,gx,hl,hp]
 ·intro i hi gx hl hp
  simp (disch:=first|assumption|omega) only[S0,rA,rQ,rB,rT,rE,aI,rO,iF,hb,gx,hl,hp]
 ·intro hl
  simp (disch:=first|assumption|omega) only[S0,rA,rQ,rB,rT,rE,hl]
theorem vP (n:Int)(cu fj db de dc:Int):Fun T 145 [i64 n,i64 cu,i64 fj,i64 db,i64 de,i64 dc]=some [.bool (lG (kX ⟨cu,fj,db,de,dc⟩) n)]:=by
 rw[aO (t:=Ebl) rfl];unfold Ebl
 have lb:=yN ⟨cu,fj,db,de,dc⟩;have lb':(kX ⟨cu,fj,db,de,dc⟩).length<=1099511627776:=by omega
 simp (disch:=first|assumption|omega) only[S0,rA,rQ,rB,rT,rE,Fas,slices_Contains_int]
theorem Kas (cu fj db de dc:Int)(xs:List Int)(hx:xs.length<=1099511627776):Fun T 144 [rL xs,i64 cu,i64 fj,i64 db,i64 de,i64 dc]=some [i64 (ixF (fun x=>lG (kX ⟨cu,fj,db,de,dc⟩) x) xs)]:=by
 rw[aO (t:=Ebm) rfl];unfold Ebm
 simp (disch:=first|assumption|omega) only[S0,rA,rQ,rB,rT,rE,aI, *];rw[xR 1 xs (fun x=>lG (kX ⟨cu,fj,db,de,dc⟩) x) (fun i=>[i64 i])]
 ·cases h:xs.any (fun x=>lG (kX ⟨cu,fj,db,de,dc⟩) x)
  ·have e:ixF (fun x=>lG (kX ⟨cu,fj,db,de,dc⟩) x) xs=-1:=by
    have h2:=dJ (fun x=>lG (kX ⟨cu,fj,db,de,dc⟩) x) xs;rw[h]at h2;unfold ixF at h2 ⊢;split at h2<;>simp_all
   rw[e];simp (disch:=first|assumption|omega) only[S0,rA,rQ,rB,rT,rE]
  ·simp (disch:=first|assumption|omega) only[S0,rA,rQ,rB,rT,rE]
 ·intro i hi hb hl hp
  (refine aD ?_;repeat' (refine aC ?_ ?_<;>intro _<;>try simp (disch:=first|assumption|omega) only[S0,rA,rQ,rB,rT,rE,aI,vP, *]))
 ·intro i hi hb hl hp
  (refine aD ?_;repeat' (refine aC ?_ ?_<;>intro _<;>try simp (disch:=first|assumption|omega) only[S0,rA,rQ,rB,rT,rE,aI,vP, *]))
 ·intro hl
  (refine aD ?_;repeat' (refine aC ?_ ?_<;>intro _<;>try simp (disch:=first|assumption|omega) only[S0,rA,rQ,rB,rT,rE, *]))
theorem Ka0 (cu fj db de dc:Int)(xs:List Int)(hx:xs.length<=1099511627776):Fun T 143 [rL xs,i64 cu,i64 fj,i64 db,i64 de,i64 dc]=some [.bool (xs.any (fun x=>lG (kX ⟨cu,fj,db,de,dc⟩) x))]:=by
 rw[aO (t:=Ebn) rfl];unfold Ebn
 (refine aD ?_;repeat' (refine aC ?_ ?_<;>intro _<;>try simp (disch:=first|assumption|omega) only[S0,rA,rQ,rB,rT,rE,Kas,dJ, *]))
theorem Aak (eS ka gn gw gv:Int)(cu fj db de dc:Int):Fun T 141 [i64 eS,i64 ka,i64 gn,i64 gw,i64 gv,i64 cu,i64 fj,i64 db,i64 de,i64 dc]=some [.bool (xG ⟨eS,ka,gn,gw,gv⟩ ⟨cu,fj,db,de,dc⟩)]:=by
 rw[aO (t:=Ebp) rfl];unfold Ebp;unfold xG
 have la:=yN ⟨eS,ka,gn,gw,gv⟩;have la':(kX ⟨eS,ka,gn,gw,gv⟩).length<=1099511627776:=by omega
 simp (disch:=first|assumption|omega) only[S0,rA,rQ,rB,rT,rE,Fas,Ka0]
theorem gB (n:Int)(rows:List (List bU))(hs:∀ l∈rows,l.length<=6)(hl:rows.length<=100):Fun T 53 [i64 n,rL rows]=some [rL (bI rows)]:=by
 rw[aO (t:=Qb1) rfl];unfold Qb1;unfold bI
 simp (disch:=first|assumption|omega) only[S0,rA,rQ,rB,rT,rE];rw[jQ rows.length (fun k=>[rL (Ga7 rows k),i64 k]) (.yield 1,[rL (Ga7 rows rows.length)]) rfl (by simp)]
 ·simp (disch:=first|assumption|omega) only[S0,rA,rQ,rB,rT,rE]
 ·intro k hk hlt
  have hb:InB rows (k:Int):=aH.2 hk;have h6:=hs _ (at_mem hk);have y8:=kG hs (m:=k) (by omega);simp (disch:=first|assumption|omega) only[S0,rA,rQ,rB,rT,rE,aI,hlt];rw[jQ (atI rows (k:Int)).length (fun i=>[rL (Ga7 rows k++gY (atI rows (k:Int)) k i),i64 i]) (.yield 3,[rL (Ga7 rows (k+1))]) (by show [rL (Ga7 rows k),_]=_;simp[gY,aM.val]) (by simp)]
  ·simp (disch:=first|assumption|omega) only[S0,rA,rQ,rB,rT,rE]
  ·intro i hi a8
   have gx:InB (atI rows (k:Int)) (i:Int):=aH.2 hi;have hlc:=uY (atI rows (k:Int)) k i
   have k9:(Ga7 rows k++gY (atI rows (k:Int)) k i).length+([[(k:Int),(i:Int)+1]]:List (List Int)).length<=100000000000:=by
    rw[Ace];simp only[Aco,Acx];omega
   have e:=rH (atI rows (k:Int)) k i;cases ba:(atI (atI rows (k:Int)) (i:Int)).state==3
   ·rw[ba]at e
    simp only[Aca,if_false,Ac4]at e;simp (disch:=first|assumption|omega) only[S0,rA,rQ,rB,rT,rE,aI,a8,ba,e]
   ·rw[ba]at e
    simp only[if_true]at e;simp (disch:=first|assumption|omega) only[S0,rA,rQ,rB,rT,rE,aI,oG,iA,a8,ba,e,<- Aci]
  ·intro a8
   rw[<- Dal];simp (disch:=first|assumption|omega) only[S0,rA,rQ,rB,rT,rE,a8]
 ·intro hlt
  simp (disch:=first|assumption|omega) only[S0,rA,rQ,rB,rT,rE,hlt]
theorem vX (k m:Int)(b9 dj cn bg b7 bo bn bp bf:Int)(av:(List Int))(out:List (List Int))(hl:out.length<=10000000000):Fun T 133 [i64 k,i64 m,i64 b9,i64 dj,i64 cn,i64 bg,i64 b7,i64 bo,i64 bn,i64 bp,i64 bf,rL av,rL out]=some [rL (out++if cn==3 then [[k,m]] else [])]:=by
 rw[aO (t:=Ebx) rfl];unfold Ebx
 have k9:out.length+([[k,m]]:List (List Int)).length<=100000000000:=by simp only[Aco,Acx];omega
 cases ba:cn==3
 ·simp (disch:=first|assumption|omega) only[S0,rA,rQ,rB,rT,rE,ba,Ac4,Aca]
 ·simp (disch:=first|assumption|omega) only[S0,rA,rQ,rB,rT,rE,oG,iA,ba]
theorem Kay (n:Int)(rows:List (List bU))(hs:∀ l∈rows,l.length<=6)(hl:rows.length<=100):Fun T 132 [i64 n,rL rows,.rows 1 []]=some [rL (bI rows)]:=by
 rw[aO (t:=Eby) rfl];unfold Eby;unfold bI
 simp (disch:=first|assumption|omega) only[S0,rA,rQ,rB,rT,rE];rw[jQ rows.length (fun k=>[i64 k,rL (Ga7 rows k)]) (.yield 1,[rL (Ga7 rows rows.length)]) rfl (by simp)]
 ·simp (disch:=first|assumption|omega) only[S0,rA,rQ,rB,rT,rE]
 ·intro k hk hlt
  have hb:InB rows (k:Int):=aH.2 hk;have h6:=hs _ (at_mem hk);have y8:=kG hs (m:=k) (by omega);simp (disch:=first|assumption|omega) only[S0,rA,rQ,rB,rT,rE,aI,hlt];rw[jQ (atI rows (k:Int)).length (fun i=>[i64 i,rL (Ga7 rows k++gY (atI rows (k:Int)) k i)]) (.yield 3,[rL (Ga7 rows (k+1))]) (by show [_,rL (Ga7 rows k)]=_;simp[gY,aM.val]) (by simp)]
  ·simp (disch:=first|assumption|omega) only[S0,rA,rQ,rB,rT,rE]
  ·intro i hi a8
   have gx:InB (atI rows (k:Int)) (i:Int):=aH.2 hi;have hlc:=uY (atI rows (k:Int)) k i
   have k9:(Ga7 rows k++gY (atI rows (k:Int)) k i).length<=10000000000:=by
    rw[Ace];omega
   have e:=rH (atI rows (k:Int)) k i;simp (disch:=first|assumption|omega) only[S0,rA,rQ,rB,rT,rE,aI,vX,a8,e,Aci]
  ·intro a8
   rw[<- Dal];simp (disch:=first|assumption|omega) only[S0,rA,rQ,rB,rT,rE,a8]
 ·intro hlt
  simp (disch:=first|assumption|omega) only[S0,rA,rQ,rB,rT,rE,hlt]
theorem dU (n:Int)(rows:List (List bU))(hs:∀ l∈rows,l.length<=6)(hl:rows.length<=100):Fun T 131 [i64 n,rL rows]=some [rL (bI rows)]:=by
 rw[aO (t:=Ebz) rfl];unfold Ebz
 have h0:(aU.mk 1 0).run []=some [.rows 1 []]:=rfl;simp (disch:=first|assumption|omega) only[S0,rA,rQ,rB,rT,rE,h0,Kay]
theorem Haw (n:Int)(rows:List (List bU))(ht:bJ ⟨n,rows⟩=true)(hs:lQ rows):Fun T 63 [i64 n,rL rows]=some [.bool (Raa ⟨n,rows⟩)]:=by
 rw[aO (t:=Qbr) rfl];unfold Qbr;unfold Raa
 have hg:dF n=true:=aX ht;have hn:=aV hg;have hl:(rows.length:Int)=n:=bX ht;have h6:∀ l∈rows,l.length<=6:=fun l hl=>(bZ ht hl).1
 have jb:rows.length<=100:=by omega
 have ir:(bI rows).length<=6*rows.length:=kG h6 (Acn _);simp (disch:=first|assumption|omega) only[S0,rA,rQ,rB,rT,rE,gB];rw[vV 1 (bI rows).length (fun i=>((bI rows).take i).all fun y=>!Kb1 ⟨n,rows⟩ (atI (bI rows) (i:Int)) y) [.bool false]]
 ·(refine aD ?_;repeat' (refine aC ?_ ?_<;>intro _<;>try simp (disch:=first|assumption|omega) only[S0,rA,rQ,rB,rT,rE, *]))
 ·intro i hi hlt
  have hb:InB (bI rows) (i:Int):=aH.2 hi;obtain⟨x0,x1,-,xi,-⟩:=dQ ht (at_mem hi);simp only at xi;have xr:=bG xi;have xb:=bR ht xi;simp only at xb;have xo:=lK ht xi;have xc:qA (eT ⟨n,rows⟩ (atI (atI (bI rows) (i:Int)) 0) (atI (atI (bI rows) (i:Int)) 1)).cmd=true:=Ba9 xo;simp (disch:=first|assumption|omega) only[S0,rA,rQ,rB,rT,rE,aI,tK,hlt,Ac7,Ccb,Cch];rw[Sad 3 ((bI rows).take i) (fun y=>!Kb1 ⟨n,rows⟩ (atI (bI rows) (i:Int)) y) [.bool false]]
  ·(refine aD ?_;repeat' (refine aC ?_ ?_<;>intro _<;>try simp (disch:=first|assumption|omega) only[S0,rA,rQ,rB,rT,rE, *]))
  ·intro j hj gx a8 hm
   have u5:j<1000:=by rw[Ac1]at hj;omega
   obtain⟨y0,y1,-,yi,-⟩:=dQ ht (Bc0 hm);simp only at yi;have yr:=bG yi;have yb:=bR ht yi;simp only at yb;have yo:=lK ht yi;have yc:qA (eT ⟨n,rows⟩ (atI (atI ((bI rows).take i) (j:Int)) 0) (atI (atI ((bI rows).take i) (j:Int)) 1)).cmd=true:=Ba9 yo;have d1:=Haj ht xi yi;have d2:=Haj ht yi xi;unfold Kb1;rw[Iay];simp (disch:=first|assumption|omega) only[S0,rA,rQ,rB,rT,rE,aI,jB,vK,a8]<;>repeat' (refine aC (fun _=>?_) (fun _=>?_)<;>try simp (disch:=first|assumption|omega) only[S0,rA,rQ,rB,rT,rE,aI, *])
  ·intro a8
   simp (disch:=first|assumption|omega) only[S0,rA,rQ,rB,rT,rE,a8]
 ·intro hlt
  simp (disch:=first|assumption|omega) only[S0,rA,rQ,rB,rT,rE,hlt]
theorem pO (n:Int)(rows:List (List bU))(ht:bJ ⟨n,rows⟩=true)(hs:lQ rows):Fun T 140 [i64 n,rL rows]=some [.bool (Raa ⟨n,rows⟩)]:=by
 rw[aO (t:=Ebq) rfl];unfold Ebq;unfold Raa
 have hg:dF n=true:=aX ht;have hn:=aV hg;have hl:(rows.length:Int)=n:=bX ht;have h6:∀ l∈rows,l.length<=6:=fun l hl=>(bZ ht hl).1
 have jb:rows.length<=100:=by omega
 have ir:(bI rows).length<=6*rows.length:=kG h6 (Acn _);simp (disch:=first|assumption|omega) only[S0,rA,rQ,rB,rT,rE,dU];rw[vV 1 (bI rows).length (fun i=>((bI rows).take i).all fun y=>!Kb1 ⟨n,rows⟩ (atI (bI rows) (i:Int)) y) [.bool false]]
 ·(refine aD ?_;repeat' (refine aC ?_ ?_<;>intro _<;>try simp (disch:=first|assumption|omega) only[S0,rA,rQ,rB,rT,rE, *]))
 ·intro i hi hlt
  have hb:InB (bI rows) (i:Int):=aH.2 hi;obtain⟨x0,x1,-,xi,-⟩:=dQ ht (at_mem hi);simp only at xi;have xr:=bG xi;have xb:=bR ht xi;simp only at xb;simp (disch:=first|assumption|omega) only[S0,rA,rQ,rB,rT,rE,aI,tK,hlt,Ac7,Ccb,Cch];rw[Sad 3 ((bI rows).take i) (fun y=>!Kb1 ⟨n,rows⟩ (atI (bI rows) (i:Int)) y) [.bool false]]
  ·(refine aD ?_;repeat' (refine aC ?_ ?_<;>intro _<;>try simp (disch:=first|assumption|omega) only[S0,rA,rQ,rB,rT,rE, *]))
  ·intro j hj gx a8 hm
   have u5:j<1000:=by rw[Ac1]at hj;omega
   obtain⟨y0,y1,-,yi,-⟩:=dQ ht (Bc0 hm);simp only at yi;have yr:=bG yi;have yb:=bR ht yi;simp only at yb;have d1:=Haj ht xi yi;have d2:=Haj ht yi xi;unfold Kb1;simp (disch:=first|assumption|omega) only[S0,rA,rQ,rB,rT,rE,aI,bH,Aak,a8]<;>repeat' (refine aC (fun _=>?_) (fun _=>?_)<;>try simp (disch:=first|assumption|omega) only[S0,rA,rQ,rB,rT,rE,aI, *])
  ·intro a8
   simp (disch:=first|assumption|omega) only[S0,rA,rQ,rB,rT,rE,a8]
 ·intro hlt
  simp (disch:=first|assumption|omega) only[S0,rA,rQ,rB,rT,rE,hlt]
theorem fM (l:List (List Int))(x:List Int)(hl:l.length<=1099511627776)(hx:x.length<=1099511627776):Fun T 72 [rL l,rL x]=some [i64 (iX l x)]:=by
 rw[aO (t:=Qbi) rfl];unfold Qbi;unfold iX
 simp (disch:=first|assumption|omega) only[S0,rA,rQ,rB,rT,rE];rw[xR 1 l (fun y=>decide (x=y)) (fun i=>[i64 i])]
 ·cases h:l.any (fun y=>decide (x=y))
  ·have e:ixF (fun y=>decide (x=y)) l=-1:=by
    have h2:=dJ (fun y=>decide (x=y)) l;rw[h]at h2;unfold ixF at h2 ⊢;split at h2<;>simp_all
   rw[e];simp (disch:=first|assumption|omega) only[S0,rA,rQ,rB,rT,rE]
  ·simp (disch:=first|assumption|omega) only[S0,rA,rQ,rB,rT,rE]
 ·intro i hi hb hlt hp
  simp (disch:=first|assumption|omega) only[S0,rA,rQ,rB,rT,rE,aI,Aaw,hlt,hp]
 ·intro i hi hb hlt hp
  simp (disch:=first|assumption|omega) only[S0,rA,rQ,rB,rT,rE,aI,Aaw,hlt,hp]
 ·intro hlt
  simp (disch:=first|assumption|omega) only[S0,rA,rQ,rB,rT,rE,hlt]
theorem qY (y x:List Int)(hx:x.length<=1099511627776):Fun T 157 [rL y,rL x]=some [.bool (decide (x=y))]:=by
 rw[aO (t:=Db9) rfl];unfold Db9
 simp (disch:=first|assumption|omega) only[S0,rA,rQ,rB,rT,rE,slices_Equal_int]
theorem Gag (x:List Int)(lE:x.length<=1099511627776)(xs:List (List Int))(hx:xs.length<=1099511627776):Fun T 156 [rL xs,rL x]=some [i64 (ixF (fun y=>decide (x=y)) xs)]:=by
 rw[aO (t:=Eba) rfl];unfold Eba
 simp (disch:=first|assumption|omega) only[S0,rA,rQ,rB,rT,rE,aI, *];rw[xR 1 xs (fun y=>decide (x=y)) (fun i=>[i64 i])]
 ·cases h:xs.any (fun y=>decide (x=y))
  ·have e:ixF (fun y=>decide (x=y)) xs=-1:=by
    have h2:=dJ (fun y=>decide (x=y)) xs;rw[h]at h2;unfold ixF at h2 ⊢;split at h2<;>simp_all
   rw[e];simp (disch:=first|assumption|omega) only[S0,rA,rQ,rB,rT,rE]
  ·simp (disch:=first|assumption|omega) only[S0,rA,rQ,rB,rT,rE]
 ·intro i hi hb hl hp
  (refine aD ?_;repeat' (refine aC ?_ ?_<;>intro _<;>try simp (disch:=first|assumption|omega) only[S0,rA,rQ,rB,rT,rE,aI,qY, *]))
 ·intro i hi hb hl hp
  (refine aD ?_;repeat' (refine aC ?_ ?_<;>intro _<;>try simp (disch:=first|assumption|omega) only[S0,rA,rQ,rB,rT,rE,aI,qY, *]))
 ·intro hl
  (refine aD ?_;repeat' (refine aC ?_ ?_<;>intro _<;>try simp (disch:=first|assumption|omega) only[S0,rA,rQ,rB,rT,rE, *]))
theorem Gam (x:List Int)(lE:x.length<=1099511627776)(xs:List (List Int))(hx:xs.length<=1099511627776):Fun T 155 [rL xs,rL x]=some [.bool (xs.any (fun y=>decide (x=y)))]:=by
 rw[aO (t:=Ebb) rfl];unfold Ebb
 (refine aD ?_;repeat' (refine aC ?_ ?_<;>intro _<;>try simp (disch:=first|assumption|omega) only[S0,rA,rQ,rB,rT,rE,Gag,dJ, *]))
theorem nK (l:List (List Int))(x:List Int)(hl:l.length<=1099511627776)(hx:x.length<=1099511627776):Fun T 154 [rL l,rL x]=some [.bool (l.any fun y=>decide (x=y))]:=by
 rw[aO (t:=Ebc) rfl];unfold Ebc
 simp (disch:=first|assumption|omega) only[S0,rA,rQ,rB,rT,rE,Gam]
theorem pK (y x:List Int)(hx:x.length<=1099511627776):Fun T 173 [rL y,rL x]=some [.bool (decide (x=y))]:=by
 rw[aO (t:=Dbw) rfl];unfold Dbw
 simp (disch:=first|assumption|omega) only[S0,rA,rQ,rB,rT,rE,slices_Equal_int]
theorem Eam (x:List Int)(lE:x.length<=1099511627776)(xs:List (List Int))(hx:xs.length<=1099511627776):Fun T 172 [rL xs,rL x]=some [i64 (ixF (fun y=>decide (x=y)) xs)]:=by
 rw[aO (t:=Dbx) rfl];unfold Dbx
 simp (disch:=first|assumption|omega) only[S0,rA,rQ,rB,rT,rE,aI, *];rw[xR 1 xs (fun y=>decide (x=y)) (fun i=>[i64 i])]
 ·cases h:xs.any (fun y=>decide (x=y))
  ·have e:ixF (fun y=>decide (x=y)) xs=-1:=by
    have h2:=dJ (fun y=>decide (x=y)) xs;rw[h]at h2;unfold ixF at h2 ⊢;split at h2<;>simp_all
   rw[e];simp (disch:=first|assumption|omega) only[S0,rA,rQ,rB,rT,rE]
  ·simp (disch:=first|assumption|omega) only[S0,rA,rQ,rB,rT,rE]
 ·intro i hi hb hl hp
  (refine aD ?_;repeat' (refine aC ?_ ?_<;>intro _<;>try simp (disch:=first|assumption|omega) only[S0,rA,rQ,rB,rT,rE,aI,pK, *]))
 ·intro i hi hb hl hp
  (refine aD ?_;repeat' (refine aC ?_ ?_<;>intro _<;>try simp (disch:=first|assumption|omega) only[S0,rA,rQ,rB,rT,rE,aI,pK, *]))
 ·intro hl
  (refine aD ?_;repeat' (refine aC ?_ ?_<;>intro _<;>try simp (disch:=first|assumption|omega) only[S0,rA,rQ,rB,rT,rE, *]))
theorem Eao (x:List Int)(l:List (List Int))(hl:l.length<=1099511627776)(hx:x.length<=1099511627776):Fun T 171 [rL x,rL l]=some [i64 (iX l x)]:=by
 rw[aO (t:=Dby) rfl];unfold Dby;unfold iX
 simp (disch:=first|assumption|omega) only[S0,rA,rQ,rB,rT,rE,Eam]
theorem Hax (n:Int)(rows:List (List bU))(rep no:Int)(ht:bJ ⟨n,rows⟩=true)(hi:inst n rep no=true)(hs:lQ rows):Fun T 71 [i64 n,rL rows,i64 rep,i64 no]=some [rL (Kaz ⟨n,rows⟩ rep no)]:=by
 rw[aO (t:=Qbj) rfl];unfold Qbj;unfold Kaz
 have hg:dF n=true:=aX ht;have hn:=aV hg;have hb:InB rows rep:=bR ht hi;have hr:=bG hi;have hd:=eH ht hi;have h6:=oH (lK ht hi) hg;simp only at hd;simp (disch:=first|assumption|omega) only[S0,rA,rQ,rB,rT,rE,jB];generalize (eT ⟨n,rows⟩ rep no).attr.deps=deps at hd h6 ⊢;have qg:deps.length<=5:=by omega
 rw[jQ deps.length (fun k=>[rL (Wai deps rep no k),i64 k]) (.yield 1,[rL (Wai deps rep no deps.length)]) rfl (by simp)]
 ·simp (disch:=first|assumption|omega) only[S0,rA,rQ,rB,rT,rE]
 ·intro k hk hlt
  have p7:InB deps (k:Int):=aH.2 hk;have hq:=h6 _ (at_mem hk);have y8:=Ga5 (deps:=deps) (rep:=rep) (no:=no) (fun d hd=>(h6 d hd).2) (m:=k) (by omega);simp (disch:=first|assumption|omega) only[S0,rA,rQ,rB,rT,rE,aI,hlt];rw[jQ (atI deps (k:Int)).toNat (fun i=>[rL (Wai deps rep no k++xW k rep no i),i64 ((i:Int)+1)]) (.yield 3,[rL (Wai deps rep no (k+1))]) (by show [rL (Wai deps rep no k),_]=_;simp[xW,aM.val]) (by simp)]
  ·simp (disch:=first|assumption|omega) only[S0,rA,rQ,rB,rT,rE]
  ·intro i oz a8
   have hlc:=Eav (k:Int) rep no i
   have k9:(Wai deps rep no k++xW (k:Int) rep no i).length+([[(k:Int),(i:Int)+1]]:List (List Int)).length<=100000000000:=by
    rw[Ace];simp only[Aco,Acx];omega
   have hle:decide ((i:Int)+1<=atI deps (k:Int))=true:=by simp;omega
   have e:=Jap (k:Int) rep no i;cases h1:(k:Int)==rep
   ·rw[h1]at e
    simp only[Ecc,Bool.true_or,if_true]at e;simp (disch:=first|assumption|omega) only[S0,rA,rQ,rB,rT,rE,oG,iA,hle,h1,e,<- Aci]
   ·cases h2:(i:Int)+1==no
    ·rw[h1,h2]at e
     simp only[Ecc,Dcf,Dcx,if_true]at e;simp (disch:=first|assumption|omega) only[S0,rA,rQ,rB,rT,rE,oG,iA,hle,h1,h2,e,<- Aci]
    ·rw[h1,h2]at e
     simp only[Dcf,Dcl,Aca,if_false,Ac4]at e;simp (disch:=first|assumption|omega) only[S0,rA,rQ,rB,rT,rE,oG,iA,hle,h1,h2,e]
  ·intro a8
   have hle:decide ((((atI deps (k:Int)).toNat:Nat):Int)+1<=atI deps (k:Int))=false:=by simp;omega
   rw[<- Rax];simp (disch:=first|assumption|omega) only[S0,rA,rQ,rB,rT,rE,hle]
 ·intro hlt
  simp (disch:=first|assumption|omega) only[S0,rA,rQ,rB,rT,rE,hlt]
theorem Paq (n:Int)(rows:List (List bU))(ht:bJ ⟨n,rows⟩=true)(hs:lQ rows):Fun T 74 [i64 n,rL rows]=some [rL (bI rows),rL (Mag ⟨n,rows⟩)]:=by
 rw[aO (t:=Qbg) rfl];unfold Qbg;unfold Mag
 have hg:dF n=true:=aX ht;have hn:=aV hg;have hl:(rows.length:Int)=n:=bX ht;have h6:∀ l∈rows,l.length<=6:=fun l hl=>(bZ ht hl).1
 have jb:rows.length<=100:=by omega
 have ir:(bI rows).length<=6*rows.length:=kG h6 (Acn _);have a73:(bI rows).length<=1099511627776:=by omega
 simp (disch:=first|assumption|omega) only[S0,rA,rQ,rB,rT,rE,gB];rw[jQ (bI rows).length (fun k=>[rL (pR ⟨n,rows⟩ k),i64 k]) (.yield 1,[rL (pR ⟨n,rows⟩ (bI rows).length)]) rfl (by simp)]
 ·simp (disch:=first|assumption|omega) only[S0,rA,rQ,rB,rT,rE]
 ·intro k hk hlt
  have hb:InB (bI rows) (k:Int):=aH.2 hk;have da:=at_mem hk;obtain⟨x0,x1,lE,xi,-⟩:=dQ ht da;simp only at xi;have nj:=Bbk ht da;simp only at nj;have hgs:=Ia7 ⟨n,rows⟩ k;simp only at hgs;rw[<- nj]at hgs;have hd6:=oH (lK ht xi) hg;have qg:=eH ht xi;simp only at qg
  have a52:(Kaz ⟨n,rows⟩ (atI (atI (bI rows) (k:Int)) 0) (atI (atI (bI rows) (k:Int)) 1)).length<=30:=by
   have:=Ga5 (rep:=atI (atI (bI rows) (k:Int)) 0) (no:=atI (atI (bI rows) (k:Int)) 1) (fun d hd=>(hd6 d hd).2) (Acn _);unfold Kaz;omega
  have k9:(pR ⟨n,rows⟩ k).length+1<=100000000000:=by rw[Maf];omega
  simp (disch:=first|assumption|omega) only[S0,rA,rQ,rB,rT,rE,aI,Hax,hlt]
  have lR:∀ y∈Kaz ⟨n,rows⟩ (atI (atI (bI rows) (k:Int)) 0) (atI (atI (bI rows) (k:Int)) 1),y.length<=1099511627776:=fun y hy=>by
   obtain⟨_,_,_,_,_,rfl⟩:=Ga4.1 hy;simp
  generalize Kaz ⟨n,rows⟩ (atI (atI (bI rows) (k:Int)) 0) (atI (atI (bI rows) (k:Int)) 1)=ys at a52 hgs nj lR ⊢;rw[jQ ys.length (fun i=>[rL (Sag (bI rows) ys i),i64 i]) (.yield 3,[rL (Sag (bI rows) ys ys.length)]) rfl (by simp)]
  ·have a2w:(pR ⟨n,rows⟩ k).length+([Sag (bI rows) ys ys.length]:List (List Int)).length<=100000000000:=k9
   simp (disch:=first|assumption|omega) only[S0,rA,rQ,rB,rT,rE,oG,iA,hgs]
  ·intro i hi a8
   have zk:InB ys (i:Int):=aH.2 hi;have ym:=lR _ (at_mem hi);have nF:=Vak (bI rows) ys i;have hpl2:(Sag (bI rows) ys i).length<=10000000000:=by omega
   rw[Cag];cases hf:decide (0<=iX (bI rows) (atI ys (i:Int)))
   ·simp (disch:=first|assumption|omega) only[S0,rA,rQ,rB,rT,rE,aI,fM,a8,hf,Aca]
   ·simp (disch:=first|assumption|omega) only[S0,rA,rQ,rB,rT,rE,aI,fM,Eab,a8,hf]
  ·intro a8
   simp (disch:=first|assumption|omega) only[S0,rA,rQ,rB,rT,rE,a8]
 ·intro hlt
  simp (disch:=first|assumption|omega) only[S0,rA,rQ,rB,rT,rE,hlt]
theorem Gak (n:Int)(rows:List (List bU))(ht:bJ ⟨n,rows⟩=true)(hs:lQ rows):Fun T 159 [i64 n,rL rows]=some [rL (bI rows),rL (Mag ⟨n,rows⟩)]:=by
 rw[aO (t:=Db8) rfl];unfold Db8;unfold Mag
 have hg:dF n=true:=aX ht;have hn:=aV hg;have hl:(rows.length:Int)=n:=bX ht;have h6:∀ l∈rows,l.length<=6:=fun l hl=>(bZ ht hl).1
 have jb:rows.length<=100:=by omega
 have ir:(bI rows).length<=6*rows.length:=kG h6 (Acn _);have h0:(aU.mk 1 0).run []=some [.rows 1 []]:=rfl;simp (disch:=first|assumption|omega) only[S0,rA,rQ,rB,rT,rE,dU,h0];rw[jQ (bI rows).length (fun k=>[rL (pR ⟨n,rows⟩ k),i64 k]) (.yield 1,[rL (pR ⟨n,rows⟩ (bI rows).length)]) rfl (by simp)]
 ·simp (disch:=first|assumption|omega) only[S0,rA,rQ,rB,rT,rE]
 ·intro k hk hlt
  have hb:InB (bI rows) (k:Int):=aH.2 hk;have da:=at_mem hk;obtain⟨x0,x1,lE,xi,-⟩:=dQ ht da;simp only at xi;have xr:=bG xi;have xb:=bR ht xi;simp only at xb;have pT:(atI (bI rows) (k:Int)).length<=1099511627776:=by omega
  have hgs:=Ia7 ⟨n,rows⟩ k;simp only at hgs;have hd:=eH ht xi;simp only at hd;simp (disch:=first|assumption|omega) only[S0,rA,rQ,rB,rT,rE,aI,bH,hlt,h0];rw[jQ (bI rows).length (fun i=>[rL (xM (bI rows) (eT ⟨n,rows⟩ (atI (atI (bI rows) (k:Int)) 0) (atI (atI (bI rows) (k:Int)) 1)).attr.deps (atI (bI rows) (k:Int)) i),i64 i]) (.yield 3,[rL (xM (bI rows) (eT ⟨n,rows⟩ (atI (atI (bI rows) (k:Int)) 0) (atI (atI (bI rows) (k:Int)) 1)).attr.deps (atI (bI rows) (k:Int)) (bI rows).length)]) rfl (by simp)]
  ·have k9:(pR ⟨n,rows⟩ k).length+1<=100000000000:=by rw[Maf];omega
   have a2w:(pR ⟨n,rows⟩ k).length+([xM (bI rows) (eT ⟨n,rows⟩ (atI (atI (bI rows) (k:Int)) 0) (atI (atI (bI rows) (k:Int)) 1)).attr.deps (atI (bI rows) (k:Int)) (bI rows).length]:List (List Int)).length<=100000000000:=k9;simp (disch:=first|assumption|omega) only[S0,rA,rQ,rB,rT,rE,oG,iA,hgs]
  ·intro i hi a8
   have rv:InB (bI rows) (i:Int):=aH.2 hi;obtain⟨y0,y1,-,yi,-⟩:=dQ ht (at_mem hi);simp only at yi;have yr:=bG yi;have hbd:=Haj ht xi yi;rw[Eap];unfold Yaa;generalize (eT ⟨n,rows⟩ (atI (atI (bI rows) (k:Int)) 0) (atI (atI (bI rows) (k:Int)) 1)).attr.deps=deps at hbd ⊢;have hhl:=Ia5 (bI rows) deps (atI (bI rows) (k:Int)) i;have k9:(xM (bI rows) deps (atI (bI rows) (k:Int)) i).length+([(i:Int)]:List Int).length<=100000000000:=by simp only[Aco,Acx];omega
   cases h1:decide (atI (bI rows) (k:Int)=atI (bI rows) (i:Int))
   ·cases h2:decide (atI (atI (bI rows) (i:Int)) 1<=atI deps (atI (atI (bI rows) (i:Int)) 0))
    ·simp (disch:=first|assumption|omega) only[S0,rA,rQ,rB,rT,rE,aI,slices_Equal_int,a8,h1,h2,Aca,Ac4]
    ·simp (disch:=first|assumption|omega) only[S0,rA,rQ,rB,rT,rE,aI,oG,iA,slices_Equal_int,a8,h1,h2]
   ·simp (disch:=first|assumption|omega) only[S0,rA,rQ,rB,rT,rE,aI,slices_Equal_int,a8,h1,Aca,Ac4]
  ·intro a8
   simp (disch:=first|assumption|omega) only[S0,rA,rQ,rB,rT,rE,a8]
 ·intro hlt
  simp (disch:=first|assumption|omega) only[S0,rA,rQ,rB,rT,rE,hlt]
theorem wE (n:Int)(rows:List (List bU))(l:List (List Int))(hg:dF n=true)(hl:l.length<=10000000000)(hx:∀ x∈l,x.length<=10000000000):Fun T 81 [i64 n,rL rows,rL l]=some [.bool (qW n l)]:=by
 rw[aO (t:=Pb9) rfl];unfold Pb9;unfold qW
 simp (disch:=first|assumption|omega) only[S0,rA,rQ,rB,rT,rE];rw[vV 1 l.length (Qa1 n l) [.bool false]]
 ·(refine aD ?_;repeat' (refine aC ?_ ?_<;>intro _<;>try simp (disch:=first|assumption|omega) only[S0,rA,rQ,rB,rT,rE, *]))
 ·intro i hi hlt
  have hb:InB l (i:Int):=aH.2 hi;have hq:=hx _ (at_mem hi);have ht:(l.take i).length<=1099511627776:=by rw[Ac1];omega
  have jr:(atI l (i:Int)).length<=1099511627776:=by omega
  unfold Qa1;cases h2:((atI l (i:Int)).length:Int)==2
  ·simp (disch:=first|assumption|omega) only[S0,rA,rQ,rB,rT,rE,aI,hlt,h2]
  ·have u6:((atI l (i:Int)).length:Int)=2:=by simpa using h2
   have b0:InB (atI l (i:Int)) 0:=by unfold InB;omega
   have b1:InB (atI l (i:Int)) 1:=by unfold InB;omega
   have e:(l.take i).any (fun y=>decide (atI l (i:Int)=y))=decide (0<=iX (l.take i) (atI l (i:Int))):=(dJ _ _).symm;cases h3:inst n (atI (atI l (i:Int)) 0) (atI (atI l (i:Int)) 1)
   ·simp (disch:=first|assumption|omega) only[S0,rA,rQ,rB,rT,rE,aI,dK,hlt,h2,h3]
   ·cases h4:decide (0<=iX (l.take i) (atI l (i:Int)))
    ·simp (disch:=first|assumption|omega) only[S0,rA,rQ,rB,rT,rE,aI,tK,dK,fM,hlt,h2,h3,h4,e,Ac7,Ccb,Cch]
    ·simp (disch:=first|assumption|omega) only[S0,rA,rQ,rB,rT,rE,aI,tK,dK,fM,hlt,h2,h3,h4,e,Ac7,Ccb,Cch]
 ·intro hlt
  simp (disch:=first|assumption|omega) only[S0,rA,rQ,rB,rT,rE,hlt]
theorem xJ (n:Int)(rows:List (List bU))(a b:List (List Int))(ht:bJ ⟨n,rows⟩=true)(ha:qW n a=true)(hs:lQ rows)(hla:a.length<=10000000000)(hlb:b.length<=10000000000):Fun T 170 [i64 n,rL rows,rL a,rL b]=some [.bool (Xaq ⟨n,rows⟩ a b)]:=by
 rw[aO (t:=Dbz) rfl];unfold Dbz;unfold Xaq
 have hg:dF n=true:=aX ht;have a74:b.length<=1099511627776:=by omega
 simp (disch:=first|assumption|omega) only[S0,rA,rQ,rB,rT,rE];rw[vV 1 a.length (fun i=>(a.take i).all fun y=>!Jb7 ⟨n,rows⟩ b (atI a (i:Int)) y) [.bool false]]
 ·(refine aD ?_;repeat' (refine aC ?_ ?_<;>intro _<;>try simp (disch:=first|assumption|omega) only[S0,rA,rQ,rB,rT,rE, *]))
 ·intro i hi hlt
  have hb:InB a (i:Int):=aH.2 hi;obtain⟨xl,xi⟩:=uN ha (at_mem hi);have x0:InB (atI a (i:Int)) 0:=by unfold InB;omega
  have x1:InB (atI a (i:Int)) 1:=by unfold InB;omega
  have xr:=bG xi;have xb:=bR (t:=⟨n,rows⟩) ht xi;simp only at xb;have xl2:(atI a (i:Int)).length<=1099511627776:=by omega
  simp (disch:=first|assumption|omega) only[S0,rA,rQ,rB,rT,rE,aI,tK,hlt,Ac7,Ccb,Cch];rw[Sad 3 (a.take i) (fun y=>!Jb7 ⟨n,rows⟩ b (atI a (i:Int)) y) [.bool false]]
  ·(refine aD ?_;repeat' (refine aC ?_ ?_<;>intro _<;>try simp (disch:=first|assumption|omega) only[S0,rA,rQ,rB,rT,rE, *]))
  ·intro j hj gx a8 hm
   have u5:j<10000000000:=by rw[Ac1]at hj;omega
   obtain⟨yl,yi⟩:=uN ha (Bc0 hm);have y0:InB (atI (a.take i) (j:Int)) 0:=by unfold InB;omega
   have y1:InB (atI (a.take i) (j:Int)) 1:=by unfold InB;omega
   have yr:=bG yi;have yb:=bR (t:=⟨n,rows⟩) ht yi;simp only at yb;have yl2:(atI (a.take i) (j:Int)).length<=1099511627776:=by omega
   unfold Jb7;generalize h1:xG (eT ⟨n,rows⟩ (atI (atI a (i:Int)) 0) (atI (atI a (i:Int)) 1)).cmd (eT ⟨n,rows⟩ (atI (atI (a.take i) (j:Int)) 0) (atI (atI (a.take i) (j:Int)) 1)).cmd=q;simp (disch:=first|assumption|omega) only[S0,rA,rQ,rB,rT,rE,aI,bH,Aak,a8,h1]<;>repeat' (refine aC (fun _=>?_) (fun _=>?_)<;>try simp (disch:=first|assumption|omega) only[S0,rA,rQ,rB,rT,rE,aI,Eao, *])
  ·intro a8
   simp (disch:=first|assumption|omega) only[S0,rA,rQ,rB,rT,rE,a8]
 ·intro hlt
  simp (disch:=first|assumption|omega) only[S0,rA,rQ,rB,rT,rE,hlt]
theorem Hay (a b:List (List Int))(n:Int)(rows:List (List bU))(hs:lQ rows)(hla:a.length<=10000000000)(hlb:b.length<=10000000000)(hxa:∀ x∈a,x.length<=10000000000)(hxb:∀ x∈b,x.length<=10000000000) :
  Fun T 80 [rL a,rL b,i64 n,rL rows]=some [.bool (Jb6 a b ⟨n,rows⟩).1,.bool (Jb6 a b ⟨n,rows⟩).2]:=by
 rw[aO (t:=Qba) rfl];unfold Qba;unfold Jb6
 have a74:b.length<=1099511627776:=by omega
 cases ht:bJ ⟨n,rows⟩
 ·simp (disch:=first|assumption|omega) only[S0,rA,rQ,rB,rT,rE,gW,ht,Aca]
 have hg:dF n=true:=aX ht;cases ha:qW n a
 ·simp (disch:=first|assumption|omega) only[S0,rA,rQ,rB,rT,rE,gW,wE,ht,ha,Aca]
 cases hb:qW n b
 ·simp (disch:=first|assumption|omega) only[S0,rA,rQ,rB,rT,rE,gW,wE,ht,ha,hb,Aca]
 simp (disch:=first|assumption|omega) only[S0,rA,rQ,rB,rT,rE,gW,wE,ht,ha,hb];unfold Xaq;rw[vV 1 a.length (fun i=>(a.take i).all fun y=>!Jb7 ⟨n,rows⟩ b (atI a (i:Int)) y) [.bool false,.bool true]]
 ·(refine aD ?_;repeat' (refine aC ?_ ?_<;>intro _<;>try simp (disch:=first|assumption|omega) only[S0,rA,rQ,rB,rT,rE, *]))
 ·intro i hi hlt
  have rv:InB a (i:Int):=aH.2 hi;obtain⟨xl,xi⟩:=uN ha (at_mem hi);have x0:InB (atI a (i:Int)) 0:=by unfold InB;omega
  have x1:InB (atI a (i:Int)) 1:=by unfold InB;omega
  have xr:=bG xi;have xb:=bR (t:=⟨n,rows⟩) ht xi;simp only at xb;have xc:qA (eT ⟨n,rows⟩ (atI (atI a (i:Int)) 0) (atI (atI a (i:Int)) 1)).cmd=true:=Ba9 (lK (t:=⟨n,rows⟩) ht xi);have xl2:(atI a (i:Int)).length<=1099511627776:=by omega
  simp (disch:=first|assumption|omega) only[S0,rA,rQ,rB,rT,rE,aI,tK,hlt,Ac7,Ccb,Cch];rw[Sad 3 (a.take i) (fun y=>!Jb7 ⟨n,rows⟩ b (atI a (i:Int)) y) [.bool false,.bool true]]
  ·(refine aD ?_;repeat' (refine aC ?_ ?_<;>intro _<;>try simp (disch:=first|assumption|omega) only[S0,rA,rQ,rB,rT,rE, *]))
  ·intro j hj gx a8 hm
   have u5:j<10000000000:=by rw[Ac1]at hj;omega
   obtain⟨yl,yi⟩:=uN ha (Bc0 hm);have y0:InB (atI (a.take i) (j:Int)) 0:=by unfold InB;omega
   have y1:InB (atI (a.take i) (j:Int)) 1:=by unfold InB;omega
   have yr:=bG yi;have yb:=bR (t:=⟨n,rows⟩) ht yi;simp only at yb;have yc:qA (eT ⟨n,rows⟩ (atI (atI (a.take i) (j:Int)) 0) (atI (atI (a.take i) (j:Int)) 1)).cmd=true:=Ba9 (lK (t:=⟨n,rows⟩) ht yi);have yl2:(atI (a.take i) (j:Int)).length<=1099511627776:=by omega
   unfold Jb7;rw[Iay];generalize h1:xG (eT ⟨n,rows⟩ (atI (atI (a.take i) (j:Int)) 0) (atI (atI (a.take i) (j:Int)) 1)).cmd (eT ⟨n,rows⟩ (atI (atI a (i:Int)) 0) (atI (atI a (i:Int)) 1)).cmd=q;simp (disch:=first|assumption|omega) only[S0,rA,rQ,rB,rT,rE,aI,fM,a8]<;>repeat' (refine aC (fun _=>?_) (fun _=>?_)<;>try simp (disch:=first|assumption|omega) only[S0,rA,rQ,rB,rT,rE,aI,jB,vK,h1, *])
  ·intro a8
   simp (disch:=first|assumption|omega) only[S0,rA,rQ,rB,rT,rE,a8]
 ·intro hlt
  simp (disch:=first|assumption|omega) only[S0,rA,rQ,rB,rT,rE,hlt]
theorem Jaz (a:Int):Fun T 125 [i64 a]=some [.bool false]:=by
 rw[aO (t:=Eb5) rfl];unfold Eb5
 simp (disch:=first|assumption|omega) only[S0,rA,rQ,rB,rT,rE]
theorem Baf (a b:Int):Fun T 124 [i64 a,i64 b]=some [i64 (Kby a b)]:=by
 rw[aO (t:=Eb6) rfl];unfold Eb6;unfold Kby
 by_cases h:a<b
 ·simp (disch:=first|assumption|omega) only[S0,rA,rQ,rB,rT,rE,Jaz,h]
 ·by_cases h2:b<a
  ·simp (disch:=first|assumption|omega) only[S0,rA,rQ,rB,rT,rE,Jaz,h,h2]
  ·simp (disch:=first|assumption|omega) only[S0,rA,rQ,rB,rT,rE,Jaz,h,h2]
theorem Baz (xs ys:List Int)(hx:xs.length<=1099511627776)(hy:ys.length<=1099511627776):Fun T 123 [rL xs,rL ys]=some [i64 (Sbf xs ys)]:=by
 rw[aO (t:=Eb7) rfl];unfold Eb7;unfold Sbf
 simp (disch:=first|assumption|omega) only[S0,rA,rQ,rB,rT,rE];rw[Had (T:=T) (match Yaz xs ys with|some c=>(.ret,[i64 c])|none=>(.yield 1,[])) (fun i:Nat=>xs.length-i) (fun i=>i<=xs.length/\Yaz (xs.drop i) (ys.drop i)=Yaz xs ys) (fun i=>[i64 i]) 0 rfl ⟨by omega,by simp⟩ (by split<;>simp)]
 ·cases Yaz xs ys with
  |some c=>simp (disch:=first|assumption|omega) only[S0,rA,rQ,rB,rT,rE]
  | none =>
   cases h:decide ((xs.length:Int)<ys.length)
   ·simp (disch:=first|assumption|omega) only[S0,rA,rQ,rB,rT,rE,h,Aca]
   ·simp (disch:=first|assumption|omega) only[S0,rA,rQ,rB,rT,rE,h]
 ·rintro i ⟨hi,he⟩
  rcases Acy i xs.length with hlt|my
  ·have h1:decide ((i:Int)<xs.length)=true:=by simp;omega
   have hb:InB xs (i:Int):=aH.2 hlt
   rcases Acy i ys.length with a8|hge2
   ·have h2:decide ((ys.length:Int)<=i)=false:=by simp;omega
    have gx:InB ys (i:Int):=aH.2 a8;rw[Cbl hlt a8]at he;by_cases h3:atI xs (i:Int)<atI ys (i:Int)
    ·rw[if_pos h3]at he
     have e:Kby (atI xs (i:Int)) (atI ys (i:Int))=-1:=if_pos h3;rw[<- he];refine .inr ?_;simp (disch:=first|assumption|omega) only[S0,rA,rQ,rB,rT,rE,aI,Baf,h1,h2,e]
    ·rw[if_neg h3]at he
     by_cases h4:atI ys (i:Int)<atI xs (i:Int)
     ·rw[if_pos h4]at he
      have e:Kby (atI xs (i:Int)) (atI ys (i:Int))=1:=by unfold Kby;rw[if_neg h3,if_pos h4]
      rw[<- he];refine .inr ?_;simp (disch:=first|assumption|omega) only[S0,rA,rQ,rB,rT,rE,aI,Baf,h1,h2,e]
     ·rw[if_neg h4]at he
      have e:Kby (atI xs (i:Int)) (atI ys (i:Int))=0:=by unfold Kby;rw[if_neg h3,if_neg h4]
      refine .inl ⟨i+1,?_,⟨by omega,he⟩,by omega⟩;simp (disch:=first|assumption|omega) only[S0,rA,rQ,rB,rT,rE,aI,Baf,h1,h2,e]
   ·have h2:decide ((ys.length:Int)<=i)=true:=by simp;omega
    rw[Hbt hlt hge2]at he;rw[<- he];refine .inr ?_;simp (disch:=first|assumption|omega) only[S0,rA,rQ,rB,rT,rE,aI,h1,h2]
  ·have h1:decide ((i:Int)<xs.length)=false:=by simp;omega
   rw[List.drop_eq_nil_of_le my]at he;have he':Yaz xs ys=none:=by rw[<- he];rfl
   rw[he'];refine .inr ?_;simp (disch:=first|assumption|omega) only[S0,rA,rQ,rB,rT,rE,h1]
theorem lM (xs:List Int)(lo up:Int)(hx:xs.length<=10000000000):Fun T 49 [rL xs,i64 lo,i64 up]=some [.bool (Jby xs lo up)]:=by
 rw[aO (t:=Qb5) rfl];unfold Qb5;unfold Jby
 simp (disch:=first|assumption|omega) only[S0,rA,rQ,rB,rT,rE];rw[vV 1 xs.length (fun i=>inR (atI xs (i:Int)) lo up&&Tac xs i) [.bool false]]
 ·(refine aD ?_;repeat' (refine aC ?_ ?_<;>intro _<;>try simp (disch:=first|assumption|omega) only[S0,rA,rQ,rB,rT,rE, *]))
 ·intro i hi hlt
  have hb:InB xs (i:Int):=aH.2 hi;unfold Tac;cases h1:inR (atI xs (i:Int)) lo up
  ·simp (disch:=first|assumption|omega) only[S0,rA,rQ,rB,rT,rE,aI,dM,hlt,h1]
  ·cases i with
   | zero =>
    have a69:decide ((0:Int)<xs.length)=true:=hlt;have hb0:InB xs 0:=hb;have cL:inR (atI xs 0) lo up=true:=h1;have d0:decide ((0:Int)<0)=false:=rfl;have d1:decide ((0:Nat)<0)=false:=rfl;simp (disch:=first|assumption|omega) only[S0,rA,rQ,rB,rT,rE,aI,dM,a69,cL,d0,d1,Int.natCast_zero,Nat.lt_irrefl,Int.cast_ofNat_Int]
   | succ i =>
    have gx:InB xs ((i:Int)+1-1):=by unfold InB;omega
    have d1:decide ((0:Int)<(i:Int)+1)=true:=decide_eq_true (by omega);have d2:decide (0<i+1)=true:=decide_eq_true (by omega);have tB:InB xs ((i:Int)+1):=hb;have sd:decide ((i:Int)+1<xs.length)=true:=hlt;have jf:inR (atI xs ((i:Int)+1)) lo up=true:=h1;cases h2:decide (atI xs ((i:Int)+1)<=atI xs ((i:Int)+1-1))
    ·simp (disch:=first|assumption|omega) only[S0,rA,rQ,rB,rT,rE,aI,dM,sd,jf,d1,d2,h2]
    ·simp (disch:=first|assumption|omega) only[S0,rA,rQ,rB,rT,rE,aI,dM,sd,jf,d1,d2,h2]
 ·intro hlt
  simp (disch:=first|assumption|omega) only[S0,rA,rQ,rB,rT,rE,hlt]
theorem Qa2 (xs:List Int)(hx:xs.length<=10000000000):Fun T 114 [rL xs]=some [.bool (rZ (Tac xs) xs.length)]:=by
 rw[aO (t:=Fbg) rfl];unfold Fbg
 have e:rZ (Tac xs) xs.length=rZ (fun i=>decide (i<1)||!decide (atI xs (i:Int)<=atI xs ((i:Int)-1))) xs.length:=by
  refine Maq fun i hi=>?_
  unfold Tac
  cases i with
  |zero=>rfl
  |succ i=>simp
 rw[e];simp (disch:=first|assumption|omega) only[S0,rA,rQ,rB,rT,rE];have h1:(D.int .i64 1)=i64 ((1:Nat):Int):=rfl;rw[h1,Sbx 1 1 xs.length (fun i=>!decide (atI xs (i:Int)<=atI xs ((i:Int)-1))) [.bool false]]
 ·(refine aD ?_;repeat' (refine aC ?_ ?_<;>intro _<;>try simp (disch:=first|assumption|omega) only[S0,rA,rQ,rB,rT,rE, *]))
 ·intro i hs hi hlt
  have hb:InB xs (i:Int):=aH.2 hi;have gx:InB xs ((i:Int)-1):=by unfold InB;omega
  have hz:((0:Nat):Int)+1=1:=rfl;cases hq:decide (atI xs (i:Int)<=atI xs ((i:Int)-1))<;>simp (disch:=first|assumption|omega) only[S0,rA,rQ,rB,rT,rE,aI,hlt,hz,hq]
 ·intro i hi hlt
  simp (disch:=first|assumption|omega) only[S0,rA,rQ,rB,rT,rE,hlt]
theorem sU (x n:Int)(hg:Far n):Fun T 117 [i64 x,i64 n]=some [.bool (!inR x 0 (n-1))]:=by
 rw[aO (t:=Fbd) rfl];unfold Fbd
 unfold Far at hg;simp (disch:=first|assumption|omega) only[S0,rA,rQ,rB,rT,rE,bY]
theorem Iaw (n:Int)(hg:Far n)(xs:List Int)(hx:xs.length<=1099511627776):Fun T 116 [rL xs,i64 n]=some [i64 (ixF (fun x=>!inR x 0 (n-1)) xs)]:=by
 rw[aO (t:=Fbe) rfl];unfold Fbe
 simp (disch:=first|assumption|omega) only[S0,rA,rQ,rB,rT,rE,aI, *];rw[xR 1 xs (fun x=>!inR x 0 (n-1)) (fun i=>[i64 i])]
 ·cases h:xs.any (fun x=>!inR x 0 (n-1))
  ·have e:ixF (fun x=>!inR x 0 (n-1)) xs=-1:=by
    have h2:=dJ (fun x=>!inR x 0 (n-1)) xs;rw[h]at h2;unfold ixF at h2 ⊢;split at h2<;>simp_all
   rw[e];simp (disch:=first|assumption|omega) only[S0,rA,rQ,rB,rT,rE]
  ·simp (disch:=first|assumption|omega) only[S0,rA,rQ,rB,rT,rE]
 ·intro i hi hb hl hp
  (refine aD ?_;repeat' (refine aC ?_ ?_<;>intro _<;>try simp (disch:=first|assumption|omega) only[S0,rA,rQ,rB,rT,rE,aI,sU, *]))
 ·intro i hi hb hl hp
  (refine aD ?_;repeat' (refine aC ?_ ?_<;>intro _<;>try simp (disch:=first|assumption|omega) only[S0,rA,rQ,rB,rT,rE,aI,sU, *]))
 ·intro hl
  (refine aD ?_;repeat' (refine aC ?_ ?_<;>intro _<;>try simp (disch:=first|assumption|omega) only[S0,rA,rQ,rB,rT,rE, *]))
theorem Jat (n:Int)(hg:Far n)(xs:List Int)(hx:xs.length<=1099511627776):Fun T 115 [rL xs,i64 n]=some [.bool (xs.any (fun x=>!inR x 0 (n-1)))]:=by
 rw[aO (t:=Fbf) rfl];unfold Fbf
 (refine aD ?_;repeat' (refine aC ?_ ?_<;>intro _<;>try simp (disch:=first|assumption|omega) only[S0,rA,rQ,rB,rT,rE,Iaw,dJ, *]))
theorem jS (n:Int)(xs:List Int)(hg:Far n)(hx:xs.length<=10000000000):Fun T 113 [i64 n,rL xs]=some [.bool (Jby xs 0 (n-1))]:=by
 rw[aO (t:=Fbh) rfl];unfold Fbh;unfold Jby
 have qj:xs.length<=1099511627776:=by omega
 have e:xs.any (fun x=>!inR x 0 (n-1))=!xs.all fun x=>inR x 0 (n-1):=by rw[Ccm]
 rw[Wap,Waq xs (fun x=>inR x 0 (n-1)),Bool.and_comm];cases h:rZ (Tac xs) xs.length
 ·simp (disch:=first|assumption|omega) only[S0,rA,rQ,rB,rT,rE,Qa2,h]
 ·simp (disch:=first|assumption|omega) only[S0,rA,rQ,rB,rT,rE,Qa2,Jat,h,e,Bool.not_not]
theorem uB (n me:Int)(kk oi fg fy dq eR eo et eu bq:Int)(bb:(List Int))(b5:Int)(bh:(List Int))(ig:Bool)(gA:(List Int))(dm:(List bU))(hg:dF n=true)(hs:Vaa ⟨kk,oi,fg,fy,⟨dq,eR,eo,et,eu⟩,⟨bq,bb⟩,⟨b5,bh⟩,ig,gA,dm⟩):Fun T 48 [i64 n,i64 me,i64 kk,i64 oi,i64 fg,i64 fy,i64 dq,i64 eR,i64 eo,i64 et,i64 eu,i64 bq,rL bb,i64 b5,rL bh,.bool ig,rL gA,rL dm]=some [.bool (Ias n me ⟨kk,oi,fg,fy,⟨dq,eR,eo,et,eu⟩,⟨bq,bb⟩,⟨b5,bh⟩,ig,gA,dm⟩)]:=by
 rw[aO (t:=Qb6) rfl];unfold Qb6
 have hn:=aV hg;obtain⟨h1,h2,h3,h4,h5⟩:=hs;simp only at h1 h2 h3 h4 h5;have vk:bb.length<=1099511627776:=by omega
 have u6:bh.length<=1099511627776:=by omega
 have h3':gA.length<=1099511627776:=by omega
 have ea:decide ((⟨bq,bb⟩:fT)=none0 n)=decide ((⟨bq,bb⟩:fT)=⟨(none0 n).seq,(none0 n).deps⟩):=rfl;have eb:decide ((⟨b5,bh⟩:fT)=none0 n)=decide ((⟨b5,bh⟩:fT)=⟨(none0 n).seq,(none0 n).deps⟩):=rfl;unfold Ias;cases c1:inst n kk oi
 ·simp (disch:=first|assumption|omega) only[S0,rA,rQ,rB,rT,rE,dK,c1]
 cases c2:inR fg 0 9999
 ·simp (disch:=first|assumption|omega) only[S0,rA,rQ,rB,rT,rE,dK,dM,c1,c2]
 cases c3:Jby gA 0 (n-1)
 ·simp (disch:=first|assumption|omega) only[S0,rA,rQ,rB,rT,rE,dK,dM,lM,c1,c2,c3]
 cases c4:lG gA me
 ·simp (disch:=first|assumption|omega) only[S0,rA,rQ,rB,rT,rE,dK,dM,lM,iF,c1,c2,c3,c4]
 cases c5:mF n ⟨bq,bb⟩
 ·simp (disch:=first|assumption|omega) only[S0,rA,rQ,rB,rT,rE,dK,dM,lM,iF,oO,c1,c2,c3,c4,c5]
 cases c6:mF n ⟨b5,bh⟩
 ·simp (disch:=first|assumption|omega) only[S0,rA,rQ,rB,rT,rE,dK,dM,lM,iF,oO,c1,c2,c3,c4,c5,c6]
 simp (disch:=first|assumption|omega) only[S0,rA,rQ,rB,rT,rE,dK,dM,lM,iF,oO,c1,c2,c3,c4,c5,c6];rw[Sad 1 dm (fun r=>rowOk n r&&!(r.state==3)) [.bool false]]
 ·have e0:((dm.length:Int)==0)=true->(dm.all fun r=>rowOk n r&&!(r.state==3))=true:=fun h=>by
   have:dm=[]:=List.length_eq_zero_iff.1 (by simpa using h);rw[this];rfl
  cases c7:dm.all fun r=>rowOk n r&&!(r.state==3)
  ·have e1:((dm.length:Int)==0)=false:=by
    cases h:((dm.length:Int)==0) with
    |false=>rfl
    |true=>rw[e0 h]at c7;cases c7
   rcases Za8 fy with rfl|rfl|rfl|⟨p1,p2,p3⟩
   ·simp (disch:=first|assumption|omega) only[S0,rA,rQ,rB,rT,rE,e1]
   ·simp (disch:=first|assumption|omega) only[S0,rA,rQ,rB,rT,rE,e1]
   ·simp (disch:=first|assumption|omega) only[S0,rA,rQ,rB,rT,rE]
   ·simp (disch:=first|assumption|omega) only[S0,rA,rQ,rB,rT,rE,p1,p2,p3,Aca]
  ·clear e0
   rcases Za8 fy with rfl|rfl|rfl|⟨p1,p2,p3⟩
   ·simp (disch:=first|assumption|omega) only[S0,rA,rQ,rB,rT,rE,gG]<;>repeat' (refine aC (fun _=>?_) (fun _=>?_)<;>try simp (disch:=first|assumption|omega) only[S0,rA,rQ,rB,rT,rE,gG, *])
   ·simp (disch:=first|assumption|omega) only[S0,rA,rQ,rB,rT,rE,gG]<;>repeat' (refine aC (fun _=>?_) (fun _=>?_)<;>try simp (disch:=first|assumption|omega) only[S0,rA,rQ,rB,rT,rE,gG,jZ, *])
   ·cases k0:decide (({ kind:=dq,id:=eR,src:=eo,dst:=et,amt:=eu }:Bak)={ kind:=0,id:=0,src:=0,dst:=0,amt:=0 })<;>cases k1:decide (({ seq:=bq,deps:=bb }:fT)=fT.mk (none0 n).seq (none0 n).deps)<;>cases k2:decide (({ seq:=b5,deps:=bh }:fT)=fT.mk (none0 n).seq (none0 n).deps)
    all_goals (have k1':=ea.trans k1;have k2':=eb.trans k2;simp (disch:=first|assumption|omega) only[S0,rA,rQ,rB,rT,rE,mO,jZ,mI,k0,k1,k2,k1',k2'])
    all_goals (cases ig<;>simp (disch:=first|assumption|omega) only[S0,rA,rQ,rB,rT,rE])
   ·simp (disch:=first|assumption|omega) only[S0,rA,rQ,rB,rT,rE,p1,p2,p3,Aca]
 ·intro i hi hb hlt hm
  have hq:=h5 _ hm;have k8:(atI dm (i:Int)).attr.deps.length<=1099511627776:=by omega
  simp (disch:=first|assumption|omega) only[S0,rA,rQ,rB,rT,rE,aI,yQ,hlt]<;>repeat' (refine aC (fun _=>?_) (fun _=>?_)<;>try simp (disch:=first|assumption|omega) only[S0,rA,rQ,rB,rT,rE,aI,yQ, *])
 ·intro hlt
  simp (disch:=first|assumption|omega) only[S0,rA,rQ,rB,rT,rE,hlt]
theorem xI (b9 dj cn bg b7 bo bn bp bf:Int)(av:(List Int))(n:Int)(hg:dF n=true)(hx:av.length<=1099511627776):Fun T 122 [i64 b9,i64 dj,i64 cn,i64 bg,i64 b7,i64 bo,i64 bn,i64 bp,i64 bf,rL av,i64 n]=some [.bool (!(rowOk n ⟨b9,dj,cn,⟨bg,b7,bo,bn,bp⟩,⟨bf,av⟩⟩&&!(cn==3)))]:=by
 rw[aO (t:=Eb8) rfl];unfold Eb8
 (refine aD ?_;repeat' (refine aC ?_ ?_<;>intro _<;>try simp (disch:=first|assumption|omega) only[S0,rA,rQ,rB,rT,rE,xH,Bool.not_not, *]))
theorem Na1 (n:Int)(hg:dF n=true)(xs:List bU)(hx:xs.length<=1099511627776)(hq:∀ x∈xs,x.attr.deps.length<=1099511627776):Fun T 121 [rL xs,i64 n]=some [i64 (ixF (fun r=>!(rowOk n r&&!(r.state==3))) xs)]:=by
 rw[aO (t:=Eb9) rfl];unfold Eb9
 simp (disch:=first|assumption|omega) only[S0,rA,rQ,rB,rT,rE,aI, *];rw[xR 1 xs (fun r=>!(rowOk n r&&!(r.state==3))) (fun i=>[i64 i])]
 ·cases h:xs.any (fun r=>!(rowOk n r&&!(r.state==3)))
  ·have e:ixF (fun r=>!(rowOk n r&&!(r.state==3))) xs=-1:=by
    have h2:=dJ (fun r=>!(rowOk n r&&!(r.state==3))) xs;rw[h]at h2;unfold ixF at h2 ⊢;split at h2<;>simp_all
   rw[e];simp (disch:=first|assumption|omega) only[S0,rA,rQ,rB,rT,rE]
  ·simp (disch:=first|assumption|omega) only[S0,rA,rQ,rB,rT,rE]
 ·intro i hi hb hl hp
  have k8:=hq _ (at_mem hi)
  try simp only at k8 hp
  (refine aD ?_;repeat' (refine aC ?_ ?_<;>intro _<;>try simp (disch:=first|assumption|omega) only[S0,rA,rQ,rB,rT,rE,aI,xI, *]))
 ·intro i hi hb hl hp
  have k8:=hq _ (at_mem hi)
  try simp only at k8 hp
  (refine aD ?_;repeat' (refine aC ?_ ?_<;>intro _<;>try simp (disch:=first|assumption|omega) only[S0,rA,rQ,rB,rT,rE,aI,xI, *]))
 ·intro hl
  (refine aD ?_;repeat' (refine aC ?_ ?_<;>intro _<;>try simp (disch:=first|assumption|omega) only[S0,rA,rQ,rB,rT,rE, *]))
theorem Oag (n:Int)(hg:dF n=true)(xs:List bU)(hx:xs.length<=1099511627776)(hq:∀ x∈xs,x.attr.deps.length<=1099511627776):Fun T 120 [rL xs,i64 n]=some [.bool (xs.any (fun r=>!(rowOk n r&&!(r.state==3))))]:=by
 rw[aO (t:=Fba) rfl];unfold Fba
 (refine aD ?_;repeat' (refine aC ?_ ?_<;>intro _<;>try simp (disch:=first|assumption|omega) only[S0,rA,rQ,rB,rT,rE,Na1,dJ, *]))
theorem uP (n me:Int)(kk oi fg fy dq eR eo et eu bq:Int)(bb:(List Int))(b5:Int)(bh:(List Int))(ig:Bool)(gA:(List Int))(dm:(List bU))(hg:dF n=true)(hs:Vaa ⟨kk,oi,fg,fy,⟨dq,eR,eo,et,eu⟩,⟨bq,bb⟩,⟨b5,bh⟩,ig,gA,dm⟩):Fun T 112 [i64 n,i64 me,i64 kk,i64 oi,i64 fg,i64 fy,i64 dq,i64 eR,i64 eo,i64 et,i64 eu,i64 bq,rL bb,i64 b5,rL bh,.bool ig,rL gA,rL dm]=some [.bool (Ias n me ⟨kk,oi,fg,fy,⟨dq,eR,eo,et,eu⟩,⟨bq,bb⟩,⟨b5,bh⟩,ig,gA,dm⟩)]:=by
 rw[aO (t:=Fbi) rfl];unfold Fbi
 have hn:=aV hg;have hgn:Far n:=Ab8 hg;obtain⟨h1,h2,h3,h4,h5⟩:=hs;simp only at h1 h2 h3 h4 h5;have vk:bb.length<=1099511627776:=by omega
 have u6:bh.length<=1099511627776:=by omega
 have h3':gA.length<=1099511627776:=by omega
 have wt:dm.length<=1099511627776:=by omega
 have um:∀ x∈dm,x.attr.deps.length<=1099511627776:=fun x hx=>by have:=h5 x hx;omega
 have ea:decide ((⟨bq,bb⟩:fT)=none0 n)=decide ((⟨bq,bb⟩:fT)=⟨(none0 n).seq,(none0 n).deps⟩):=rfl;have eb:decide ((⟨b5,bh⟩:fT)=none0 n)=decide ((⟨b5,bh⟩:fT)=⟨(none0 n).seq,(none0 n).deps⟩):=rfl;have e3:(dm.any fun r=>!(rowOk n r&&!(r.state==3)))=!dm.all fun r=>rowOk n r&&!(r.state==3):=by rw[Ccm]
 unfold Ias;cases c1:inst n kk oi
 ·simp (disch:=first|assumption|omega) only[S0,rA,rQ,rB,rT,rE,bN,hg,c1]
 cases c2:inR fg 0 9999
 ·simp (disch:=first|assumption|omega) only[S0,rA,rQ,rB,rT,rE,bN,bY,hg,c1,c2]
 cases c3:Jby gA 0 (n-1)
 ·simp (disch:=first|assumption|omega) only[S0,rA,rQ,rB,rT,rE,bN,bY,jS,hg,c1,c2,c3]
 cases c4:lG gA me
 ·simp (disch:=first|assumption|omega) only[S0,rA,rQ,rB,rT,rE,bN,bY,jS,slices_Contains_int,hg,c1,c2,c3,c4]
 cases c5:mF n ⟨bq,bb⟩
 ·simp (disch:=first|assumption|omega) only[S0,rA,rQ,rB,rT,rE,bN,bY,jS,slices_Contains_int,lY,hg,c1,c2,c3,c4,c5]
 cases c6:mF n ⟨b5,bh⟩
 ·simp (disch:=first|assumption|omega) only[S0,rA,rQ,rB,rT,rE,bN,bY,jS,slices_Contains_int,lY,hg,c1,c2,c3,c4,c5,c6]
 simp (disch:=first|assumption|omega) only[S0,rA,rQ,rB,rT,rE,bN,bY,jS,slices_Contains_int,lY,hg,c1,c2,c3,c4,c5,c6]
 rcases Za8 fy with rfl|rfl|rfl|⟨p1,p2,p3⟩
 ·simp (disch:=first|assumption|omega) only[S0,rA,rQ,rB,rT,rE,fK]<;>repeat' (refine aC (fun _=>?_) (fun _=>?_)<;>try simp (disch:=first|assumption|omega) only[S0,rA,rQ,rB,rT,rE,fK, *])
 ·cases c7:qA ⟨dq,eR,eo,et,eu⟩
  ·simp (disch:=first|assumption|omega) only[S0,rA,rQ,rB,rT,rE,fK,c7]
  cases c8:(dm.length:Int)==0
  ·simp (disch:=first|assumption|omega) only[S0,rA,rQ,rB,rT,rE,fK,c7,c8]
  cases c9:decide ((⟨bq,bb⟩:fT)=⟨b5,bh⟩)<;>cases c10:ig<;>simp (disch:=first|assumption|omega) only[S0,rA,rQ,rB,rT,rE,fK,eF,c7,c8,c9,c10]
 ·cases c7:decide ((⟨dq,eR,eo,et,eu⟩:Bak)=⟨0,0,0,0,0⟩)
  ·simp (disch:=first|assumption|omega) only[S0,rA,rQ,rB,rT,rE,eD,mI,c7]
  cases c8:decide ((⟨bq,bb⟩:fT)=none0 n)
  ·simp (disch:=first|assumption|omega) only[S0,rA,rQ,rB,rT,rE,eD,eF,mI,c7,c8]
  cases c9:decide ((⟨b5,bh⟩:fT)=none0 n)
  ·simp (disch:=first|assumption|omega) only[S0,rA,rQ,rB,rT,rE,eD,eF,mI,c7,c8,c9]
  cases c10:ig
  rotate_left
  ·simp (disch:=first|assumption|omega) only[S0,rA,rQ,rB,rT,rE,eD,eF,mI,c7,c8,c9,c10]
  cases c11:(dm.length:Int)==(gA.length:Int)
  ·simp (disch:=first|assumption|omega) only[S0,rA,rQ,rB,rT,rE,eD,eF,mI,c7,c8,c9,c10,c11]
  simp (disch:=first|assumption|omega) only[S0,rA,rQ,rB,rT,rE,eD,eF,mI,c7,c8,c9,c10,c11,Oag,e3,Bool.not_not]
 ·simp (disch:=first|assumption|omega) only[S0,rA,rQ,rB,rT,rE,p1,p2,p3,Aca]
theorem Gad (me n:Int)(rows:List (List bU))(leads:List iC)(hs:lQ rows)(lz:Nad leads):Fun T 40 [i64 me,i64 n,rL rows,rL leads]=some [.bool (Tae ⟨me,⟨n,rows⟩,leads⟩)]:=by
 rw[aO (t:=Rbe) rfl];unfold Rbe;unfold Tae
 obtain⟨hs3,hs4⟩:=lz;cases ht:bJ ⟨n,rows⟩
 ·simp (disch:=first|assumption|omega) only[S0,rA,rQ,rB,rT,rE,gW,ht]
 have hg:dF n=true:=aX ht;have hn:=aV hg;cases hm:inR me 0 (n-1)
 ·simp (disch:=first|assumption|omega) only[S0,rA,rQ,rB,rT,rE,gW,dM,ht,hm]
 simp (disch:=first|assumption|omega) only[S0,rA,rQ,rB,rT,rE,gW,dM,ht,hm];rw[vV 1 leads.length (Qar n me leads) [.bool false]]
 ·(refine aD ?_;repeat' (refine aC ?_ ?_<;>intro _<;>try simp (disch:=first|assumption|omega) only[S0,rA,rQ,rB,rT,rE, *]))
 ·intro i hi hlt
  have hb:InB leads (i:Int):=aH.2 hi;have hq:=hs4 _ (at_mem hi);unfold Qar Abu;cases c1:Ias n me (atI leads (i:Int))
  ·simp (disch:=first|assumption|omega) only[S0,rA,rQ,rB,rT,rE,aI,uB,hlt,c1]
  by_cases h0:0<(i:Int)
  ·have d0:decide (0<(i:Int))=true:=by simpa using h0
   have gx:InB leads ((i:Int)-1):=by unfold InB;omega
   simp (disch:=first|assumption|omega) only[S0,rA,rQ,rB,rT,rE,aI,uB,hlt,c1,d0]<;>repeat' (refine aC (fun _=>?_) (fun _=>?_)<;>try simp (disch:=first|assumption|omega) only[S0,rA,rQ,rB,rT,rE,aI,uB, *])
  ·have d0:decide (0<(i:Int))=false:=by simpa using h0
   simp (disch:=first|assumption|omega) only[S0,rA,rQ,rB,rT,rE,aI,uB,hlt,c1,d0]
 ·intro hlt
  simp (disch:=first|assumption|omega) only[S0,rA,rQ,rB,rT,rE,hlt]
theorem Gal (me n:Int)(rows:List (List bU))(leads:List iC)(hs:lQ rows)(lz:Nad leads):Fun T 104 [i64 me,i64 n,rL rows,rL leads]=some [.bool (Tae ⟨me,⟨n,rows⟩,leads⟩)]:=by
 rw[aO (t:=Fbq) rfl];unfold Fbq;unfold Tae
 obtain⟨hs3,hs4⟩:=lz;cases ht:bJ ⟨n,rows⟩
 ·simp (disch:=first|assumption|omega) only[S0,rA,rQ,rB,rT,rE,rV,ht]
 have hg:dF n=true:=aX ht;have hn:=aV hg;cases hm:inR me 0 (n-1)
 ·simp (disch:=first|assumption|omega) only[S0,rA,rQ,rB,rT,rE,rV,bY,ht,hm]
 simp (disch:=first|assumption|omega) only[S0,rA,rQ,rB,rT,rE,rV,bY,ht,hm];rw[vV 1 leads.length (Qar n me leads) [.bool false]]
 ·(refine aD ?_;repeat' (refine aC ?_ ?_<;>intro _<;>try simp (disch:=first|assumption|omega) only[S0,rA,rQ,rB,rT,rE, *]))
 ·intro i hi hlt
  have hb:InB leads (i:Int):=aH.2 hi;have hq:=hs4 _ (at_mem hi);unfold Qar Abu;cases c1:Ias n me (atI leads (i:Int))
  ·simp (disch:=first|assumption|omega) only[S0,rA,rQ,rB,rT,rE,aI,uP,hlt,c1]
  by_cases h0:0<(i:Int)
  ·have d0:decide (0<(i:Int))=true:=by simpa using h0
   have gx:InB leads ((i:Int)-1):=by unfold InB;omega
   have hc:=Zb0 (atI leads (i:Int)).rep (atI leads (i:Int)).no (atI leads ((i:Int)-1)).rep (atI leads ((i:Int)-1)).no;have l1:([(atI leads (i:Int)).rep,(atI leads (i:Int)).no]:List Int).length<=1099511627776:=by simp
   have l2:([(atI leads ((i:Int)-1)).rep,(atI leads ((i:Int)-1)).no]:List Int).length<=1099511627776:=by simp
   generalize hz:(decide ((atI leads (i:Int)).rep<(atI leads ((i:Int)-1)).rep)||((atI leads ((i:Int)-1)).rep==(atI leads (i:Int)).rep&&decide ((atI leads (i:Int)).no<=(atI leads ((i:Int)-1)).no)))=z at hc ⊢;cases z<;>simp (disch:=first|assumption|omega) only[S0,rA,rQ,rB,rT,rE,aI,oG,uP,Baz,hlt,c1,d0,hc]
  ·have d0:decide (0<(i:Int))=false:=by simpa using h0
   simp (disch:=first|assumption|omega) only[S0,rA,rQ,rB,rT,rE,aI,uP,hlt,c1,d0]
 ·intro hlt
  simp (disch:=first|assumption|omega) only[S0,rA,rQ,rB,rT,rE,hlt]
theorem Fah (n:Int)(l:List bM)(hg:dF n=true)(hl:l.length<=10000000000):Fun T 34 [i64 n,rL l]=some [.bool (Kaa n l)]:=by
 rw[aO (t:=Rbk) rfl];unfold Rbk;unfold Kaa
 have hn:=aV hg;simp (disch:=first|assumption|omega) only[S0,rA,rQ,rB,rT,rE];rw[vV 1 l.length (Ea6 n l) [.bool false]]
 ·(refine aD ?_;repeat' (refine aC ?_ ?_<;>intro _<;>try simp (disch:=first|assumption|omega) only[S0,rA,rQ,rB,rT,rE, *]))
 ·intro i hi hlt
  have hb:InB l (i:Int):=aH.2 hi;unfold Ea6;cases c1:inst n (atI l (i:Int)).rep (atI l (i:Int)).no
  ·simp (disch:=first|assumption|omega) only[S0,rA,rQ,rB,rT,rE,aI,dK,hlt,c1]
  cases c2:qA (atI l (i:Int)).cmd
  ·simp (disch:=first|assumption|omega) only[S0,rA,rQ,rB,rT,rE,aI,dK,gG,hlt,c1,c2]
  cases c3:(atI l (i:Int)).cmd.kind==0
  rotate_left
  ·simp (disch:=first|assumption|omega) only[S0,rA,rQ,rB,rT,rE,aI,dK,gG,hlt,c1,c2,c3]
  simp (disch:=first|assumption|omega) only[S0,rA,rQ,rB,rT,rE,aI,tK,dK,gG,hlt,c1,c2,c3,Ac7,Ccb,Cch];have e:(l.take i).any (fun b=>b.rep==(atI l (i:Int)).rep&&b.no==(atI l (i:Int)).no)=!(l.take i).all fun b=>!(b.rep==(atI l (i:Int)).rep&&b.no==(atI l (i:Int)).no):=by rw[Ccm];simp only[Bool.not_not]
  rw[e,Sad 3 (l.take i) (fun b=>!(b.rep==(atI l (i:Int)).rep&&b.no==(atI l (i:Int)).no)) [.bool false]]
  ·(refine aD ?_;repeat' (refine aC ?_ ?_<;>intro _<;>try simp (disch:=first|assumption|omega) only[S0,rA,rQ,rB,rT,rE, *]))
  ·intro j hj gx a8 hm
   have u5:j<10000000000:=by rw[Ac1]at hj;omega
   have s1:((atI l (i:Int)).rep==(atI (l.take i) (j:Int)).rep)=((atI (l.take i) (j:Int)).rep==(atI l (i:Int)).rep):=by rw[Ccs,beq_iff_eq,beq_iff_eq];exact eq_comm
   have s2:((atI l (i:Int)).no==(atI (l.take i) (j:Int)).no)=((atI (l.take i) (j:Int)).no==(atI l (i:Int)).no):=by rw[Ccs,beq_iff_eq,beq_iff_eq];exact eq_comm
   generalize h1:((atI (l.take i) (j:Int)).rep==(atI l (i:Int)).rep)=q1 at s1;generalize h2:((atI (l.take i) (j:Int)).no==(atI l (i:Int)).no)=q2 at s2;cases q1<;>cases q2<;>simp (disch:=first|assumption|omega) only[S0,rA,rQ,rB,rT,rE,aI,a8,h1,h2,s1,s2]
  ·intro a8
   simp (disch:=first|assumption|omega) only[S0,rA,rQ,rB,rT,rE,a8]
 ·intro hlt
  simp (disch:=first|assumption|omega) only[S0,rA,rQ,rB,rT,rE,hlt]
theorem Fat (yf a1z pZ tp sg rk rl:Int)(rep no:Int):Fun T 128 [i64 yf,i64 a1z,i64 pZ,i64 tp,i64 sg,i64 rk,i64 rl,i64 rep,i64 no]=some [.bool (yf==rep&&a1z==no)]:=by
 rw[aO (t:=Eb2) rfl];unfold Eb2
 (refine aD ?_;repeat' (refine aC ?_ ?_<;>intro _<;>try simp (disch:=first|assumption|omega) only[S0,rA,rQ,rB,rT,rE, *]))
theorem Xa5 (rep no:Int)(xs:List bM)(hx:xs.length<=1099511627776):Fun T 127 [rL xs,i64 rep,i64 no]=some [i64 (ixF (fun b=>b.rep==rep&&b.no==no) xs)]:=by
 rw[aO (t:=Eb3) rfl];unfold Eb3
 simp (disch:=first|assumption|omega) only[S0,rA,rQ,rB,rT,rE,aI, *];rw[xR 1 xs (fun b=>b.rep==rep&&b.no==no) (fun i=>[i64 i])]
 ·cases h:xs.any (fun b=>b.rep==rep&&b.no==no)
  ·have e:ixF (fun b=>b.rep==rep&&b.no==no) xs=-1:=by
    have h2:=dJ (fun b=>b.rep==rep&&b.no==no) xs;rw[h]at h2;unfold ixF at h2 ⊢;split at h2<;>simp_all
   rw[e];simp (disch:=first|assumption|omega) only[S0,rA,rQ,rB,rT,rE]
  ·simp (disch:=first|assumption|omega) only[S0,rA,rQ,rB,rT,rE]
 ·intro i hi hb hl hp
  (refine aD ?_;repeat' (refine aC ?_ ?_<;>intro _<;>try simp (disch:=first|assumption|omega) only[S0,rA,rQ,rB,rT,rE,aI,Fat, *]))
 ·intro i hi hb hl hp
  (refine aD ?_;repeat' (refine aC ?_ ?_<;>intro _<;>try simp (disch:=first|assumption|omega) only[S0,rA,rQ,rB,rT,rE,aI,Fat, *]))
 ·intro hl
  (refine aD ?_;repeat' (refine aC ?_ ?_<;>intro _<;>try simp (disch:=first|assumption|omega) only[S0,rA,rQ,rB,rT,rE, *]))
theorem mY (reps:List nO)(bag:List nS)(l:List bM)(k:Nat)(rep no:Int)(hk:k<=l.length)(hl:l.length<=10000000000):Fun T 126 [rL reps,rL bag,rL l,i64 k,i64 rep,i64 no]=some [i64 (ixF (fun b=>b.rep==rep&&b.no==no) (l.take k))]:=by
 rw[aO (t:=Eb4) rfl];unfold Eb4
 have ht:(l.take k).length<=1099511627776:=by rw[Ac1];omega
 simp (disch:=first|assumption|omega) only[S0,rA,rQ,rB,rT,rE,tK,Xa5,Ac7,Ccb,Cch]
theorem nA (reps:List nO)(bag:List nS)(asked:List bM)(h1:oQ reps)(h2:Ha6 bag)(h3:asked.length<=10000000000):Fun T 32 [rL reps,rL bag,rL asked]=some [.bool (oZ ⟨reps,bag,asked⟩)]:=by
 rw[aO (t:=Rbm) rfl];unfold Rbm;unfold oZ
 obtain⟨h4,h5⟩:=h1;obtain⟨h6,h7⟩:=h2;cases hg:dF (reps.length:Int)
 ·simp (disch:=first|assumption|omega) only[S0,rA,rQ,rB,rT,rE,gF,hg]
 cases hb:decide (80<(bag.length:Int))
 rotate_left
 ·simp (disch:=first|assumption|omega) only[S0,rA,rQ,rB,rT,rE,gF,hg,hb]
 cases ha:Kaa (reps.length:Int) asked
 ·simp (disch:=first|assumption|omega) only[S0,rA,rQ,rB,rT,rE,gF,Fah,hg,hb,ha]
 simp (disch:=first|assumption|omega) only[S0,rA,rQ,rB,rT,rE,gF,Fah,hg,hb,ha];rw[vV 1 reps.length (Qab reps.length reps) [.bool false]]
 ·cases hr:rZ (Qab reps.length reps) reps.length
  ·simp (disch:=first|assumption|omega) only[S0,rA,rQ,rB,rT,rE]
  ·simp (disch:=first|assumption|omega) only[S0,rA,rQ,rB,rT,rE]
   rw[Sad 3 bag (fun m=>zP reps.length m) [.bool false]]
   ·(refine aD ?_;repeat' (refine aC ?_ ?_<;>intro _<;>try simp (disch:=first|assumption|omega) only[S0,rA,rQ,rB,rT,rE, *]))
   ·intro i hi rv hlt hm
    have hq:=h7 _ hm;simp (disch:=first|assumption|omega) only[S0,rA,rQ,rB,rT,rE,aI,Pat,hlt]<;>repeat' (refine aC (fun _=>?_) (fun _=>?_)<;>try simp (disch:=first|assumption|omega) only[S0,rA,rQ,rB,rT,rE, *])
   ·intro hlt
    simp (disch:=first|assumption|omega) only[S0,rA,rQ,rB,rT,rE,hlt]
 ·intro i hi hlt
  have rv:InB reps (i:Int):=aH.2 hi;obtain⟨kn,jr⟩:=h5 _ (at_mem hi);unfold Qab;simp (disch:=first|assumption|omega) only[S0,rA,rQ,rB,rT,rE,aI,Gad,hlt]<;>repeat' (refine aC (fun _=>?_) (fun _=>?_)<;>try simp (disch:=first|assumption|omega) only[S0,rA,rQ,rB,rT,rE, *])
 ·intro hlt
  simp (disch:=first|assumption|omega) only[S0,rA,rQ,rB,rT,rE,hlt]
theorem Aam (fv jy jx jz np eA gm fe cU eN ee dT ec cP:Int)(bk:(List Int))(n:Int)(hx:bk.length<=10000000000):Fun T 87 [i64 fv,i64 jy,i64 jx,i64 jz,i64 np,i64 eA,i64 gm,i64 fe,i64 cU,i64 eN,i64 ee,i64 dT,i64 ec,i64 cP,rL bk,i64 n]=some [.bool (!zP n ⟨fv,jy,jx,jz,np,eA,gm,fe,⟨cU,eN,ee,dT,ec⟩,⟨cP,bk⟩⟩)]:=by
 rw[aO (t:=Pb3) rfl];unfold Pb3
 simp (disch:=first|assumption|omega) only[S0,rA,rQ,rB,rT,rE,Qa5]
theorem Qay (n:Int)(xs:List nS)(hx:xs.length<=1099511627776)(hq:∀ x∈xs,x.attr.deps.length<=10000000000):Fun T 86 [rL xs,i64 n]=some [i64 (ixF (fun m=>!zP n m) xs)]:=by
 rw[aO (t:=Pb4) rfl];unfold Pb4
 simp (disch:=first|assumption|omega) only[S0,rA,rQ,rB,rT,rE,aI, *];rw[xR 1 xs (fun m=>!zP n m) (fun i=>[i64 i])]
 ·cases h:xs.any (fun m=>!zP n m)
  ·have e:ixF (fun m=>!zP n m) xs=-1:=by
    have h2:=dJ (fun m=>!zP n m) xs;rw[h]at h2;unfold ixF at h2 ⊢;split at h2<;>simp_all
   rw[e];simp (disch:=first|assumption|omega) only[S0,rA,rQ,rB,rT,rE]
  ·simp (disch:=first|assumption|omega) only[S0,rA,rQ,rB,rT,rE]
 ·intro i hi hb hl hp
  have k8:=hq _ (at_mem hi)
  try simp only at k8 hp
  (refine aD ?_;repeat' (refine aC ?_ ?_<;>intro _<;>try simp (disch:=first|assumption|omega) only[S0,rA,rQ,rB,rT,rE,aI,Aam, *]))
 ·intro i hi hb hl hp
  have k8:=hq _ (at_mem hi)
  try simp only at k8 hp
  (refine aD ?_;repeat' (refine aC ?_ ?_<;>intro _<;>try simp (disch:=first|assumption|omega) only[S0,rA,rQ,rB,rT,rE,aI,Aam, *]))
 ·intro hl
  (refine aD ?_;repeat' (refine aC ?_ ?_<;>intro _<;>try simp (disch:=first|assumption|omega) only[S0,rA,rQ,rB,rT,rE, *]))
theorem Fa7 (n:Int)(xs:List nS)(hx:xs.length<=1099511627776)(hq:∀ x∈xs,x.attr.deps.length<=10000000000):Fun T 85 [rL xs,i64 n]=some [.bool (xs.any (fun m=>!zP n m))]:=by
 rw[aO (t:=Pb5) rfl];unfold Pb5
 (refine aD ?_;repeat' (refine aC ?_ ?_<;>intro _<;>try simp (disch:=first|assumption|omega) only[S0,rA,rQ,rB,rT,rE,Qay,dJ, *]))
theorem Fau (reps:List nO)(bag:List nS)(asked:List bM)(h1:oQ reps)(h2:Ha6 bag)(h3:asked.length<=10000000000):Fun T 83 [rL reps,rL bag,rL asked]=some [.bool (oZ ⟨reps,bag,asked⟩)]:=by
 rw[aO (t:=Pb7) rfl];unfold Pb7;unfold oZ
 obtain⟨h4,h5⟩:=h1;obtain⟨h6,h7⟩:=h2;have h6':bag.length<=1099511627776:=by omega
 have e:(bag.any fun m=>!zP reps.length m)=!bag.all fun m=>zP reps.length m:=by rw[Ccm]
 cases hg:dF (reps.length:Int)
 ·simp (disch:=first|assumption|omega) only[S0,rA,rQ,rB,rT,rE,iR,hg]
 have hn:=aV hg;cases hb:decide (80<(bag.length:Int))
 rotate_left
 ·simp (disch:=first|assumption|omega) only[S0,rA,rQ,rB,rT,rE,iR,hg,hb]
 cases hm:bag.all fun m=>zP reps.length m
 ·simp (disch:=first|assumption|omega) only[S0,rA,rQ,rB,rT,rE,iR,Fa7,hg,hb,e,hm]
 simp (disch:=first|assumption|omega) only[S0,rA,rQ,rB,rT,rE,iR,Fa7,hg,hb,e,hm];rw[vV 1 reps.length (Qab reps.length reps) [.bool false]]
 ·cases hr:rZ (Qab reps.length reps) reps.length
  ·simp (disch:=first|assumption|omega) only[S0,rA,rQ,rB,rT,rE]
  ·simp (disch:=first|assumption|omega) only[S0,rA,rQ,rB,rT,rE]
   unfold Kaa;rw[vV 3 asked.length (Ea6 reps.length asked) [.bool false]]
   ·(refine aD ?_;repeat' (refine aC ?_ ?_<;>intro _<;>try simp (disch:=first|assumption|omega) only[S0,rA,rQ,rB,rT,rE, *]))
   ·intro i hi hlt
    have rv:InB asked (i:Int):=aH.2 hi;have hle:i<=asked.length:=by omega
    unfold Ea6;cases c1:inst (reps.length:Int) (atI asked (i:Int)).rep (atI asked (i:Int)).no
    ·simp (disch:=first|assumption|omega) only[S0,rA,rQ,rB,rT,rE,aI,bN,hlt,c1,hg]
    cases c2:qA (atI asked (i:Int)).cmd
    ·simp (disch:=first|assumption|omega) only[S0,rA,rQ,rB,rT,rE,aI,bN,fK,hlt,c1,c2,hg]
    cases c3:(atI asked (i:Int)).cmd.kind==0
    rotate_left
    ·simp (disch:=first|assumption|omega) only[S0,rA,rQ,rB,rT,rE,aI,bN,fK,hlt,c1,c2,c3,hg]
    rw[<- dJ];cases c4:decide (0<=ixF (fun b:bM=>b.rep==(atI asked (i:Int)).rep&&b.no==(atI asked (i:Int)).no) (List.take i asked))<;>simp (disch:=first|assumption|omega) only[S0,rA,rQ,rB,rT,rE,aI,bN,fK,mY,hlt,c1,c2,c3,c4,hg]
   ·intro hlt
    simp (disch:=first|assumption|omega) only[S0,rA,rQ,rB,rT,rE,hlt]
 ·intro i hi hlt
  have rv:InB reps (i:Int):=aH.2 hi;obtain⟨kn,jr⟩:=h5 _ (at_mem hi);unfold Qab;generalize hz:Tae (atI reps (i:Int))=z;cases k1:(atI reps (i:Int)).me==(i:Int)
  ·simp (disch:=first|assumption|omega) only[S0,rA,rQ,rB,rT,rE,aI,hlt,k1]
  cases k2:(atI reps (i:Int)).table.n==(reps.length:Int)
  ·simp (disch:=first|assumption|omega) only[S0,rA,rQ,rB,rT,rE,aI,hlt,k1,k2]
  cases z<;>simp (disch:=first|assumption|omega) only[S0,rA,rQ,rB,rT,rE,aI,Gal,hlt,k1,k2,hz]
 ·intro hlt
  simp (disch:=first|assumption|omega) only[S0,rA,rQ,rB,rT,rE,hlt]
theorem uD (reps:List nO)(bag:List nS)(asked:List bM)(h1:oQ reps)(h2:asked.length<=10000000000)(hn:oZ ⟨reps,bag,asked⟩=true):Fun T 58 [rL reps,rL bag,rL asked]=some [.bool (Ib8 ⟨reps,bag,asked⟩)]:=by
 rw[aO (t:=Qbw) rfl];unfold Qbw;unfold Ib8
 obtain⟨h4,h5⟩:=h1;have hg:=lV hn;have nj:=aV hg;simp only at hg nj;simp (disch:=first|assumption|omega) only[S0,rA,rQ,rB,rT,rE];rw[vV 1 reps.length (fun i=>(bI (atI reps (i:Int)).table.rows).all fun x=>Kab asked (atI reps (i:Int)).table x) [.bool false]]
 ·(refine aD ?_;repeat' (refine aC ?_ ?_<;>intro _<;>try simp (disch:=first|assumption|omega) only[S0,rA,rQ,rB,rT,rE, *]))
 ·intro i hi hlt
  have rv:InB reps (i:Int):=aH.2 hi;obtain⟨ht,hN,-⟩:=iI hn (i:=i) hi;obtain⟨kn,jr⟩:=h5 _ (at_mem hi);simp only at ht hN;generalize hR:atI reps (i:Int)=R at ht hN kn jr ⊢;have h6:∀ l∈R.table.rows,l.length<=6:=fun l hl=>(bZ ht hl).1
  have hl:=bX ht;have jb:R.table.rows.length<=100:=by omega
  have ir:(bI R.table.rows).length<=6*R.table.rows.length:=kG h6 (Acn _);have rS:=aX ht;simp (disch:=first|assumption|omega) only[S0,rA,rQ,rB,rT,rE,aI,gB,hlt,hR];rw[Sad 3 (bI R.table.rows) (fun x=>Kab asked R.table x) [.bool false]]
  ·(refine aD ?_;repeat' (refine aC ?_ ?_<;>intro _<;>try simp (disch:=first|assumption|omega) only[S0,rA,rQ,rB,rT,rE, *]))
  ·intro j hj te fm hm
   obtain⟨x0,x1,-,xi,-⟩:=dQ ht hm;have xr:=bG xi;have xb:=bR ht xi;unfold Kab;simp (disch:=first|assumption|omega) only[S0,rA,rQ,rB,rT,rE,aI,jB,fm];generalize hw:eT R.table (atI (atI (bI R.table.rows) (j:Int)) 0) (atI (atI (bI R.table.rows) (j:Int)) 1)=w;rw[(Kax 5 asked (fun i (s:Bool)=>[.bool s,i64 i]) (w.cmd.kind==0) (fun s a=>s||(a.rep==atI (atI (bI R.table.rows) (j:Int)) 0&&a.no==atI (atI (bI R.table.rows) (j:Int)) 1&&decide (a.cmd=w.cmd))) (fun _ _=>True) (fun s=>[.bool s]) rfl trivial ?_ ?_).1,Va8]
   ·cases k0:(w.cmd.kind==0||asked.any fun a=>a.rep==atI (atI (bI R.table.rows) (j:Int)) 0&&a.no==atI (atI (bI R.table.rows) (j:Int)) 1&&decide (a.cmd=w.cmd))<;>simp (disch:=first|assumption|omega) only[S0,rA,rQ,rB,rT,rE,k0]
   ·intro k s hk p7 fW _
    refine⟨?_,trivial⟩;cases s
    ·cases k1:(atI asked (k:Int)).rep==atI (atI (bI R.table.rows) (j:Int)) 0
     ·simp (disch:=first|assumption|omega) only[S0,rA,rQ,rB,rT,rE,aI,mI,fW,k1]
     cases k2:(atI asked (k:Int)).no==atI (atI (bI R.table.rows) (j:Int)) 1
     ·simp (disch:=first|assumption|omega) only[S0,rA,rQ,rB,rT,rE,aI,mI,fW,k1,k2]
     simp (disch:=first|assumption|omega) only[S0,rA,rQ,rB,rT,rE,aI,mI,fW,k1,k2]
    ·simp (disch:=first|assumption|omega) only[S0,rA,rQ,rB,rT,rE,aI,mI,fW]
   ·intro s fW _
    simp (disch:=first|assumption|omega) only[S0,rA,rQ,rB,rT,rE,fW]
  ·intro fm
   simp (disch:=first|assumption|omega) only[S0,rA,rQ,rB,rT,rE,fm]
 ·intro hlt
  simp (disch:=first|assumption|omega) only[S0,rA,rQ,rB,rT,rE,hlt]
theorem mU (reps:List nO)(bag:List nS)(asked:List bM)(h1:oQ reps)(h2:asked.length<=10000000000)(hn:oZ ⟨reps,bag,asked⟩=true):Fun T 136 [rL reps,rL bag,rL asked]=some [.bool (Ib8 ⟨reps,bag,asked⟩)]:=by
 rw[aO (t:=Ebu) rfl];unfold Ebu;unfold Ib8
 obtain⟨h4,h5⟩:=h1;have hg:=lV hn;have nj:=aV hg;have has:=Tam hn;simp only at hg nj has;simp (disch:=first|assumption|omega) only[S0,rA,rQ,rB,rT,rE];rw[vV 1 reps.length (fun i=>(bI (atI reps (i:Int)).table.rows).all fun x=>Kab asked (atI reps (i:Int)).table x) [.bool false]]
 ·(refine aD ?_;repeat' (refine aC ?_ ?_<;>intro _<;>try simp (disch:=first|assumption|omega) only[S0,rA,rQ,rB,rT,rE, *]))
 ·intro i hi hlt
  have rv:InB reps (i:Int):=aH.2 hi;obtain⟨ht,hN,-⟩:=iI hn (i:=i) hi;obtain⟨kn,jr⟩:=h5 _ (at_mem hi);simp only at ht hN;generalize hR:atI reps (i:Int)=R at ht hN kn jr ⊢;have h6:∀ l∈R.table.rows,l.length<=6:=fun l hl=>(bZ ht hl).1
  have hl:=bX ht;have jb:R.table.rows.length<=100:=by omega
  have ir:(bI R.table.rows).length<=6*R.table.rows.length:=kG h6 (Acn _);have rS:=aX ht;simp (disch:=first|assumption|omega) only[S0,rA,rQ,rB,rT,rE,aI,dU,hlt,hR];rw[Sad 3 (bI R.table.rows) (fun x=>Kab asked R.table x) [.bool false]]
  ·(refine aD ?_;repeat' (refine aC ?_ ?_<;>intro _<;>try simp (disch:=first|assumption|omega) only[S0,rA,rQ,rB,rT,rE, *]))
  ·intro j hj te fm hm
   obtain⟨x0,x1,-,xi,-⟩:=dQ ht hm;have xr:=bG xi;have xb:=bR ht xi;unfold Kab;rw[Kb4 has];have tj:asked.take asked.length=asked:=Bcm;generalize hx:ixF (fun a:bM=>a.rep==atI (atI (bI R.table.rows) (j:Int)) 0&&a.no==atI (atI (bI R.table.rows) (j:Int)) 1) asked=ix
   have hix:decide (ix<0)=false->InB asked ix:=fun h=>by
    have:=Kbg (fun a:bM=>a.rep==atI (atI (bI R.table.rows) (j:Int)) 0&&a.no==atI (atI (bI R.table.rows) (j:Int)) 1) asked;rw[hx]at this;simp only[decide_eq_false_iff_not]at h;unfold InB;omega
   cases k1:(eT R.table (atI (atI (bI R.table.rows) (j:Int)) 0) (atI (atI (bI R.table.rows) (j:Int)) 1)).cmd.kind==0
   ·cases k2:decide (ix<0)
    ·have j9:=hix k2
     cases k3:decide ((atI asked ix).cmd=(eT R.table (atI (atI (bI R.table.rows) (j:Int)) 0) (atI (atI (bI R.table.rows) (j:Int)) 1)).cmd)<;>simp (disch:=first|assumption|omega) only[S0,rA,rQ,rB,rT,rE,aI,mI,bH,mY,fm,tj,hx,k1,k2,k3]
    ·simp (disch:=first|assumption|omega) only[S0,rA,rQ,rB,rT,rE,aI,mI,bH,mY,fm,tj,hx,k1,k2]
   ·simp (disch:=first|assumption|omega) only[S0,rA,rQ,rB,rT,rE,aI,mI,bH,mY,fm,tj,hx,k1]
  ·intro fm
   simp (disch:=first|assumption|omega) only[S0,rA,rQ,rB,rT,rE,fm]
 ·intro hlt
  simp (disch:=first|assumption|omega) only[S0,rA,rQ,rB,rT,rE,hlt]
theorem nV (reps:List nO)(bag:List nS)(asked:List bM)(h1:oQ reps)(hn:oZ ⟨reps,bag,asked⟩=true):Fun T 52 [rL reps,rL bag,rL asked]=some [.bool (Ib9 ⟨reps,bag,asked⟩)]:=by
 rw[aO (t:=Qb2) rfl];unfold Qb2;unfold Ib9
 obtain⟨h4,h5⟩:=h1;have hg:=lV hn;have nj:=aV hg;simp only at hg nj;simp (disch:=first|assumption|omega) only[S0,rA,rQ,rB,rT,rE];rw[vV 1 reps.length (fun i=>(bI (atI reps (i:Int)).table.rows).all fun x=>(reps.take i).all fun b=>Oar (atI reps (i:Int)).table b.table x) [.bool false]]
 ·(refine aD ?_;repeat' (refine aC ?_ ?_<;>intro _<;>try simp (disch:=first|assumption|omega) only[S0,rA,rQ,rB,rT,rE, *]))
 ·intro i hi hlt
  have rv:InB reps (i:Int):=aH.2 hi;have hle:i<=reps.length:=by omega
  obtain⟨ht,hN,-⟩:=iI hn (i:=i) hi;obtain⟨kn,jr⟩:=h5 _ (at_mem hi);simp only at ht hN;rw[Ibb];generalize hR:atI reps (i:Int)=R at ht hN kn jr ⊢;have h6:∀ l∈R.table.rows,l.length<=6:=fun l hl=>(bZ ht hl).1
  have hl:=bX ht;have jb:R.table.rows.length<=100:=by omega
  have ir:(bI R.table.rows).length<=6*R.table.rows.length:=kG h6 (Acn _);have rS:=aX ht;have htl:(reps.take i).length<=1099511627776:=by rw[Ac1];omega
  simp (disch:=first|assumption|omega) only[S0,rA,rQ,rB,rT,rE,aI,tK,hlt,hR,Ac7,Ccb,Cch];rw[Sad 3 (reps.take i) (fun b=>(bI R.table.rows).all fun x=>Oar R.table b.table x) [.bool false]]
  ·(refine aD ?_;repeat' (refine aC ?_ ?_<;>intro _<;>try simp (disch:=first|assumption|omega) only[S0,rA,rQ,rB,rT,rE, *]))
  ·intro k hk p7 fW yz
   have pD:=Bc0 yz;obtain⟨ql,tn⟩:=h5 _ pD;obtain⟨k2,ob,ek⟩:=Ccl pD;obtain⟨kO,oy,-⟩:=iI hn (i:=k2) ob;simp only at kO oy;rw[bB ob,ek]at kO oy;generalize hU:atI (reps.take i) (k:Int)=U at kO oy ql tn ⊢;have hgu:=aX kO;simp (disch:=first|assumption|omega) only[S0,rA,rQ,rB,rT,rE,aI,gB,fW,hU];rw[Sad 5 (bI R.table.rows) (fun x=>Oar R.table U.table x) [.bool false]]
   ·(refine aD ?_;repeat' (refine aC ?_ ?_<;>intro _<;>try simp (disch:=first|assumption|omega) only[S0,rA,rQ,rB,rT,rE, *]))
   ·intro j hj te fm hm
    obtain⟨x0,x1,-,xi,-⟩:=dQ ht hm;have xr:=bG xi;have xb:=bR ht xi;have xi2:inst U.table.n (atI (atI (bI R.table.rows) (j:Int)) 0) (atI (atI (bI R.table.rows) (j:Int)) 1)=true:=by rw[oy,<- hN];exact xi
    have xb2:=bR kO xi2;have yd:=eH ht xi;have yd2:=eH kO xi2;unfold Oar;generalize hw:eT R.table (atI (atI (bI R.table.rows) (j:Int)) 0) (atI (atI (bI R.table.rows) (j:Int)) 1)=w at yd ⊢;generalize hv:eT U.table (atI (atI (bI R.table.rows) (j:Int)) 0) (atI (atI (bI R.table.rows) (j:Int)) 1)=v at yd2 ⊢;cases k1:v.state==3
    ·simp (disch:=first|assumption|omega) only[S0,rA,rQ,rB,rT,rE,aI,mI,jB,fm,hw,hv,k1]
    cases k2:decide (w.cmd=v.cmd)
    ·simp (disch:=first|assumption|omega) only[S0,rA,rQ,rB,rT,rE,aI,mI,jB,fm,hw,hv,k1,k2]
    cases k3:decide (w.attr=v.attr)
    ·simp (disch:=first|assumption|omega) only[S0,rA,rQ,rB,rT,rE,aI,mI,jB,jZ,fm,hw,hv,k1,k2,k3]
    simp (disch:=first|assumption|omega) only[S0,rA,rQ,rB,rT,rE,aI,mI,jB,jZ,fm,hw,hv,k1,k2,k3]
   ·intro fm
    simp (disch:=first|assumption|omega) only[S0,rA,rQ,rB,rT,rE,fm]
  ·intro fW
   simp (disch:=first|assumption|omega) only[S0,rA,rQ,rB,rT,rE,fW]
 ·intro hlt
  simp (disch:=first|assumption|omega) only[S0,rA,rQ,rB,rT,rE,hlt]
theorem mZ (reps:List nO)(bag:List nS)(asked:List bM)(h1:oQ reps)(hn:oZ ⟨reps,bag,asked⟩=true):Fun T 130 [rL reps,rL bag,rL asked]=some [.bool (Ib9 ⟨reps,bag,asked⟩)]:=by
 rw[aO (t:=Eb0) rfl];unfold Eb0;unfold Ib9
 obtain⟨h4,h5⟩:=h1;have hg:=lV hn;have nj:=aV hg;simp only at hg nj;simp (disch:=first|assumption|omega) only[S0,rA,rQ,rB,rT,rE];rw[vV 1 reps.length (fun i=>(bI (atI reps (i:Int)).table.rows).all fun x=>(reps.take i).all fun b=>Oar (atI reps (i:Int)).table b.table x) [.bool false]]
 ·(refine aD ?_;repeat' (refine aC ?_ ?_<;>intro _<;>try simp (disch:=first|assumption|omega) only[S0,rA,rQ,rB,rT,rE, *]))
 ·intro i hi hlt
  have rv:InB reps (i:Int):=aH.2 hi;have hle:i<=reps.length:=by omega
  obtain⟨ht,hN,-⟩:=iI hn (i:=i) hi;obtain⟨kn,jr⟩:=h5 _ (at_mem hi);simp only at ht hN;generalize hR:atI reps (i:Int)=R at ht hN kn jr ⊢;have h6:∀ l∈R.table.rows,l.length<=6:=fun l hl=>(bZ ht hl).1
  have hl:=bX ht;have jb:R.table.rows.length<=100:=by omega
  have ir:(bI R.table.rows).length<=6*R.table.rows.length:=kG h6 (Acn _);have rS:=aX ht;have htl:(reps.take i).length<=1099511627776:=by rw[Ac1];omega
  simp (disch:=first|assumption|omega) only[S0,rA,rQ,rB,rT,rE,aI,dU,hlt,hR];rw[Sad 3 (bI R.table.rows) (fun x=>(reps.take i).all fun b=>Oar R.table b.table x) [.bool false]]
  ·(refine aD ?_;repeat' (refine aC ?_ ?_<;>intro _<;>try simp (disch:=first|assumption|omega) only[S0,rA,rQ,rB,rT,rE, *]))
  ·intro j hj te fm hm
   obtain⟨x0,x1,-,xi,-⟩:=dQ ht hm;have xr:=bG xi;have xb:=bR ht xi;have yd:=eH ht xi;simp (disch:=first|assumption|omega) only[S0,rA,rQ,rB,rT,rE,aI,tK,bH,fm,Ac7,Ccb,Cch];rw[Sad 5 (reps.take i) (fun b=>Oar R.table b.table (atI (bI R.table.rows) (j:Int))) [.bool false]]
   ·(refine aD ?_;repeat' (refine aC ?_ ?_<;>intro _<;>try simp (disch:=first|assumption|omega) only[S0,rA,rQ,rB,rT,rE, *]))
   ·intro k hk p7 fW yz
    have pD:=Bc0 yz;obtain⟨ql,tn⟩:=h5 _ pD;obtain⟨k2,ob,ek⟩:=Ccl pD;obtain⟨kO,oy,-⟩:=iI hn (i:=k2) ob;simp only at kO oy;rw[bB ob,ek]at kO oy;generalize hU:atI (reps.take i) (k:Int)=U at kO oy ql tn ⊢;have hgu:=aX kO;have xi2:inst U.table.n (atI (atI (bI R.table.rows) (j:Int)) 0) (atI (atI (bI R.table.rows) (j:Int)) 1)=true:=by rw[oy,<- hN];exact xi
    have xb2:=bR kO xi2;have yd2:=eH kO xi2;unfold Oar;generalize hw:eT R.table (atI (atI (bI R.table.rows) (j:Int)) 0) (atI (atI (bI R.table.rows) (j:Int)) 1)=w at yd ⊢;generalize hv:eT U.table (atI (atI (bI R.table.rows) (j:Int)) 0) (atI (atI (bI R.table.rows) (j:Int)) 1)=v at yd2 ⊢;cases k1:v.state==3
    ·simp (disch:=first|assumption|omega) only[S0,rA,rQ,rB,rT,rE,aI,mI,bH,fW,hU,hw,hv,k1]
    cases k2:decide (w.cmd=v.cmd)
    ·simp (disch:=first|assumption|omega) only[S0,rA,rQ,rB,rT,rE,aI,mI,bH,fW,hU,hw,hv,k1,k2]
    cases k3:decide (w.attr=v.attr)
    ·simp (disch:=first|assumption|omega) only[S0,rA,rQ,rB,rT,rE,aI,mI,bH,eF,fW,hU,hw,hv,k1,k2,k3]
    simp (disch:=first|assumption|omega) only[S0,rA,rQ,rB,rT,rE,aI,mI,bH,eF,fW,hU,hw,hv,k1,k2,k3]
   ·intro fW
    simp (disch:=first|assumption|omega) only[S0,rA,rQ,rB,rT,rE,fW]
  ·intro fm
   simp (disch:=first|assumption|omega) only[S0,rA,rQ,rB,rT,rE,fm]
 ·intro hlt
  simp (disch:=first|assumption|omega) only[S0,rA,rQ,rB,rT,rE,hlt]
theorem Ca3 (n:Int)(hg:dF n=true):Fun T 138 [i64 n]=some [i64 n,rL (Acm n.toNat ([]:List bU))]:=by
 rw[aO (t:=Ebs) rfl];unfold Ebs
 have hn:=aV hg;simp (disch:=first|assumption|omega) only[S0,rA,rQ,rB,rT,rE,yF]
theorem oP (reps:List nO)(bag:List nS)(asked:List bM)(h1:oQ reps)(hn:oZ ⟨reps,bag,asked⟩=true):Fun T 59 [rL reps,rL bag,rL asked]=some [i64 (Sa7 ⟨reps,bag,asked⟩).n,rL (Sa7 ⟨reps,bag,asked⟩).rows]:=by
 rw[aO (t:=Qbv) rfl];unfold Qbv;unfold Sa7
 obtain⟨h4,h5⟩:=h1;have hg:=lV hn;have nj:=aV hg;simp only at hg nj;simp (disch:=first|assumption|omega) only[S0,rA,rQ,rB,rT,rE,Lag];rw[(Kax 1 reps (fun i (s:aL)=>[i64 i,i64 s.n,rL s.rows]) ⟨reps.length,Acm (reps.length:Int).toNat []⟩ (fun acc R=>Lbq R.table acc) (fun _ s=>Ya8 reps.length s) (fun s=>[i64 s.n,rL s.rows]) rfl (Wat (by omega)) ?_ ?_).1]
 ·simp (disch:=first|assumption|omega) only[S0,rA,rQ,rB,rT,rE]
 ·intro i s hi hb hlt hv
  obtain⟨ht,hN,-⟩:=iI hn (i:=i) hi;obtain⟨kn,jr⟩:=h5 _ (at_mem hi);simp only at ht hN;generalize hR:atI reps (i:Int)=R at ht hN kn jr ⊢;refine⟨?_,Vae ht hN (by omega) hv⟩;have h6:∀ l∈R.table.rows,l.length<=6:=fun l hl=>(bZ ht hl).1
  have hl:=bX ht;have jb:R.table.rows.length<=100:=by omega
  have ir:(bI R.table.rows).length<=6*R.table.rows.length:=kG h6 (Acn _);have rS:=aX ht;unfold Lbq;simp (disch:=first|assumption|omega) only[S0,rA,rQ,rB,rT,rE,aI,gB,hlt,hR];rw[(Kax 3 (bI R.table.rows) (fun j (s:aL)=>[i64 j,i64 s.n,rL s.rows]) s (Ibn R.table) (fun _ s=>Ya8 reps.length s) (fun s=>[i64 s.n,rL s.rows]) rfl hv ?_ ?_).1]
  ·simp (disch:=first|assumption|omega) only[S0,rA,rQ,rB,rT,rE]
  ·intro j s2 hj te fm qu
   have hm:=at_mem hj;obtain⟨x0,x1,-,xi,-⟩:=dQ ht hm;have xr:=bG xi;have xb:=bR ht xi;have yd:=eH ht xi;refine⟨?_,Nae ht hN (by omega) qu hm⟩;have hsm:=Cb2 qu (by omega);obtain⟨v1,v2,-⟩:=qu;have xb2:InB s2.rows (atI (atI (bI R.table.rows) (j:Int)) 0):=by unfold InB;omega
   have wk:dF s2.n=true:=by rw[v1];exact hg
   unfold Ibn setRow;simp (disch:=first|assumption|omega) only[S0,rA,rQ,rB,rT,rE,aI,jB,Xaf,fm]
  ·intro s2 fm qu
   simp (disch:=first|assumption|omega) only[S0,rA,rQ,rB,rT,rE,fm]
 ·intro s hlt hv
  simp (disch:=first|assumption|omega) only[S0,rA,rQ,rB,rT,rE,hlt]
theorem nL (reps:List nO)(bag:List nS)(asked:List bM)(h1:oQ reps)(hn:oZ ⟨reps,bag,asked⟩=true):Fun T 137 [rL reps,rL bag,rL asked]=some [i64 (Sa7 ⟨reps,bag,asked⟩).n,rL (Sa7 ⟨reps,bag,asked⟩).rows]:=by
 rw[aO (t:=Ebt) rfl];unfold Ebt;unfold Sa7
 obtain⟨h4,h5⟩:=h1;have hg:=lV hn;have nj:=aV hg;simp only at hg nj;simp (disch:=first|assumption|omega) only[S0,rA,rQ,rB,rT,rE,Ca3];rw[(Kax 1 reps (fun i (s:aL)=>[i64 i,i64 s.n,rL s.rows]) ⟨reps.length,Acm (reps.length:Int).toNat []⟩ (fun acc R=>Lbq R.table acc) (fun _ s=>Ya8 reps.length s) (fun s=>[i64 s.n,rL s.rows]) rfl (Wat (by omega)) ?_ ?_).1]
 ·simp (disch:=first|assumption|omega) only[S0,rA,rQ,rB,rT,rE]
 ·intro i s hi hb hlt hv
  obtain⟨ht,hN,-⟩:=iI hn (i:=i) hi;obtain⟨kn,jr⟩:=h5 _ (at_mem hi);simp only at ht hN;generalize hR:atI reps (i:Int)=R at ht hN kn jr ⊢;refine⟨?_,Vae ht hN (by omega) hv⟩;have h6:∀ l∈R.table.rows,l.length<=6:=fun l hl=>(bZ ht hl).1
  have hl:=bX ht;have jb:R.table.rows.length<=100:=by omega
  have ir:(bI R.table.rows).length<=6*R.table.rows.length:=kG h6 (Acn _);have rS:=aX ht;unfold Lbq;simp (disch:=first|assumption|omega) only[S0,rA,rQ,rB,rT,rE,aI,dU,hlt,hR];rw[(Kax 3 (bI R.table.rows) (fun j (s:aL)=>[i64 j,i64 s.n,rL s.rows]) s (Ibn R.table) (fun _ s=>Ya8 reps.length s) (fun s=>[i64 s.n,rL s.rows]) rfl hv ?_ ?_).1]
  ·simp (disch:=first|assumption|omega) only[S0,rA,rQ,rB,rT,rE]
  ·intro j s2 hj te fm qu
   have hm:=at_mem hj;obtain⟨x0,x1,-,xi,-⟩:=dQ ht hm;have xr:=bG xi;have xb:=bR ht xi;have yd:=eH ht xi;refine⟨?_,Nae ht hN (by omega) qu hm⟩;have hsm:=Cb2 qu (by omega);obtain⟨v1,v2,-⟩:=qu;have xb2:InB s2.rows (atI (atI (bI R.table.rows) (j:Int)) 0):=by unfold InB;omega
   have wk:dF s2.n=true:=by rw[v1];exact hg
   unfold Ibn setRow;simp (disch:=first|assumption|omega) only[S0,rA,rQ,rB,rT,rE,aI,bH,Aal,fm]
  ·intro s2 fm qu
   simp (disch:=first|assumption|omega) only[S0,rA,rQ,rB,rT,rE,fm]
 ·intro s hlt hv
  simp (disch:=first|assumption|omega) only[S0,rA,rQ,rB,rT,rE,hlt]
theorem Bax (l:List (List Int))(x:List Int)(hl:l.length<=1000)(h2:∀ y∈l,y.length=2)(hx:x.length=2):Fun T 73 [rL l,rL x]=some [rL (Kbj l x)]:=by
 rw[aO (t:=Qbh) rfl];unfold Qbh
 have x0:InB x 0:=by unfold InB;omega
 have x1:InB x 1:=by unfold InB;omega
 have hk:=Tav l x l.length;have qn:((qJ l x l.length:Nat):Int)<=l.length:=by omega
 simp (disch:=first|assumption|omega) only[S0,rA,rQ,rB,rT,rE];rw[Had (γ:=Nat) (.yield 1,[i64 ((qJ l x l.length:Nat):Int)]) (fun k=>k) (fun k=>k<=l.length/\qJ l x k=qJ l x l.length) (fun k=>[i64 (k:Int)]) l.length rfl ⟨Acn _,rfl⟩ (by simp)]
 ·have e0:(l.take (qJ l x l.length)).drop 0=l.take (qJ l x l.length):=rfl
  have e1:(l.take l.length).drop (qJ l x l.length)=l.drop (qJ l x l.length):=by rw[Bcm]
  have t1:(l.take (qJ l x l.length)).length<=1000:=by rw[Ac1];omega
  have t2:(l.drop (qJ l x l.length)).length<=1000:=by rw[Bcu];omega
  have t3:((l.take (qJ l x l.length))++[x]).length<=1001:=by rw[Ace];simp only[Aco,Acx];omega
  have a1:([]:List (List Int)).length+(l.drop (qJ l x l.length)).length<=100000000000:=by simp only[Acx];omega
  have a2:([]:List (List Int)).length+(l.take (qJ l x l.length)).length<=100000000000:=by simp only[Acx];omega
  have a3:(l.take (qJ l x l.length)).length+([x]:List (List Int)).length<=100000000000:=by simp only[Aco,Acx];omega
  have a4:((l.take (qJ l x l.length))++[x]).length+(l.drop (qJ l x l.length)).length<=100000000000:=by omega
  have h0:(aU.mk 1 0).run []=some [rL ([]:List (List Int))]:=rfl;have b1:(0:Int)<=((qJ l x l.length:Nat):Int):=by omega
  unfold Kbj;simp (disch:=first|assumption|omega) only[S0,rA,rQ,rB,rT,rE,oG,iA,tK,h0,e0,e1,Ac7,Ccb,Bco]
 ·intro k ⟨a5s,v8⟩
  cases k with
  | zero =>
   refine .inr ?_;have e:qJ l x l.length=0:=by rw[<- v8];rfl
   have y5:decide ((0:Int)<((0:Nat):Int))=false:=by decide
   rw[e];simp (disch:=first|assumption|omega) only[S0,rA,rQ,rB,rT,rE,aI,y5]
  | succ k =>
   have hb:InB l (k:Int):=aH.2 (by omega);have hy:=h2 _ (at_mem (show k<l.length by omega));have y0:InB (atI l (k:Int)) 0:=by unfold InB;omega
   have y1:InB (atI l (k:Int)) 1:=by unfold InB;omega
   have rS:decide (0<(k:Int)+1)=true:=decide_eq_true (by omega)
   have ph:(aU.bin .sub).run [i64 ((k:Int)+1),i64 1]=some [i64 (k:Int)]:=by
    have h:=Taa (a:=(k:Int)+1) (b:=1) (by omega) (by omega);rw[show (k:Int)+1-1=k by omega]at h;exact h
   cases hg:gtL (atI l (k:Int)) x
   ·refine .inr ?_
    have e:qJ l x l.length=k+1:=by rw[<- v8];unfold qJ;rw[hg];simp
    rw[e];have wk:=hg;unfold gtL at wk;cases c1:decide (atI x 0<atI (atI l (k:Int)) 0)<;>cases c2:(atI (atI l (k:Int)) 0==atI x 0)<;>cases c3:decide (atI x 1<atI (atI l (k:Int)) 1)<;>rw[c1,c2,c3]at wk<;>first|(cases wk;done)|skip
    all_goals simp (disch:=first|assumption|omega) only[S0,rA,rQ,rB,rT,rE,aI,rS,ph,c1,c2,c3]
   ·refine .inl ⟨k,?_,⟨by omega,by rw[<- v8];conv=>rhs;unfold qJ;rw[hg];simp⟩,by omega⟩
    have wk:=hg;unfold gtL at wk;cases c1:decide (atI x 0<atI (atI l (k:Int)) 0)<;>cases c2:(atI (atI l (k:Int)) 0==atI x 0)<;>cases c3:decide (atI x 1<atI (atI l (k:Int)) 1)<;>rw[c1,c2,c3]at wk<;>first|(cases wk;done)|skip
    all_goals simp (disch:=first|assumption|omega) only[S0,rA,rQ,rB,rT,rE,aI,rS,ph,c1,c2,c3]
theorem Bbc (q:Int)(deps:List Int)(hl:deps.length<=5)(h6:∀ d∈deps,0<=d/\d<=6):Fun T 153 [i64 q,rL deps]=some [rL (zU deps deps.length)]:=by
 rw[aO (t:=Ebd) rfl];unfold Ebd
 have h0:(aU.mk 1 0).run []=some [rL ([]:List (List Int))]:=rfl;simp (disch:=first|assumption|omega) only[S0,rA,rQ,rB,rT,rE,h0];rw[jQ deps.length (fun k=>[rL (zU deps k),i64 k]) (.yield 1,[rL (zU deps deps.length)]) rfl (by simp)]
 ·simp (disch:=first|assumption|omega) only[S0,rA,rQ,rB,rT,rE]
 ·intro k hk hlt
  have p7:InB deps (k:Int):=aH.2 hk;have hq:=h6 _ (at_mem hk);have y8:=Ia3 (deps:=deps) (fun d hd=>(h6 d hd).2) (m:=k) (by omega);simp (disch:=first|assumption|omega) only[S0,rA,rQ,rB,rT,rE,aI,hlt];rw[jQ (atI deps (k:Int)).toNat (fun i=>[rL (zU deps k++pQ k i),i64 ((i:Int)+1)]) (.yield 3,[rL (zU deps (k+1))]) (by show [rL (zU deps k),_]=_;simp[pQ,aM.val]) (by simp)]
  ·simp (disch:=first|assumption|omega) only[S0,rA,rQ,rB,rT,rE]
  ·intro i oz a8
   have hlc:=Ia2 (k:Int) i
   have k9:(zU deps k++pQ (k:Int) i).length+([[(k:Int),(i:Int)+1]]:List (List Int)).length<=100000000000:=by
    rw[Ace];simp only[Aco,Acx];omega
   have hle:decide ((i:Int)+1<=atI deps (k:Int))=true:=by simp;omega
   have e:=Qa8 (k:Int) i;simp (disch:=first|assumption|omega) only[S0,rA,rQ,rB,rT,rE,oG,iA,hle,e,<- Aci]
  ·intro a8
   have hle:decide ((((atI deps (k:Int)).toNat:Nat):Int)+1<=atI deps (k:Int))=false:=by simp;omega
   rw[Mae];simp (disch:=first|assumption|omega) only[S0,rA,rQ,rB,rT,rE,hle]
 ·intro hlt
  simp (disch:=first|assumption|omega) only[S0,rA,rQ,rB,rT,rE,hlt]
theorem wF (n:Int)(rows:List (List bU))(rep no:Int)(ht:bJ ⟨n,rows⟩=true)(hi:inst n rep no=true)(hc:zV ⟨n,rows⟩ [rep,no]=true)(hs:lQ rows):Fun T 70 [i64 n,rL rows,i64 rep,i64 no]=some [rL (vT ⟨n,rows⟩ [rep,no])]:=by
 rw[aO (t:=Qbk) rfl];unfold Qbk
 have hx:fE n [rep,no]:=⟨rfl,hi⟩;simp (disch:=first|assumption|omega) only[S0,rA,rQ,rB,rT,rE,oG];generalize hE:Er T (Tm.loop _ _) _=E
 obtain⟨r,h1,s,h2,h3⟩:∃ r,E=some r/\∃ s,Cb3 ⟨n,rows⟩ [rep,no] s.met.length s/\r=(.yield 1,[rL s.out]):=by
  rw[<- hE];refine Iao (γ:=Nat×SSt) (fun c=>31-c.1) (fun c=>Cb3 ⟨n,rows⟩ [rep,no] c.1 c.2) (fun c=>[rL c.2.met,rL c.2.out,i64 (c.1:Int)]) (fun r=>∃ s,Cb3 ⟨n,rows⟩ [rep,no] s.met.length s/\r=(.yield 1,[rL s.out])) (0,⟨[[rep,no]],[]⟩) ?_ (Cb3.start hc) ?_
  ·rfl
  rintro⟨i,s⟩ hinv
  dsimp only at hinv ⊢;have hlen:=hinv.toSPre.len ht hx
  rcases Acy i s.met.length with hlt|my
  ·refine .inl ⟨(i+1,Sbb ⟨n,rows⟩ s i),?_,hinv.step ht hx hlt,by dsimp only;omega⟩
   dsimp only;have hb:InB s.met (i:Int):=aH.2 hlt;have hd:decide ((i:Int)<s.met.length)=true:=by simp;omega
   obtain⟨sw,u7⟩:=hinv.rch _ (at_mem hlt);obtain⟨py,z6⟩:=sw.inst ht hx;have z0:InB (atI s.met (i:Int)) 0:=by unfold InB;omega
   have z1:InB (atI s.met (i:Int)) 1:=by unfold InB;omega
   have lR:∀ y∈Kaz ⟨n,rows⟩ (atI (atI s.met (i:Int)) 0) (atI (atI s.met (i:Int)) 1),Gab ⟨n,rows⟩ [rep,no] y:=fun y hy=>.step sw u7 ((Jaq py).1 hy).1
   have ym:(Kaz ⟨n,rows⟩ (atI (atI s.met (i:Int)) 0) (atI (atI s.met (i:Int)) 1)).length<=30:=by
    have hd6:=oH (lK ht z6) (aX ht);have qg:=eH ht z6;have hn:=aV (aX ht);simp only at qg hn;have:=Ga5 (rep:=atI (atI s.met (i:Int)) 0) (no:=atI (atI s.met (i:Int)) 1) (fun d hd=>(hd6 d hd).2) (Acn _);unfold Kaz;omega
   simp (disch:=first|assumption|omega) only[S0,rA,rQ,rB,rT,rE,aI,Hax,hd];unfold Sbb;generalize Kaz ⟨n,rows⟩ (atI (atI s.met (i:Int)) 0) (atI (atI s.met (i:Int)) 1)=ys at lR ym ⊢;rw[(Kax 3 ys (fun i (s:SSt)=>[rL s.met,rL s.out,rL ys,i64 i]) s (Ua8 ⟨n,rows⟩) (fun _ s=>SPre ⟨n,rows⟩ [rep,no] s) (fun s=>[rL s.met,rL s.out]) rfl hinv.toSPre ?_ ?_).1]
   ·simp (disch:=first|assumption|omega) only[S0,rA,rQ,rB,rT,rE]
   ·intro j u hj te a8 hu
    have hul:=hu.len ht hx;have tG:=lR _ (at_mem hj);obtain⟨xq,hyi⟩:=tG.inst ht hx;obtain⟨k2,-⟩:=Pau ht hx hu tG;refine⟨?_,k2⟩;have y0:InB (atI ys (j:Int)) 0:=by unfold InB;omega
    have y1:InB (atI ys (j:Int)) 1:=by unfold InB;omega
    have hg:dF n=true:=aX ht;have yb:InB rows (atI (atI ys (j:Int)) 0):=bR ht hyi;have yr:=bG hyi;have ho2:∀ y∈u.out,y.length=2:=fun y hy=>((hu.och y hy).1.inst ht hx).1
    have e1:u.met.any (fun z=>decide (atI ys (j:Int)=z))=decide (0<=iX u.met (atI ys (j:Int))):=(dJ _ _).symm;have e2:u.out.any (fun z=>decide (atI ys (j:Int)=z))=decide (0<=iX u.out (atI ys (j:Int))):=(dJ _ _).symm;have a1:u.met.length+([atI ys (j:Int)]:List (List Int)).length<=100000000000:=by simp only[Aco,Acx];omega
    have b1:u.met.length<=1099511627776:=by omega
    have b2:u.out.length<=1099511627776:=by omega
    have b3:(atI ys (j:Int)).length<=1099511627776:=by omega
    have b4:u.out.length<=1000:=by omega
    have hcd:((eT ⟨n,rows⟩ (atI (atI ys (j:Int)) 0) (atI (atI ys (j:Int)) 1)).state==3)=zV ⟨n,rows⟩ (atI ys (j:Int)):=rfl;unfold Ua8;rw[e1,e2];cases c1:decide (0<=iX u.met (atI ys (j:Int)))
    ·cases c2:decide (0<=iX u.out (atI ys (j:Int)))
     ·cases c3:zV ⟨n,rows⟩ (atI ys (j:Int))
      ·simp (disch:=first|assumption|omega) only[S0,rA,rQ,rB,rT,rE,aI,oG,iA,fM,jB,Bax,a8,c1,c2,hcd,c3,Dcl,Aca]
      ·simp (disch:=first|assumption|omega) only[S0,rA,rQ,rB,rT,rE,aI,oG,iA,fM,jB,Bax,a8,c1,c2,hcd,c3,Dcl,Aca]
     ·simp (disch:=first|assumption|omega) only[S0,rA,rQ,rB,rT,rE,aI,fM,a8,c1,c2,Dcx]
    ·simp (disch:=first|assumption|omega) only[S0,rA,rQ,rB,rT,rE,aI,fM,a8,c1,Bool.true_or]
   ·intro u a8 hu
    simp (disch:=first|assumption|omega) only[S0,rA,rQ,rB,rT,rE,a8]
  ·obtain rfl:i=s.met.length:=by have:=hinv.le;omega
   have hd:decide (((s.met.length:Nat):Int)<s.met.length)=false:=by simp
   exact .inr ⟨(.yield 1,[rL s.out]),by simp (disch:=first|assumption|omega) only[S0,rA,rQ,rB,rT,rE,hd],by simp,s,hinv,rfl⟩
 subst h3;rw[h1,<- h2.done ht hx];simp (disch:=first|assumption|omega) only[S0,rA,rQ,rB,rT,rE]
theorem Nac (l:List (List Int))(h2:∀ y∈l,y.length=2)(hl:l.length<=1000000):Fun T 158 [rL l]=some [rL ((lN id (l.map prL)).map toL)]:=by
 rw[Oau (e:=Ha5) rfl];exact Kb9 h2 hl
theorem Aa5 (n:Int)(rows:List (List bU))(x:List Int)(ht:bJ ⟨n,rows⟩=true)(hx:fE n x)(hc:zV ⟨n,rows⟩ x=true)(hs:lQ rows):Fun T 152 [i64 n,rL rows,rL x]=some [rL (vT ⟨n,rows⟩ x)]:=by
 rw[aO (t:=Ebe) rfl];unfold Ebe
 have h0:(aU.mk 1 0).run []=some [rL ([]:List (List Int))]:=rfl;simp (disch:=first|assumption|omega) only[S0,rA,rQ,rB,rT,rE,oG,h0];generalize hE:Er T (Tm.loop _ _) _=E
 obtain⟨r,h1,s,h2,h3,h4⟩:∃ r,E=some r/\∃ s,BInv ⟨n,rows⟩ x s/\s.wait=[]/\r=(.yield 1,[rL s.out]):=by
  rw[<- hE];refine Iao (γ:=BSt) (fun s=>31+s.wait.length-s.met.length) (fun s=>BInv ⟨n,rows⟩ x s/\s.wait.length<=s.met.length) (fun s=>[rL s.met,rL s.out,rL s.wait]) (fun r=>∃ s,BInv ⟨n,rows⟩ x s/\s.wait=[]/\r=(.yield 1,[rL s.out])) ⟨[x],[],[x]⟩ ?_ ⟨BInv.start hc,by simp⟩ ?_
  ·rfl
  rintro s ⟨hinv,hwl⟩
  have hlen:=hinv.toBPre.len ht hx;by_cases hw:s.wait=[]
  ·have hd:decide ((0:Int)<(s.wait.length:Nat))=false:=by rw[hw];rfl
   exact .inr ⟨(.yield 1,[rL s.out]),by simp (disch:=first|assumption|omega) only[S0,rA,rQ,rB,rT,rE,hd],by simp,s,hinv,hw,rfl⟩
  ·have jc:0<s.wait.length:=Dck.2 hw
   obtain⟨ba,yt⟩:=hinv.step hw;have hlen2:=ba.toBPre.len ht hx;refine .inl ⟨Lbs ⟨n,rows⟩ s,?_,⟨ba,by omega⟩,by omega⟩;have hd:decide ((0:Int)<(s.wait.length:Nat))=true:=decide_eq_true (by omega);have hb:InB s.wait 0:=by unfold InB;omega
   have hzw:atI s.wait 0∈s.wait:=fV hb;obtain⟨hzm,u7⟩:=hinv.wm _ hzw;have sw:=hinv.rch _ hzm;obtain⟨py,z6⟩:=sw.inst ht hx;have a6k:inst n (atI (atI s.wait 0) 0) (atI (atI s.wait 0) 1)=true:=z6;have z0:InB (atI s.wait 0) 0:=by unfold InB;omega
   have z1:InB (atI s.wait 0) 1:=by unfold InB;omega
   have hg:dF n=true:=aX ht;have zr:=bG a6k;have zb:InB rows (atI (atI s.wait 0) 0):=bR ht z6;have lR:∀ y∈vY ⟨n,rows⟩ (atI s.wait 0),Gab ⟨n,rows⟩ x y:=fun y hy=>.step sw u7 hy
   have ym:=Bbd ht (sw.inst ht hx);have hd6:=oH (lK ht z6) hg;have qg:=eH ht z6;have hn:=aV hg;simp only at qg hd6;have hdl5:(eT ⟨n,rows⟩ (atI (atI s.wait 0) 0) (atI (atI s.wait 0) 1)).attr.deps.length<=5:=by omega
   simp (disch:=first|assumption|omega) only[S0,rA,rQ,rB,rT,rE,aI,bH,Bbc,hd];unfold Lbs
   change _=some (Kind.cont,_)
   have eh:zU (eT ⟨n,rows⟩ (atI (atI s.wait 0) 0) (atI (atI s.wait 0) 1)).attr.deps (eT ⟨n,rows⟩ (atI (atI s.wait 0) 0) (atI (atI s.wait 0) 1)).attr.deps.length=vY ⟨n,rows⟩ (atI s.wait 0):=rfl;rw[eh];have eM:=Ja6 (ys:=vY ⟨n,rows⟩ (atI s.wait 0)) hinv.toBPre lR;generalize vY ⟨n,rows⟩ (atI s.wait 0)=ys at lR ym eM ⊢;simp (disch:=first|assumption|omega) only[S0,rA,rQ,rB,rT,rE];rw[(Kax 3 ys (fun i (s:BSt)=>[rL s.met,rL s.out,rL s.wait,rL ys,i64 i]) s (Ja5 ⟨n,rows⟩) (fun _ u=>BPre ⟨n,rows⟩ x u/\u.wait.length<=u.met.length) (fun s=>[rL s.met,rL s.out,rL s.wait]) rfl ⟨hinv.toBPre,hwl⟩ ?_ ?_).1]
   ·obtain⟨f1,-,-,⟨w',f4⟩,-⟩:=eM
    generalize ys.foldl (Ja5 ⟨n,rows⟩) s=u at f1 f4 ⊢;have e1:(u.wait.take u.wait.length).drop 1=u.wait.drop 1:=by rw[Bcm]
    have hp:1<=u.wait.length:=by rw[f4,Ace];omega
    have hp2:(1:Int)<=(u.wait.length:Nat):=by omega
    simp (disch:=first|assumption|omega) only[S0,rA,rQ,rB,rT,rE,tK,e1,Ac7,Int.toNat_one]
   ·rintro j u hj te a8 ⟨hu,huw⟩
    have hul:=hu.len ht hx;have tG:=lR _ (at_mem hj);obtain⟨xq,hyi⟩:=tG.inst ht hx;obtain⟨k2,-,-,-,-,k6⟩:=Sab hu tG;refine⟨?_,k2,by omega⟩;have y0:InB (atI ys (j:Int)) 0:=by unfold InB;omega
    have y1:InB (atI ys (j:Int)) 1:=by unfold InB;omega
    have yb:InB rows (atI (atI ys (j:Int)) 0):=bR ht hyi;have yr:=bG hyi;have a1:u.met.length+([atI ys (j:Int)]:List (List Int)).length<=100000000000:=by simp only[Aco,Acx];omega
    have a2:u.out.length+([atI ys (j:Int)]:List (List Int)).length<=100000000000:=by simp only[Aco,Acx];omega
    have a3:u.wait.length+([atI ys (j:Int)]:List (List Int)).length<=100000000000:=by simp only[Aco,Acx];omega
    have b1:u.met.length<=1099511627776:=by omega
    have b3:(atI ys (j:Int)).length<=1099511627776:=by omega
    have hcd:((eT ⟨n,rows⟩ (atI (atI ys (j:Int)) 0) (atI (atI ys (j:Int)) 1)).state==3)=zV ⟨n,rows⟩ (atI ys (j:Int)):=rfl;unfold Ja5;cases c1:u.met.any (fun z=>decide (atI ys (j:Int)=z))
    ·cases c3:zV ⟨n,rows⟩ (atI ys (j:Int))
     ·simp (disch:=first|assumption|omega) only[S0,rA,rQ,rB,rT,rE,aI,oG,iA,nK,bH,a8,c1,hcd,c3,Aca]
     ·simp (disch:=first|assumption|omega) only[S0,rA,rQ,rB,rT,rE,aI,oG,iA,nK,bH,a8,c1,hcd,c3,Aca]
    ·simp (disch:=first|assumption|omega) only[S0,rA,rQ,rB,rT,rE,aI,nK,a8,c1]
   ·intro u a8 hu
    simp (disch:=first|assumption|omega) only[S0,rA,rQ,rB,rT,rE,a8]
 subst h4;have sL:=h2.toBPre.len ht hx;have ho2:∀ y∈s.out,y.length=2:=fun y hy=>((h2.rch y ((h2.out y).1 hy).1).inst ht hx).1
 have hol2:s.out.length<=1000000:=by omega
 rw[h1,<- h2.done ht hx h3];simp (disch:=first|assumption|omega) only[S0,rA,rQ,rB,rT,rE,Nac]
theorem qX (x:List Int)(n:Int)(rows:List (List bU))(ht:bJ ⟨n,rows⟩=true)(hs:lQ rows)(hx:fE n x)(hc:zV ⟨n,rows⟩ x=true):Fun T 151 [rL x,i64 n,rL rows]=some [.bool (zX ⟨n,rows⟩ x)]:=by
 rw[aO (t:=Ebf) rfl];unfold Ebf
 simp (disch:=first|assumption|omega) only[S0,rA,rQ,rB,rT,rE,Aa5];rfl
theorem Xa4 (l:List (List Int))(n:Int)(rows:List (List bU))(ht:bJ ⟨n,rows⟩=true)(hs:lQ rows)(hl:l.length<=1000)(hx:∀ x∈l,fE n x/\zV ⟨n,rows⟩ x=true):Fun T 150 [rL l,i64 n,rL rows]=some [i64 (ixF (zX ⟨n,rows⟩) l)]:=by
 rw[aO (t:=Ebg) rfl];unfold Ebg
 simp (disch:=first|assumption|omega) only[S0,rA,rQ,rB,rT,rE];rw[xR 1 l (zX ⟨n,rows⟩) (fun i=>[i64 i])]
 ·cases h:l.any (zX ⟨n,rows⟩)
  ·have e:ixF (zX ⟨n,rows⟩) l=-1:=by
    have h2:=dJ (zX ⟨n,rows⟩) l;rw[h]at h2;unfold ixF at h2 ⊢;split at h2<;>simp_all
   rw[e];simp (disch:=first|assumption|omega) only[S0,rA,rQ,rB,rT,rE]
  ·simp (disch:=first|assumption|omega) only[S0,rA,rQ,rB,rT,rE]
 ·intro i hi hb hlt hp
  obtain⟨q1,q2⟩:=hx _ (at_mem hi);simp (disch:=first|assumption|omega) only[S0,rA,rQ,rB,rT,rE,aI,qX,hlt,hp]
 ·intro i hi hb hlt hp
  obtain⟨q1,q2⟩:=hx _ (at_mem hi);simp (disch:=first|assumption|omega) only[S0,rA,rQ,rB,rT,rE,aI,qX,hlt,hp]
 ·intro hlt
  simp (disch:=first|assumption|omega) only[S0,rA,rQ,rB,rT,rE,hlt]
theorem Ta8 (l:List (List Int))(n:Int)(rows:List (List bU))(ht:bJ ⟨n,rows⟩=true)(hs:lQ rows)(hl:l.length<=1000)(hx:∀ x∈l,fE n x/\zV ⟨n,rows⟩ x=true):Fun T 149 [rL l,i64 n,rL rows]=some [rL (l.filter fun x=>!zX ⟨n,rows⟩ x)]:=by
 rw[aO (t:=Ebh) rfl];unfold Ebh
 simp (disch:=first|assumption|omega) only[S0,rA,rQ,rB,rT,rE,Xa4];by_cases h:0<=ixF (zX ⟨n,rows⟩) l
 rotate_left
 ·have e:ixF (zX ⟨n,rows⟩) l=-1:=by
   unfold ixF at h ⊢;split
   ·rename_i i hi;rw[hi]at h;simp at h
   ·rfl
  have e2:l.filter (fun x=>!zX ⟨n,rows⟩ x)=l:=by
   rw[List.filter_eq_self];intro x hxm
   cases hb:zX ⟨n,rows⟩ x with
   |false=>rfl
   | true =>
    obtain⟨k,hk,rfl⟩:=Bct.1 hxm;exact absurd (Ab4 hk (by rw[bB hk];exact hb)) h
  rw[e,e2];simp (disch:=first|assumption|omega) only[S0,rA,rQ,rB,rT,rE]
 ·obtain⟨h1,h2,h3⟩:=Na3 h
  generalize hI:ixF (zX ⟨n,rows⟩) l=I at h h1 h2 h3 ⊢;obtain⟨i,rfl⟩:∃ i:Nat,I=(i:Int):=⟨I.toNat,by omega⟩;have lO:i<l.length:=aH.1 h1;have cJ:((i:Int)==-1)=false:=by simp
  have fR:(l.take (i+1)).filter (fun x=>!zX ⟨n,rows⟩ x)=l.take i:=by
   rw[<- take_at lO,Cce,Ccz (by rw[h2];simp),Ccw,Ac4,List.filter_eq_self];intro x hxm;obtain⟨k,hk,rfl⟩:=Bct.1 hxm;rw[Ac1]at hk;have h4:=h3 k (by omega);rw[bB (by omega)]at h4;rw[Dc4,h4];rfl
  simp (disch:=first|assumption|omega) only[S0,rA,rQ,rB,rT,rE,cJ];generalize hE:Er T (Tm.loop _ _) _=E
  obtain⟨r,e1,kept,J,e2,e3,e4⟩:∃ r,E=some r/\∃ (kept:List (List Int)) (J:List (List D)),kept=l.filter (fun x=>!zX ⟨n,rows⟩ x)/\kept.length+J.length=l.length/\r=(.yield 1,[pX kept J [],i64 ((kept.length:Nat):Int)]):=by
   rw[<- hE]
   refine Iao (γ:=Nat×List (List D)) (fun c=>l.length-c.1) (fun c=>i<c.1/\c.1<=l.length/\((l.take c.1).filter fun x=>!zX ⟨n,rows⟩ x).length+c.2.length=c.1/\0<c.2.length/\∀ r∈c.2,r.length=1)
    (fun c=>[pX ((l.take c.1).filter fun x=>!zX ⟨n,rows⟩ x) c.2 (l.drop c.1),i64 ((((l.take c.1).filter fun x=>!zX ⟨n,rows⟩ x).length:Nat):Int),i64 (c.1:Int)])
    (fun r=>∃ (kept:List (List Int)) (J:List (List D)),kept=l.filter (fun x=>!zX ⟨n,rows⟩ x)/\kept.length+J.length=l.length/\r=(.yield 1,[pX kept J [],i64 ((kept.length:Nat):Int)])) (i+1,[Enc.enc (atI l (i:Int))]) ?_ ?_ ?_
   ·dsimp only
    have e:rL l=pX (l.take i) [Enc.enc (atI l (i:Int))] (l.drop (i+1)):=by
     rw[Cbd l (i:=i) (by omega),Bcz lO,Ray,bB lO];rfl
    rw[fR,<- e];have hti:((l.take i).length:Int)=(i:Int):=by rw[Ac1];omega
    rw[hti];rfl
   ·dsimp only
    rw[fR,Ac1];refine⟨by omega,by omega,by simp only[Aco,Acx];omega,by simp,?_⟩;intro r hr;rw[Zb9]at hr;rw[hr];rfl
   ·rintro⟨j,J⟩ ⟨k1,k2,k3,k4,k5⟩
    dsimp only at k1 k2 k3 k4 k5 ⊢
    rcases Acy j l.length with hlt|my
    ·refine .inl ?_
     have hjm:=hx _ (at_mem hlt);have hjm1:=hjm.1;have hjm2:=hjm.2;have ht1:(l.take (j+1))=l.take j++[atI l (j:Int)]:=(take_at hlt).symm;have fS:l.drop j=atI l (j:Int)::l.drop (j+1):=by rw[Bcz hlt,bB hlt]
     have qn:(l.take j).filter (fun x=>!zX ⟨n,rows⟩ x)=(l.take j).filter (fun x=>!zX ⟨n,rows⟩ x):=rfl;generalize hK:(l.take j).filter (fun x=>!zX ⟨n,rows⟩ x)=K at k3 qn ⊢;have qg:(l.drop (j+1)).length+(j+1)=l.length:=by rw[Bcu];omega
     have q1:aU.len.run [pX K J (l.drop j)]=some [i64 (l.length:Int)]:=Oae (by rw[fS,Aco];omega);have q2:aU.inb.run [pX K J (l.drop j),i64 (j:Int)]=some []:=Oaf (by omega) (by rw[fS];simp only[Aco];omega);have q3:(aU.row 1 0 [false]).run [pX K J (l.drop j),i64 (j:Int)]=some [rL (atI l (j:Int))]:=by rw[fS];exact Waj (by omega)
     have q4:aU.inb.run [pX K J (l.drop j),i64 (K.length:Int)]=some []:=Oaf (by omega) (by rw[fS];simp only[Aco];omega);have q5:(aU.set 1 0 1).run [pX K J (l.drop j),i64 (j:Int),.hole]=some [pX K (J++[[.hole]]) (l.drop (j+1))]:=by rw[fS];exact Raz (by omega)
     have vh:decide ((j:Int)<(l.length:Nat))=true:=decide_eq_true (by omega)
     obtain⟨r0,J0,rfl⟩:∃ r0 J0,J=r0::J0:=by
      match J,k4 with
      |r0::J0,_=>exact⟨r0,J0,rfl⟩
     have q6:(aU.set 1 0 1).run [pX K (r0::J0++[[.hole]]) (l.drop (j+1)),i64 (K.length:Int),rL (atI l (j:Int))]=some [pX (K++[atI l (j:Int)]) (J0++[[.hole]]) (l.drop (j+1))]:=Hbf rfl (k5 r0 List.mem_cons_self);have q7:pX K (r0::J0) (l.drop j)=pX K (r0::J0++[Enc.enc (atI l (j:Int))]) (l.drop (j+1)):=by rw[fS,Ray]
     have k3':K.length+(J0.length+1)=j:=k3;have hkj:(K.length:Int)<=1000:=by omega
     cases hb:zX ⟨n,rows⟩ (atI l (j:Int))
     ·refine⟨(j+1,J0++[[.hole]]),?_,?_,by dsimp only;omega⟩
      ·dsimp only
       rw[ht1,Cce,hK,Dce (by rw[hb];rfl),Ccw];have hlen:(((K++[atI l (j:Int)]).length:Nat):Int)=(K.length:Int)+1:=by simp
       rw[hlen];simp (disch:=first|assumption|omega) only[S0,rA,rQ,rB,rT,rE,q1,q2,q3,q4,q5,q6,vh,qX,hb]
      ·dsimp only
       rw[ht1,Cce,hK,Dce (by rw[hb];rfl),Ccw];refine⟨by omega,by omega,?_,?_,?_⟩
       ·simp only[Ace,Aco,Acx];omega
       ·simp only[Ace,Aco,Acx];omega
       ·intro r hr
        rcases Acr.1 hr with hr|hr
        ·exact k5 r (List.mem_cons_of_mem _ hr)
        ·rw[Zb9]at hr
         rw[hr];rfl
     ·refine⟨(j+1,r0::J0++[Enc.enc (atI l (j:Int))]),?_,?_,by dsimp only;omega⟩
      ·dsimp only
       rw[ht1,Cce,hK,Ccz (by rw[hb];simp),Ccw,Ac4,<- q7];simp (disch:=first|assumption|omega) only[S0,rA,rQ,rB,rT,rE,q1,q2,q3,vh,qX,hb]
      ·dsimp only
       rw[ht1,Cce,hK,Ccz (by rw[hb];simp),Ccw,Ac4];refine⟨by omega,by omega,?_,?_,?_⟩
       ·simp only[Ace,Aco,Acx];omega
       ·simp only[Ace,Aco,Acx];omega
       ·intro r hr
        rcases Acr.1 hr with hr|hr
        ·exact k5 r hr
        ·rw[Zb9]at hr
         rw[hr];rfl
    ·obtain rfl:j=l.length:=by omega
     rw[Bcm]at k3;refine .inr ⟨(.yield 1,[pX (l.filter fun x=>!zX ⟨n,rows⟩ x) J [],i64 (((l.filter fun x=>!zX ⟨n,rows⟩ x).length:Nat):Int)]),?_,by simp,_,J,rfl,k3,rfl⟩;rw[Bcm,List.drop_length];have q1:aU.len.run [pX (l.filter fun x=>!zX ⟨n,rows⟩ x) J []]=some [i64 (l.length:Int)]:=Oae (by simp only[Acx];omega);have vh:decide (((l.length:Nat):Int)<(l.length:Nat))=false:=by simp
     simp (disch:=first|assumption|omega) only[S0,rA,rQ,rB,rT,rE,q1,vh]
  subst e4;rw[e1];have q1:aU.len.run [pX kept J []]=some [i64 (l.length:Int)]:=Oae (by simp only[Acx];omega);obtain⟨d,q2⟩:=Hbe (kept:=kept) (J:=J) (n:=(l.length:Int)) (k:=(kept.length:Int)) rfl (by omega);have q3:=Hbh (kept:=kept) (J:=J) (k:=(kept.length:Int)) rfl;have q4:=Hbg (kept:=kept) (J:=J.map fun r=>r.map fun _=>D.hole) (k:=(kept.length:Int)) rfl;simp (disch:=first|assumption|omega) only[S0,rA,rQ,rB,rT,rE,q1,q2,q3,q4];rw[e2]
theorem Gai (n:Int)(rows:List (List bU))(ht:bJ ⟨n,rows⟩=true)(hs:lQ rows):Fun T 148 [i64 n,rL rows]=some [rL (aJ ⟨n,rows⟩)]:=by
 rw[aO (t:=Ebi) rfl];unfold Ebi;unfold aJ
 have hn:=aV (aX ht);simp only at hn;have hl:(rows.length:Int)=n:=bX ht;have h6:∀ l∈rows,l.length<=6:=fun l hl=>(bZ ht hl).1
 have jb:rows.length<=100:=by omega
 have ir:=Ea2 ht;simp only at ir;have a73:(bI rows).length<=1000:=by omega
 have hci:∀ x∈bI rows,fE n x/\zV ⟨n,rows⟩ x=true:=fun x hx=>Dam ht hx
 simp (disch:=first|assumption|omega) only[S0,rA,rQ,rB,rT,rE,dU,Ta8]
theorem Pao (n:Int)(rows:List (List bU))(ht:bJ ⟨n,rows⟩=true)(hs:lQ rows):Fun T 69 [i64 n,rL rows]=some [rL (aJ ⟨n,rows⟩)]:=by
 rw[aO (t:=Qbl) rfl];unfold Qbl;unfold aJ
 have hn:=aV (aX ht);simp only at hn;have hl:(rows.length:Int)=n:=bX ht;have h6:∀ l∈rows,l.length<=6:=fun l hl=>(bZ ht hl).1
 have jb:rows.length<=100:=by omega
 have ir:=Ea2 ht;simp only at ir;simp (disch:=first|assumption|omega) only[S0,rA,rQ,rB,rT,rE,gB];rw[jQ (bI rows).length (fun k=>[rL (((bI rows).take k).filter fun x=>!zX ⟨n,rows⟩ x),rL (bI rows),i64 k]) (.yield 1,[rL ((bI rows).filter fun x=>!zX ⟨n,rows⟩ x)]) rfl (by simp)]
 ·simp (disch:=first|assumption|omega) only[S0,rA,rQ,rB,rT,rE]
 ·intro k hk hlt
  have hb:InB (bI rows) (k:Int):=aH.2 hk;obtain⟨x0,x1,lE,xi,-⟩:=dQ ht (at_mem hk);simp only at xi;have xc:=(Dam ht (at_mem hk)).2
  have ga:(((bI rows).take k).filter fun x=>!zX ⟨n,rows⟩ x).length<=30:=by
   have:=Ccd (fun x=>!zX ⟨n,rows⟩ x) ((bI rows).take k);rw[Ac1]at this;omega
  have e:[atI (atI (bI rows) (k:Int)) 0,atI (atI (bI rows) (k:Int)) 1]=atI (bI rows) (k:Int):=rM lE;have xc2:zV ⟨n,rows⟩ [atI (atI (bI rows) (k:Int)) 0,atI (atI (bI rows) (k:Int)) 1]=true:=by rw[e];exact xc
  have a1:(((bI rows).take k).filter fun x=>!zX ⟨n,rows⟩ x).length+([atI (bI rows) (k:Int)]:List (List Int)).length<=100000000000:=by simp only[Aco,Acx];omega
  rw[<- take_at hk,Cce]
  have eb:zX ⟨n,rows⟩ (atI (bI rows) (k:Int))=!(((vT ⟨n,rows⟩ (atI (bI rows) (k:Int))).length:Int)==0):=by
   unfold zX;generalize (vT ⟨n,rows⟩ (atI (bI rows) (k:Int))).length=L
   cases L with
   |zero=>rfl
   | succ L =>
    have e1:decide ((0:Int)<((L+1:Nat):Int))=true:=decide_eq_true (by omega);have e2:(((L+1:Nat):Int)==0)=false:=beq_false_of_ne (by omega);rw[e1,e2];rfl
  cases hc:(((vT ⟨n,rows⟩ (atI (bI rows) (k:Int))).length:Int)==0)
  ·rw[Ccz (by rw[eb,hc];simp),Ccw,Ac4]
   simp (disch:=first|assumption|omega) only[S0,rA,rQ,rB,rT,rE,aI,wF,hlt,e,hc,Aca]
  ·rw[Dce (by rw[eb,hc];simp),Ccw]
   simp (disch:=first|assumption|omega) only[S0,rA,rQ,rB,rT,rE,aI,oG,iA,wF,hlt,e,hc]
 ·intro hlt
  rw[Bcm];simp (disch:=first|assumption|omega) only[S0,rA,rQ,rB,rT,rE,hlt]
theorem Kah (G:List (List Int))(a:Int)(hg:GOk G)(ha:InB G a)(hl:G.length<=1000)(hr:∀ r∈G,r.length<=1000):Fun T 78 [rL G,i64 a]=some [rL (nG G a)]:=by
 rw[aO (t:=Qbc) rfl];unfold Qbc
 simp (disch:=first|assumption|omega) only[S0,rA,rQ,rB,rT,rE,oG];generalize hE:Er T (Tm.loop _ _) _=E
 obtain⟨r,h1,s,h2,h3⟩:∃ r,E=some r/\∃ s,Cb7 G a s.que.length s/\r=(.yield 1,[rL s.met]):=by
  rw[<- hE];refine Iao (γ:=Nat×HSt) (fun c=>G.length+1-c.1) (fun c=>Cb7 G a c.1 c.2) (fun c=>[rL c.2.met,rL c.2.que,i64 (c.1:Int)]) (fun r=>∃ s,Cb7 G a s.que.length s/\r=(.yield 1,[rL s.met])) (0,⟨[a],[a]⟩) ?_ (Cb7.start ha) ?_
  ·rfl
  rintro⟨i,s⟩ hinv
  dsimp only at hinv ⊢;have hlen:=hinv.toHPre.len hg
  rcases Acy i s.que.length with hlt|my
  ·refine .inl ⟨(i+1,(atI G (atI s.que (i:Int))).foldl hI s),?_,hinv.step hlt,by dsimp only;omega⟩
   dsimp only;have hb:InB s.que (i:Int):=aH.2 hlt;have hd:decide ((i:Int)<s.que.length)=true:=by simp;omega
   have sw:=hinv.rch _ (at_mem hlt);have hzb:=sw.inb hg ha;have lR:∀ c∈atI G (atI s.que (i:Int)),Rch G a c:=fun c hc=>.step sw hc
   have ym:=hr _ (fV hzb);simp (disch:=first|assumption|omega) only[S0,rA,rQ,rB,rT,rE,aI,hd];generalize atI G (atI s.que (i:Int))=ys at lR ym ⊢;rw[(Kax 3 ys (fun i (s:HSt)=>[rL s.met,rL s.que,i64 i]) s hI (fun _ u=>HPre G a u) (fun s=>[rL s.met,rL s.que]) rfl hinv.toHPre ?_ ?_).1]
   ·simp (disch:=first|assumption|omega) only[S0,rA,rQ,rB,rT,rE]
   ·intro j u hj te a8 hu
    have hul:=hu.len hg;have tG:=lR _ (at_mem hj);refine⟨?_,(Bbg hu tG).1⟩;have a1:u.que.length+([atI ys (j:Int)]:List Int).length<=100000000000:=by simp only[Aco,Acx];omega
    have b1:u.que.length<=1099511627776:=by omega
    have b2:u.met.length<=10000000000:=by omega
    unfold hI;cases c1:lG u.que (atI ys (j:Int))
    ·simp (disch:=first|assumption|omega) only[S0,rA,rQ,rB,rT,rE,aI,oG,iA,iF,Eab,a8,c1,Aca]
    ·simp (disch:=first|assumption|omega) only[S0,rA,rQ,rB,rT,rE,aI,iF,a8,c1]
   ·intro u a8 hu
    simp (disch:=first|assumption|omega) only[S0,rA,rQ,rB,rT,rE,a8]
  ·obtain rfl:i=s.que.length:=by have:=hinv.le;omega
   have hd:decide (((s.que.length:Nat):Int)<s.que.length)=false:=by simp
   exact .inr ⟨(.yield 1,[rL s.met]),by simp (disch:=first|assumption|omega) only[S0,rA,rQ,rB,rT,rE,hd],by simp,s,hinv,rfl⟩
 subst h3;rw[h1,<- h2.done hg];simp (disch:=first|assumption|omega) only[S0,rA,rQ,rB,rT,rE]
theorem Qa3 (G:List (List Int))(a:Int)(hg:GOk G)(ha:InB G a)(hl:G.length<=1000)(hr:∀ r∈G,r.length<=1000):Fun T 162 [rL G,i64 a]=some [rL (nG G a)]:=by
 rw[aO (t:=Db5) rfl];unfold Db5
 have pd:InB (Acm G.length false) a:=by unfold InB at ha ⊢;rw[Bcj];exact ha
 have e0:((G.length:Nat):Int).toNat=G.length:=Ac7 _;have h0:(aU.mk 1 0).run []=some [rL ([]:List Int)]:=rfl;simp (disch:=first|assumption|omega) only[S0,rA,rQ,rB,rT,rE,oG,Dau,e0];generalize hE:Er T (Tm.loop _ _) _=E
 obtain⟨r,h1,s,h2,h4,h3⟩:∃ r,E=some r/\∃ s,GInv G a s/\s.todo=[]/\r=(.yield 1,[rL s.marks]):=by
  rw[<- hE];refine Iao (γ:=GSt) (fun s=>s.left) (fun s=>GInv G a s) (fun s=>[rL s.marks,rL s.todo]) (fun r=>∃ s,GInv G a s/\s.todo=[]/\r=(.yield 1,[rL s.marks])) ⟨iM (Acm G.length false) a true,[a]⟩ ?_ (GInv.start ha) ?_
  ·rfl
  rintro s hinv
  have ru:=hinv.cnt;unfold GSt.left at ru;by_cases hw:s.todo=[]
  ·have hd:decide ((0:Int)<(s.todo.length:Nat))=false:=by rw[hw];rfl
   exact .inr ⟨(.yield 1,[rL s.marks]),by simp (disch:=first|assumption|omega) only[S0,rA,rQ,rB,rT,rE,hd],by simp,s,hinv,hw,rfl⟩
  ·have jc:0<s.todo.length:=Dck.2 hw
   obtain⟨ba,yt,cY⟩:=hinv.step hg hw;refine .inl ⟨gO G s,?_,ba,by omega⟩;have hd:decide ((0:Int)<(s.todo.length:Nat))=true:=decide_eq_true (by omega);have hb:InB s.todo 0:=by unfold InB;omega
   obtain⟨z1,z2⟩:=hinv.tm _ (fV hb);have zr:=hinv.rch _ z1 z2;have lR:∀ c∈atI G (atI s.todo 0),InB G c/\Rch G a c:=fun c hc=>⟨hg.out z1 hc,.step zr hc⟩
   have ym:=hr _ (fV z1);have eM:=(Taz hinv.toGPre lR).2.2.2.1;simp (disch:=first|assumption|omega) only[S0,rA,rQ,rB,rT,rE,aI,hd];unfold gO;generalize atI G (atI s.todo 0)=ys at lR ym cY eM ⊢;rw[(Kax 3 ys (fun i (s:GSt)=>[rL s.marks,rL s.todo,i64 i]) s gI (fun _ u=>GPre G a u) (fun s=>[rL s.marks,rL s.todo]) rfl hinv.toGPre ?_ ?_).1]
   ·generalize ys.foldl gI s=u at cY eM ⊢
    have hcu:=cY.cnt;unfold GSt.left at hcu;obtain⟨w,p8⟩:=eM;have e1:(u.todo.take u.todo.length).drop 1=u.todo.drop 1:=by rw[Bcm]
    have hp:1<=u.todo.length:=by rw[p8,Ace];omega
    have hp2:(1:Int)<=(u.todo.length:Nat):=by omega
    simp (disch:=first|assumption|omega) only[S0,rA,rQ,rB,rT,rE,tK,e1,Ac7,Int.toNat_one]
   ·intro j u hj te a8 hu
    have hcu:=hu.cnt;unfold GSt.left at hcu;have tG:=lR _ (at_mem hj);have yb:InB u.marks (atI ys (j:Int)):=by have:=tG.1;unfold InB at this ⊢;rw[hu.len];exact this
    refine⟨?_,(Bbn hu tG.1 tG.2).1⟩;have a1:u.todo.length+([atI ys (j:Int)]:List Int).length<=100000000000:=by simp only[Aco,Acx];omega
    unfold gI;cases c1:atI u.marks (atI ys (j:Int))
    ·simp (disch:=first|assumption|omega) only[S0,rA,rQ,rB,rT,rE,aI,Dau,oG,iA,a8,c1,Aca]
    ·simp (disch:=first|assumption|omega) only[S0,rA,rQ,rB,rT,rE,aI,Dau,a8,c1]
   ·intro u a8 hu
    simp (disch:=first|assumption|omega) only[S0,rA,rQ,rB,rT,rE,a8]
 subst h3;rw[h1];have tE:=h2.len;have hm3:s.marks.length<=1099511627776:=by omega
 simp (disch:=first|assumption|omega) only[S0,rA,rQ,rB,rT,rE,Dau,h0];rw[jQ s.marks.length (fun k=>[rL ((nums k).filter (Gae G a)),i64 k]) (.yield 5,[rL (nG G a)]) rfl (by simp)]
 ·simp (disch:=first|assumption|omega) only[S0,rA,rQ,rB,rT,rE]
 ·intro k hk hlt
  have hb:InB s.marks (k:Int):=aH.2 hk;have ny:InB G (k:Int):=aH.2 (by omega);have hm:=h2.done hg h4 ny
  have ga:((nums k).filter (Gae G a)).length<=k:=by
   have:=Ccd (Gae G a) (nums k);rw[dP]at this;exact this
  have a1:((nums k).filter (Gae G a)).length+([(k:Int)]:List Int).length<=100000000000:=by simp only[Aco,Acx];omega
  rw[wX,Cce];cases c1:Gae G a (k:Int)
  ·rw[Ccz (by rw[c1];simp),Ccw,Ac4]
   simp (disch:=first|assumption|omega) only[S0,rA,rQ,rB,rT,rE,Dau,hlt,hm,c1,Aca]
  ·rw[Dce c1,Ccw]
   simp (disch:=first|assumption|omega) only[S0,rA,rQ,rB,rT,rE,Dau,oG,iA,hlt,hm,c1]
 ·intro hlt
  unfold nG;rw[tE]at hlt ⊢;simp (disch:=first|assumption|omega) only[S0,rA,rQ,rB,rT,rE,hlt]
theorem Ma9 (G:List (List Int))(hg:GOk G)(hl:G.length<=1000)(hr:∀ r∈G,r.length<=1000):Fun T 77 [rL G]=some [rL (kL G)]:=by
 rw[aO (t:=Qbd) rfl];unfold Qbd
 simp (disch:=first|assumption|omega) only[S0,rA,rQ,rB,rT,rE,Lbb];rw[jQ G.length (fun k=>[rL ((nums k).map (nG G)),i64 k]) (.yield 1,[rL (rsM G)]) rfl (by simp)]
 ·simp (disch:=first|assumption|omega) only[S0,rA,rQ,rB,rT,rE]
  rw[jQ G.length (fun k=>[rL (Hbs G k),i64 k]) (.yield 3,[rL (kL G)]) rfl (by simp)]
  ·simp (disch:=first|assumption|omega) only[S0,rA,rQ,rB,rT,rE]
  ·intro k hk hlt
   have hb:InB G (k:Int):=aH.2 hk;have gx:=Ha9 hb;have je:=Pa6 hb;have se:=yX G (k:Int);have ir:=Wan G k;simp (disch:=first|assumption|omega) only[S0,rA,rQ,rB,rT,rE,aI,hlt,je];rw[jQ (nG G (k:Int)).length (fun m=>[rL (((nG G (k:Int)).take m).filter fun j=>Gae G j (k:Int)),i64 m]) (.yield 5,[rL (Aan G (k:Int))]) rfl (by simp)]
   ·have hs:=xN hg hb
    have hgp:=Dch hs;have hgb:InB (Aan G (k:Int)) 0:=by unfold InB;omega
    have a1:(Hbs G k).length+([Aan G (k:Int)]:List (List Int)).length<=100000000000:=by simp only[Aco,Acx];omega
    rw[Ra6];cases c1:(atI (Aan G (k:Int)) 0==(k:Int))
    ·simp (disch:=first|assumption|omega) only[S0,rA,rQ,rB,rT,rE,aI,c1,Aca,Ac4]
    ·simp (disch:=first|assumption|omega) only[S0,rA,rQ,rB,rT,rE,aI,oG,iA,c1]
   ·intro m hm a8
    have hbm:InB (nG G (k:Int)) (m:Int):=aH.2 hm;have hj:=Nak (at_mem hm);have ua:=Ha9 hj;have ub:=Pa6 hj;have k7:=yX G (atI (nG G (k:Int)) (m:Int));have tS:=Tax hg (j:=(k:Int)) hj
    have ga:(((nG G (k:Int)).take m).filter fun j=>Gae G j (k:Int)).length<=m:=by
     have:=Ccd (fun j=>Gae G j (k:Int)) ((nG G (k:Int)).take m);rw[Ac1]at this;omega
    have a1:(((nG G (k:Int)).take m).filter fun j=>Gae G j (k:Int)).length+([atI (nG G (k:Int)) (m:Int)]:List Int).length<=100000000000:=by simp only[Aco,Acx];omega
    have b1:(nG G (atI (nG G (k:Int)) (m:Int))).length<=1099511627776:=by omega
    rw[Gbz hm];cases c1:Gae G (atI (nG G (k:Int)) (m:Int)) (k:Int)
    ·simp (disch:=first|assumption|omega) only[S0,rA,rQ,rB,rT,rE,aI,iF,a8,ub,tS,c1,Aca,Ac4]
    ·simp (disch:=first|assumption|omega) only[S0,rA,rQ,rB,rT,rE,aI,oG,iA,iF,a8,ub,tS,c1]
   ·intro a8
    rw[Bcm];simp (disch:=first|assumption|omega) only[S0,rA,rQ,rB,rT,rE,a8];rfl
  ·intro hlt
   simp (disch:=first|assumption|omega) only[S0,rA,rQ,rB,rT,rE,hlt];rfl
 ·intro k hk hlt
  have hb:InB G (k:Int):=aH.2 hk;have jb:((nums k).map (nG G)).length+([nG G (k:Int)]:List (List Int)).length<=100000000000:=by simp only[Acp,dP,Aco,Acx];omega
  have e:(nums (k+1)).map (nG G)=(nums k).map (nG G)++[nG G (k:Int)]:=by rw[wX,Cca];rfl
  rw[e];simp (disch:=first|assumption|omega) only[S0,rA,rQ,rB,rT,rE,oG,iA,Kah,hlt]
 ·intro hlt
  simp (disch:=first|assumption|omega) only[S0,rA,rQ,rB,rT,rE,hlt];rfl
theorem pM (G:List (List Int))(out:List (List Int))(C:List Int)(x:Int)(hx:InB G x)(hC:C.length<=1000):Fun T 167 [i64 x,rL (tC G.length out),rL C]=some [.bool (!nE out x&&!lG C x)]:=by
 rw[aO (t:=Db0) rfl];unfold Db0
 have hb:InB (tC G.length out) x:=by unfold InB at hx ⊢;rw[Ras];exact hx
 have je:atI (tC G.length out) x=nE out x:=Abf hx;cases c1:nE out x<;>cases c2:lG C x<;>simp (disch:=first|assumption|omega) only[S0,rA,rQ,rB,rT,rE,Dau,slices_Contains_int,je,c1,c2]
theorem Ean (G:List (List Int))(out:List (List Int))(C xs:List Int)(nn:xs.length<=1000)(hx:∀ x∈xs,InB G x)(hC:C.length<=1000):Fun T 166 [rL xs,rL (tC G.length out),rL C]=some [i64 (ixF (fun x=>!nE out x&&!lG C x) xs)]:=by
 rw[aO (t:=Db1) rfl];unfold Db1
 simp (disch:=first|assumption|omega) only[S0,rA,rQ,rB,rT,rE];rw[xR 1 xs (fun x=>!nE out x&&!lG C x) (fun i=>[i64 i])]
 ·cases h:xs.any (fun x=>!nE out x&&!lG C x)
  ·have e:ixF (fun x=>!nE out x&&!lG C x) xs=-1:=by
    have h2:=dJ (fun x=>!nE out x&&!lG C x) xs;rw[h]at h2;unfold ixF at h2 ⊢;split at h2<;>simp_all
   rw[e];simp (disch:=first|assumption|omega) only[S0,rA,rQ,rB,rT,rE]
  ·simp (disch:=first|assumption|omega) only[S0,rA,rQ,rB,rT,rE]
 ·intro i hi hb hlt hp
  have q1:=hx _ (at_mem hi);simp (disch:=first|assumption|omega) only[S0,rA,rQ,rB,rT,rE,aI,pM,hlt,hp]
 ·intro i hi hb hlt hp
  have q1:=hx _ (at_mem hi);simp (disch:=first|assumption|omega) only[S0,rA,rQ,rB,rT,rE,aI,pM,hlt,hp]
 ·intro hlt
  simp (disch:=first|assumption|omega) only[S0,rA,rQ,rB,rT,rE,hlt]
theorem Eaw (G:List (List Int))(out:List (List Int))(C xs:List Int)(nn:xs.length<=1000)(hx:∀ x∈xs,InB G x)(hC:C.length<=1000):Fun T 165 [rL xs,rL (tC G.length out),rL C]=some [.bool (xs.any fun x=>!nE out x&&!lG C x)]:=by
 rw[aO (t:=Db2) rfl];unfold Db2
 simp (disch:=first|assumption|omega) only[S0,rA,rQ,rB,rT,rE,Ean,dJ]
theorem sS (G:List (List Int))(out:List (List Int))(C:List Int)(hl:G.length<=1000)(hC:C.length<=1000)(sj:InB C 0)(hG:InB G (atI C 0)):Fun T 164 [rL C,rL (rsM G),rL (tC G.length out)]=some [.bool (sV G out C)]:=by
 rw[aO (t:=Db3) rfl];unfold Db3;unfold sV
 have gx:=Ha9 hG;have je:=Pa6 hG;have se:=yX G (atI C 0);have j9:∀ x∈nG G (atI C 0),InB G x:=fun x hx=>Nak hx
 have e:((nG G (atI C 0)).all fun j=>nE out j||lG C j)=!((nG G (atI C 0)).any fun x=>!nE out x&&!lG C x):=by
  rw[List.not_any_eq_all_not];congr 1;funext x;cases nE out x<;>cases lG C x<;>rfl
 rw[e];simp (disch:=first|assumption|omega) only[S0,rA,rQ,rB,rT,rE,aI,Eaw,je]
theorem Iav (G:List (List Int))(out xs:List (List Int))(hl:G.length<=1000)(nn:xs.length<=1000)(hx:∀ C∈xs,C.length<=1000/\InB C 0/\InB G (atI C 0)):Fun T 163 [rL xs,rL (rsM G),rL (tC G.length out)]=some [i64 (ixF (sV G out) xs)]:=by
 rw[aO (t:=Db4) rfl];unfold Db4
 simp (disch:=first|assumption|omega) only[S0,rA,rQ,rB,rT,rE];rw[xR 1 xs (sV G out) (fun i=>[i64 i])]
 ·cases h:xs.any (sV G out)
  ·have e:ixF (sV G out) xs=-1:=by
    have h2:=dJ (sV G out) xs;rw[h]at h2;unfold ixF at h2 ⊢;split at h2<;>simp_all
   rw[e];simp (disch:=first|assumption|omega) only[S0,rA,rQ,rB,rT,rE]
  ·simp (disch:=first|assumption|omega) only[S0,rA,rQ,rB,rT,rE]
 ·intro i hi hb hlt hp
  obtain⟨q1,q2,q3⟩:=hx _ (at_mem hi);simp (disch:=first|assumption|omega) only[S0,rA,rQ,rB,rT,rE,aI,sS,hlt,hp]
 ·intro i hi hb hlt hp
  obtain⟨q1,q2,q3⟩:=hx _ (at_mem hi);simp (disch:=first|assumption|omega) only[S0,rA,rQ,rB,rT,rE,aI,sS,hlt,hp]
 ·intro hlt
  simp (disch:=first|assumption|omega) only[S0,rA,rQ,rB,rT,rE,hlt]
theorem Eaa (G:List (List Int))(hg:GOk G)(hl:G.length<=1000)(hr:∀ r∈G,r.length<=1000):Fun T 76 [rL G]=some [rL (bW G)]:=by
 rw[aO (t:=Qbe) rfl];unfold Qbe
 have h0:(D.rows 1 [])=rL ([]:List (List Int)):=rfl;simp (disch:=first|assumption|omega) only[S0,rA,rQ,rB,rT,rE,Ma9];generalize hE:Er T (Tm.loop _ _) _=E
 obtain⟨r,h1,h3⟩:∃ r,E=some r/\r=(.yield 1,[rL (bW G)]):=by
  rw[<- hE];refine Iao (γ:=CSt) (fun s=>s.rest.length) (fun s=>Kae G s/\cM G s.rest.length s=bW G) (fun s=>[rL s.rest,rL s.out]) (fun r=>r=(.yield 1,[rL (bW G)])) ⟨kL G,[]⟩ ?_ ⟨Kae.start G,rfl⟩ ?_
  ·rfl
  rintro s ⟨hinv,eM⟩
  have hlen:=hinv.len;by_cases hw:s.rest=[]
  ·have hd:decide ((0:Int)<(s.rest.length:Nat))=false:=by rw[hw];rfl
   refine .inr ⟨(.yield 1,[rL s.out]),by simp (disch:=first|assumption|omega) only[S0,rA,rQ,rB,rT,rE,hd],by simp,?_⟩;rw[hw]at eM;rw[<- eM];rfl
  ·have jc:0<s.rest.length:=Dck.2 hw
   obtain⟨ba,yt⟩:=hinv.step hg hw;obtain⟨t1,t2,t3,t4⟩:=hinv.top hg hw
   have tv:cM G (cO G s).rest.length (cO G s)=bW G:=by
    rw[<- eM,<- yt];rfl
   refine .inl ⟨cO G s,?_,⟨ba,tv⟩,by omega⟩;have hd:decide ((0:Int)<(s.rest.length:Nat))=true:=decide_eq_true (by omega);simp (disch:=first|assumption|omega) only[S0,rA,rQ,rB,rT,rE,hd];rw[Had (γ:=Nat) (.yield 3,[rL (cO G s).rest,rL (cO G s).out]) (fun i=>Hal G s-i) (fun i=>i<=Hal G s) (fun i=>[i64 (i:Int)]) 0 rfl (Ccc _) (by simp)]
   ·simp (disch:=first|assumption|omega) only[S0,rA,rQ,rB,rT,rE]
   ·intro i hi
    have lO:i<s.rest.length:=by omega
    have hb:InB s.rest (i:Int):=aH.2 lO;have pC:decide ((i:Int)<(s.rest.length:Nat))=true:=decide_eq_true (by omega);obtain⟨g1,g2,g3,g4,g5⟩:=hinv.grp hg (at_mem lO);simp (disch:=first|assumption|omega) only[S0,rA,rQ,rB,rT,rE,aI,pC];rw[jQ (atI s.rest (i:Int)).length (fun m=>[.bool (Jac G s.rest i m),i64 m]) (.yield 5,[.bool (sV G s.out (atI s.rest (i:Int)))]) (by rw[Yac];rfl) (by simp)]
    ·cases hf:sV G s.out (atI s.rest (i:Int))
     ·refine .inl ⟨i+1,?_,?_,?_⟩
      ·simp (disch:=first|assumption|omega) only[S0,rA,rQ,rB,rT,rE,Aca]
      ·rcases Acy i (Hal G s) with h|h
       ·omega
       ·obtain rfl:i=Hal G s:=by omega
        rw[hf]at t3;cases t3
      ·rcases Acy i (Hal G s) with h|h
       ·omega
       ·obtain rfl:i=Hal G s:=by omega
        rw[hf]at t3;cases t3
     ·refine .inr ?_
      have e:i=Hal G s:=by
       rcases Acy i (Hal G s) with h|h
       ·rw[t4 i h]at hf;cases hf
       ·omega
      unfold cO;rw[<- e];have e1:(s.rest.take ((i:Int)).toNat).drop (0:Int).toNat=s.rest.take i:=rfl
      have e2:(s.rest.take ((s.rest.length:Nat):Int).toNat).drop (((i:Int)+1)).toNat=s.rest.drop (i+1):=by
       rw[Ac7,Bcm];rfl
      have a1:s.out.length+([atI s.rest (i:Int)]:List (List Int)).length<=100000000000:=by simp only[Aco,Acx];omega
      have a2:([]:List (List Int)).length+(s.rest.take i).length<=100000000000:=by simp only[Acx,Ac1];omega
      have a3:(s.rest.take i).length+(s.rest.drop (i+1)).length<=100000000000:=by simp only[Ac1,Bcu];omega
      have h0:(aU.mk 1 0).run []=some [rL ([]:List (List Int))]:=rfl;simp (disch:=first|assumption|omega) only[S0,rA,rQ,rB,rT,rE,oG,iA,tK,h0,e1,e2,Bco]
    ·intro m hm a8
     have hbm:InB (atI s.rest (i:Int)) (m:Int):=aH.2 hm;have hjG:=g3 _ (at_mem hm);have k7:=hr _ (fV hjG);rw[Yad hm];simp (disch:=first|assumption|omega) only[S0,rA,rQ,rB,rT,rE,aI,a8];generalize atI (atI s.rest (i:Int)) (m:Int)=j at hjG k7 ⊢;rw[jQ s.rest.length (fun k=>[.bool (Jac G s.rest i m&&Kaw G s.rest i j k),i64 k]) (.yield 7,[.bool (Jac G s.rest i m&&Kaw G s.rest i j s.rest.length)]) (by rw[Yae,Cc3];rfl) (by simp)]
     ·simp (disch:=first|assumption|omega) only[S0,rA,rQ,rB,rT,rE]
     ·intro k hk sd
      have p7:InB s.rest (k:Int):=aH.2 hk;obtain⟨k1,k2,k3,k4,k5⟩:=hinv.grp hg (at_mem hk);rw[Yaf,<- Cc8];generalize (Jac G s.rest i m&&Kaw G s.rest i j k)=b0;simp (disch:=first|assumption|omega) only[S0,rA,rQ,rB,rT,rE,aI,sd];rw[jQ (atI s.rest (k:Int)).length (fun q=>[.bool (b0&&Jad G s.rest i j k q),i64 q]) (.yield 9,[.bool (b0&&Jad G s.rest i j k (atI s.rest (k:Int)).length)]) (by rw[Yag,Cc3];rfl) (by simp)]
      ·simp (disch:=first|assumption|omega) only[S0,rA,rQ,rB,rT,rE]
      ·intro q hq z8
       have hbq:InB (atI s.rest (k:Int)) (q:Int):=aH.2 hq;rw[Yah hq,<- Cc8]
       have ek:((k:Int)==(i:Int))=(k==i):=by
        rw[Ccs,beq_iff_eq,beq_iff_eq];omega
       generalize (b0&&Jad G s.rest i j k q)=b1;have jl2:(atI G j).length<=1099511627776:=by omega
       cases b1<;>cases c2:(k==i)<;>cases c3:lG (atI G j) (atI (atI s.rest (k:Int)) (q:Int))<;>simp (disch:=first|assumption|omega) only[S0,rA,rQ,rB,rT,rE,aI,iF,z8,ek,c2,c3]<;>rfl
      ·intro z8
       simp (disch:=first|assumption|omega) only[S0,rA,rQ,rB,rT,rE,z8]
     ·intro sd
      simp (disch:=first|assumption|omega) only[S0,rA,rQ,rB,rT,rE,sd]
    ·intro a8
     rw[Bbp,Gbx hg hinv lO];simp (disch:=first|assumption|omega) only[S0,rA,rQ,rB,rT,rE,a8]
 subst h3;rw[h1];simp (disch:=first|assumption|omega) only[S0,rA,rQ,rB,rT,rE]
theorem Hbc (xs:List (List Int))(i:Nat)(h:i<xs.length)(hl:xs.length<=1000000):Fun T 168 [Xa9 xs (i:Int),i64 (i:Int),i64 ((i:Int)+1)]=some [rL (xs.take i++xs.drop (i+1))]:=by
 rw[Oau (e:=Kbv 1) rfl];exact Cbc h hl
theorem Ia1 (G:List (List Int))(hg:GOk G)(hl:G.length<=1000)(hr:∀ r∈G,r.length<=1000):Fun T 161 [rL G]=some [rL (bW G)]:=by
 rw[aO (t:=Db6) rfl];unfold Db6
 have h0:(aU.mk 1 0).run []=some [rL ([]:List (List Int))]:=rfl;have h0':rL ([]:List (List Int))=rL ([]:List Int):=rfl;have e0:((G.length:Nat):Int).toNat=G.length:=Ac7 _;simp (disch:=first|assumption|omega) only[S0,rA,rQ,rB,rT,rE,h0];rw[jQ G.length (fun k=>[i64 k,rL ((nums k).map (nG G))]) (.yield 1,[rL (rsM G)]) rfl (by simp)]
 rotate_left
 ·intro k hk hlt
  have hb:InB G (k:Int):=aH.2 hk;have jb:((nums k).map (nG G)).length+([nG G (k:Int)]:List (List Int)).length<=100000000000:=by simp only[Acp,dP,Aco,Acx];omega
  have e:(nums (k+1)).map (nG G)=(nums k).map (nG G)++[nG G (k:Int)]:=by rw[wX,Cca];rfl
  rw[e];simp (disch:=first|assumption|omega) only[S0,rA,rQ,rB,rT,rE,oG,iA,Qa3,hlt]
 ·intro hlt
  simp (disch:=first|assumption|omega) only[S0,rA,rQ,rB,rT,rE,hlt];rfl
 simp (disch:=first|assumption|omega) only[S0,rA,rQ,rB,rT,rE,h0,Dau,e0];rw[jQ G.length (fun k=>[rL (Hbs G k),i64 k]) (.yield 3,[rL (kL G)]) rfl (by simp)]
 rotate_left
 ·intro k hk hlt
  have hb:InB G (k:Int):=aH.2 hk;have gx:=Ha9 hb;have je:=Pa6 hb;have se:=yX G (k:Int);have ir:=Wan G k;simp (disch:=first|assumption|omega) only[S0,rA,rQ,rB,rT,rE,hlt,h0];rw[jQ G.length (fun m=>[rL (Ibx G (k:Int) m),i64 m]) (.yield 5,[rL (Aan G (k:Int))]) rfl (by simp)]
  ·have hs:=xN hg hb
   have hgp:=Dch hs;have hgb:InB (Aan G (k:Int)) 0:=by unfold InB;omega
   have a1:(Hbs G k).length+([Aan G (k:Int)]:List (List Int)).length<=100000000000:=by simp only[Aco,Acx];omega
   rw[Ra6];cases c1:(atI (Aan G (k:Int)) 0==(k:Int))
   ·simp (disch:=first|assumption|omega) only[S0,rA,rQ,rB,rT,rE,aI,c1,Aca,Ac4]
   ·simp (disch:=first|assumption|omega) only[S0,rA,rQ,rB,rT,rE,aI,oG,iA,c1]
  ·intro m hm a8
   have hj:InB G (m:Int):=aH.2 hm;have ua:=Ha9 hj;have ub:=Pa6 hj;have k7:=yX G (m:Int);have tS:=Tax hg (j:=(k:Int)) hj;have tW:=Tax hg (j:=(m:Int)) hb;have ga:=Gbv G (k:Int) m;have a1:(Ibx G (k:Int) m).length+([(m:Int)]:List Int).length<=100000000000:=by simp only[Aco,Acx];omega
   have b1:(nG G (m:Int)).length<=1099511627776:=by omega
   rw[Bbj];cases c1:Gae G (k:Int) (m:Int)
   ·simp (disch:=first|assumption|omega) only[S0,rA,rQ,rB,rT,rE,aI,slices_Contains_int,a8,je,tW,c1,Bool.false_and,Aca,Ac4]
   ·cases c2:Gae G (m:Int) (k:Int)
    ·simp (disch:=first|assumption|omega) only[S0,rA,rQ,rB,rT,rE,aI,slices_Contains_int,a8,je,ub,tS,tW,c1,c2,Dc8,Aca,Ac4]
    ·simp (disch:=first|assumption|omega) only[S0,rA,rQ,rB,rT,rE,aI,oG,iA,slices_Contains_int,a8,je,ub,tS,tW,c1,c2,Dc8]
  ·intro a8
   rw[Gbw];simp (disch:=first|assumption|omega) only[S0,rA,rQ,rB,rT,rE,a8]
 ·intro hlt
  simp (disch:=first|assumption|omega) only[S0,rA,rQ,rB,rT,rE,hlt];rfl
 simp (disch:=first|assumption|omega) only[S0,rA,rQ,rB,rT,rE,h0];generalize hE:Er T (Tm.loop _ _) _=E
 obtain⟨r,h1,q,h3⟩:∃ r,E=some r/\∃ q,r=(.yield 7,[rL (bW G),q]):=by
  rw[<- hE];refine Iao (γ:=CSt) (fun s=>s.rest.length) (fun s=>Kae G s/\cM G s.rest.length s=bW G) (fun s=>[rL s.rest,rL s.out,rL (tC G.length s.out)]) (fun r=>∃ q,r=(.yield 7,[rL (bW G),q])) ⟨kL G,[]⟩ ?_ ⟨Kae.start G,rfl⟩ ?_
  ·rw[Bb6]
   rfl
  rintro s ⟨hinv,eM⟩
  have hlen:=hinv.len;by_cases hw:s.rest=[]
  ·have hd:decide ((0:Int)<(s.rest.length:Nat))=false:=by rw[hw];rfl
   refine .inr ⟨(.yield 7,[rL s.out,rL (tC G.length s.out)]),by simp (disch:=first|assumption|omega) only[S0,rA,rQ,rB,rT,rE,hd],by simp,rL (tC G.length s.out),?_⟩;rw[hw]at eM;rw[<- eM];rfl
  ·have jc:0<s.rest.length:=Dck.2 hw
   obtain⟨ba,yt⟩:=hinv.step hg hw;obtain⟨t1,t2,t3,t4⟩:=hinv.top hg hw
   have tv:cM G (cO G s).rest.length (cO G s)=bW G:=by
    rw[<- eM,<- yt];rfl
   refine .inl ⟨cO G s,?_,⟨ba,tv⟩,by omega⟩;have hd:decide ((0:Int)<(s.rest.length:Nat))=true:=decide_eq_true (by omega);have se:0<(rsM G).length:=by rw[Zaw];omega
   have qg:0<(tC G.length s.out).length:=by rw[Ras];omega
   have hx:∀ C∈s.rest,C.length<=1000/\InB C 0/\InB G (atI C 0):=fun C hC=>by
    obtain⟨k1,k2,k3,k4,k5⟩:=hinv.grp hg hC;exact⟨by omega,k4,k5⟩
   have hb:InB s.rest (Hal G s:Int):=aH.2 t1;obtain⟨g1,g2,g3,g4,g5⟩:=hinv.grp hg (at_mem t1);simp (disch:=first|assumption|omega) only[S0,rA,rQ,rB,rT,rE,aI,Zb2,Iav,t2,hd];unfold cO;generalize Hal G s=i at t1 t2 t3 t4 hb g1 g2 g3 g4 g5 ⊢;rw[jQ (atI s.rest (i:Int)).length (fun m=>[i64 m,rL ((nums G.length).map fun j=>nE s.out j||lG ((atI s.rest (i:Int)).take m) j)]) (.yield 9,[rL (tC G.length (s.out++[atI s.rest (i:Int)]))]) (by rw[Ta6];rfl) (by simp)]
   ·have a1:s.out.length+([atI s.rest (i:Int)]:List (List Int)).length<=100000000000:=by simp only[Aco,Acx];omega
    simp (disch:=first|assumption|omega) only[S0,rA,rQ,rB,rT,rE,aI,Mas,oG,iA,Hbc]
   ·intro m hm a8
    have hbm:InB (atI s.rest (i:Int)) (m:Int):=aH.2 hm;have hjG:=g3 _ (at_mem hm);have ua:InB ((nums G.length).map fun j=>nE s.out j||lG ((atI s.rest (i:Int)).take m) j) (atI (atI s.rest (i:Int)) (m:Int)):=by unfold InB at hjG ⊢;rw[Acp,dP];exact hjG
    rw[<- Bb5 hm hjG];simp (disch:=first|assumption|omega) only[S0,rA,rQ,rB,rT,rE,aI,Dau,a8]
   ·intro a8
    rw[Bb7];simp (disch:=first|assumption|omega) only[S0,rA,rQ,rB,rT,rE,a8]
 subst h3;rw[h1];simp (disch:=first|assumption|omega) only[S0,rA,rQ,rB,rT,rE]
theorem Pas (C ks:List Int)(hC:C.length<=1000)(j9:∀ x∈C,InB ks x)(hi:∀ x∈C,∀ y∈C,atI ks x=atI ks y->x=y):Fun T 79 [rL C,rL ks]=some [rL (lN (jN ks) C)]:=by
 rw[aO (t:=Qbb) rfl];unfold Qbb
 simp (disch:=first|assumption|omega) only[S0,rA,rQ,rB,rT,rE];rw[<- Aby hi];rw[(Kax 1 C (fun i (out:List Int)=>[rL out,i64 i]) [] (Dbd ks) (fun i out=>out.length=i/\i<=C.length/\∀ x∈out,InB ks x) (fun out=>[rL out]) rfl ⟨rfl,Ccc _,fun x hx=>by cases hx⟩ ?_ ?_).1]
 ·simp (disch:=first|assumption|omega) only[S0,rA,rQ,rB,rT,rE]
 ·rintro i out oz hb hlt ⟨o1,o2,o3⟩
  have hxb:=j9 _ (at_mem oz);have nF:=(Iau ks out (atI C (i:Int))).length_eq;refine⟨?_,?_⟩
  ·simp (disch:=first|assumption|omega) only[S0,rA,rQ,rB,rT,rE,aI,hlt]
   generalize atI C (i:Int)=x at hxb nF ⊢;have hk:=Tas ks out x out.length;rw[Had (γ:=Nat) (.yield 3,[i64 ((Fap ks out x out.length:Nat):Int),.undef,.undef,.undef,.undef,.undef,.undef,.undef]) (fun k=>k) (fun k=>k<=out.length/\Fap ks out x k=Fap ks out x out.length) (fun k=>[i64 (k:Int)]) out.length rfl ⟨Acn _,rfl⟩ (by simp)]
   ·unfold Dbd
    generalize Fap ks out x out.length=k at hk ⊢;have e0:(out.take ((k:Nat):Int).toNat).drop (0:Int).toNat=out.take k:=rfl;have e1:(out.take ((out.length:Nat):Int).toNat).drop ((k:Nat):Int).toNat=out.drop k:=by rw[Ac7,Ac7,Bcm]
    have t1:(out.take k).length<=1000:=by rw[Ac1];omega
    have t2:(out.drop k).length<=1000:=by rw[Bcu];omega
    have a3:(out.take k).length+([x]:List Int).length<=100000000000:=by simp only[Aco,Acx];omega
    have a4:((out.take k)++[x]).length+(out.drop k).length<=100000000000:=by simp only[Ace,Aco,Acx];omega
    have b1:(0:Int)<=((k:Nat):Int):=by omega
    have b2:(out.drop k).length<=10000000000:=by omega
    simp (disch:=first|assumption|omega) only[S0,rA,rQ,rB,rT,rE,oG,iA,tK,Lah,e0,e1]
   ·rintro k ⟨a5s,v8⟩
    cases k with
    | zero =>
     refine .inr ?_;have e:Fap ks out x out.length=0:=by rw[<- v8];rfl
     have y5:decide ((0:Int)<((0:Nat):Int))=false:=by decide
     rw[e];simp (disch:=first|assumption|omega) only[S0,rA,rQ,rB,rT,rE,y5]
    | succ k =>
     have p7:InB out (k:Int):=aH.2 (by omega);have hyb:=o3 _ (fV p7);have rS:decide (0<(k:Int)+1)=true:=decide_eq_true (by omega)
     have ph:(aU.bin .sub).run [i64 ((k:Int)+1),i64 1]=some [i64 (k:Int)]:=by
      have h:=Taa (a:=(k:Int)+1) (b:=1) (by omega) (by omega);rw[show (k:Int)+1-1=k by omega]at h;exact h
     cases hg:decide (atI ks x<atI ks (atI out (k:Int)))
     ·refine .inr ?_
      have e:Fap ks out x out.length=k+1:=by rw[<- v8];unfold Fap;rw[hg];simp
      rw[e];simp (disch:=first|assumption|omega) only[S0,rA,rQ,rB,rT,rE,aI,rS,ph,hg,Aca]
     ·refine .inl ⟨k,?_,⟨by omega,by rw[<- v8];conv=>rhs;unfold Fap;rw[hg];simp⟩,by omega⟩
      simp (disch:=first|assumption|omega) only[S0,rA,rQ,rB,rT,rE,aI,rS,ph,hg]
  ·refine⟨by rw[nF,Aco];omega,by omega,fun y hy=>?_⟩
   rcases List.mem_cons.1 ((Iau ks out (atI C (i:Int))).mem_iff.1 hy) with h|h
   ·rw[h];exact hxb
   ·exact o3 y h
 ·rintro out hlt -
  simp (disch:=first|assumption|omega) only[S0,rA,rQ,rB,rT,rE,hlt]
theorem Par (G:List (List Int))(ks:List Int)(hg:GOk G)(hl:G.length<=1000)(hr:∀ r∈G,r.length<=1000)(hk:ks.length=G.length)(hi:∀ x y,InB G x->InB G y->atI ks x=atI ks y->x=y):Fun T 75 [rL G,rL ks]=some [rL (nQ G ks)]:=by
 rw[aO (t:=Qbf) rfl];unfold Qbf
 obtain⟨c1,c2⟩:=oW hg;have sL:(bW G).length<=G.length:=Bci (lU c1 fun C hC=>(c2 C).1 hC) (Eaz G);simp (disch:=first|assumption|omega) only[S0,rA,rQ,rB,rT,rE,Eaa];rw[jQ (bW G).length (fun m=>[rL (vN G ks m),i64 m]) (.yield 1,[rL (nQ G ks)]) rfl (by simp)]
 ·simp (disch:=first|assumption|omega) only[S0,rA,rQ,rB,rT,rE]
 ·intro m hm hlt
  have hb:InB (bW G) (m:Int):=aH.2 hm;obtain⟨a,ha,he,-⟩:=jE ((c2 _).1 (at_mem hm));have g1:=Na9 G a;have g2:∀ x∈atI (bW G) (m:Int),InB G x:=fun x hx=>Tay (by rw[<- he];exact hx)
  rw[<- he]at g1;have hC:(atI (bW G) (m:Int)).length<=1000:=by omega
  have j9:∀ x∈atI (bW G) (m:Int),InB ks x:=fun x hx=>by have:=g2 x hx;unfold InB at this ⊢;rw[hk];exact this
  have oz:∀ x∈atI (bW G) (m:Int),∀ y∈atI (bW G) (m:Int),atI ks x=atI ks y->x=y:=fun x hx y hy=>hi x y (g2 x hx) (g2 y hy)
  have o1:=La1 hg ks m;have a1:(vN G ks m).length+(lN (jN ks) (atI (bW G) (m:Int))).length<=100000000000:=by rw[Pa1];omega
  rw[Iaf hm];simp (disch:=first|assumption|omega) only[S0,rA,rQ,rB,rT,rE,aI,iA,Pas,hlt]
 ·intro hlt
  rw[Iag];simp (disch:=first|assumption|omega) only[S0,rA,rQ,rB,rT,rE,hlt]
theorem Xal (l ks:List Int)(h:Faq l ks=true)(hl:l.length<=1000000):Fun T 169 [rL l,rL ks]=some [rL (lN (jN ks) l)]:=by
 rw[Oau (e:=Lak) rfl];exact Lba h hl
theorem Xa7 (G:List (List Int))(ks:List Int)(hg:GOk G)(hl:G.length<=1000)(hr:∀ r∈G,r.length<=1000)(hk:ks.length=G.length)(ny:∀ k∈ks,0<=k/\k<=1000000000)(hi:∀ x y,InB G x->InB G y->atI ks x=atI ks y->x=y):Fun T 160 [rL G,rL ks]=some [rL (nQ G ks)]:=by
 rw[aO (t:=Db7) rfl];unfold Db7
 obtain⟨c1,c2⟩:=oW hg;have sL:(bW G).length<=G.length:=Bci (lU c1 fun C hC=>(c2 C).1 hC) (Eaz G);have h0:(aU.mk 1 0).run []=some [rL ([]:List (List Int))]:=rfl;have est:rL (bW G)=pX [] (Acm 0 [D.hole]) ((bW G).drop 0):=Cbd (bW G) (Ccc _);simp (disch:=first|assumption|omega) only[S0,rA,rQ,rB,rT,rE,Ia1,h0];rw[jQ (bW G).length (fun m=>[rL (vN G ks m),pX [] (Acm m [D.hole]) ((bW G).drop m),i64 m]) (.yield 1,[rL (nQ G ks)]) (by rw[<- est];rfl) (by simp)]
 ·simp (disch:=first|assumption|omega) only[S0,rA,rQ,rB,rT,rE]
 ·intro m hm hlt
  have hb:InB (bW G) (m:Int):=aH.2 hm;obtain⟨a,ha,he,-⟩:=jE ((c2 _).1 (at_mem hm));have g1:=Na9 G a;have g2:∀ x∈atI (bW G) (m:Int),InB G x:=fun x hx=>Tay (by rw[<- he];exact hx)
  rw[<- he]at g1;have hC:(atI (bW G) (m:Int)).length<=1000000:=by omega
  have j9:∀ x∈atI (bW G) (m:Int),InB ks x:=fun x hx=>by have:=g2 x hx;unfold InB at this ⊢;rw[hk];exact this
  have oz:∀ x∈atI (bW G) (m:Int),∀ y∈atI (bW G) (m:Int),atI ks x=atI ks y->x=y:=fun x hx y hy=>hi x y (g2 x hx) (g2 y hy)
  have hko:=Abz j9 ny oz;have o1:=La1 hg ks m;have a1:(vN G ks m).length+(lN (jN ks) (atI (bW G) (m:Int))).length<=100000000000:=by rw[Pa1];omega
  have fS:(bW G).drop m=atI (bW G) (m:Int)::(bW G).drop (m+1):=by rw[Bcz hm,bB hm]
  have hJ:((Acm m [D.hole]).length:Int)=(m:Int):=by rw[Bcj]
  have q1:aU.inb.run [pX [] (Acm m [D.hole]) ((bW G).drop m),i64 (m:Int)]=some []:=Oaf (by omega) (by rw[fS,Aco,hJ,Acx];omega);have q2:(aU.row 1 0 [false]).run [pX [] (Acm m [D.hole]) ((bW G).drop m),i64 (m:Int)]=some [rL (atI (bW G) (m:Int))]:=by rw[fS];exact Waj (by rw[hJ,Acx];omega)
  have q3:(aU.set 1 0 1).run [pX [] (Acm m [D.hole]) ((bW G).drop m),i64 (m:Int),.hole]=some [pX [] (Acm (m+1) [D.hole]) ((bW G).drop (m+1))]:=by rw[fS,List.replicate_succ'];exact Raz (by rw[hJ,Acx];omega)
  rw[Iaf hm];simp (disch:=first|assumption|omega) only[S0,rA,rQ,rB,rT,rE,iA,Xal,q1,q2,q3,hlt]
 ·intro hlt
  rw[Iag];simp (disch:=first|assumption|omega) only[S0,rA,rQ,rB,rT,rE,hlt]
theorem Pap (n:Int)(rows:List (List bU))(ht:bJ ⟨n,rows⟩=true)(hs:lQ rows):Fun T 68 [i64 n,rL rows]=some [rL (qI ⟨n,rows⟩)]:=by
 rw[aO (t:=Qbm) rfl];unfold Qbm
 have hg:dF n=true:=aX ht;have hn:=aV hg;have hl:(rows.length:Int)=n:=bX ht;have jb:rows.length<=100:=by omega
 have se:=oI ht;have fb:=Bbm ⟨n,rows⟩;have hgl:=Ia9 ⟨n,rows⟩;have nj:∀ r∈gM ⟨n,rows⟩,r.length<=1000:=fun r hr=>by have:=(Bbl hr).1;omega
 have qn:(zR ⟨n,rows⟩).length=(gM ⟨n,rows⟩).length:=by rw[Qas,hgl]
 have v8:=Qat ht;have iw:∀ x∈aJ ⟨n,rows⟩,x∈bI rows:=fun x hx=>Eae hx
 simp (disch:=first|assumption|omega) only[S0,rA,rQ,rB,rT,rE,Pao,Laf];rw[jQ rows.length (fun k=>[i64 k,rL (Sai (aJ ⟨n,rows⟩) ⟨n,rows⟩ k).rows]) (.yield 1,[rL (Sai (aJ ⟨n,rows⟩) ⟨n,rows⟩ rows.length).rows]) rfl (by simp)]
 rotate_left
 ·intro k hk hlt
  have hc:=Waz.all ht iw k (by simp only;omega);have ir:(Sai (aJ ⟨n,rows⟩) ⟨n,rows⟩ k).rows.length=rows.length:=hc.rowsLen ht;have sk:InB (Sai (aJ ⟨n,rows⟩) ⟨n,rows⟩ k).rows (k:Int):=aH.2 (by omega);have hck:(atI (Sai (aJ ⟨n,rows⟩) ⟨n,rows⟩ k).rows (k:Int)).length=(atI rows (k:Int)).length:=hc.len k;have h6:(atI rows (k:Int)).length<=6:=(bZ ht (at_mem hk)).1;have hck2:(atI (Sai (aJ ⟨n,rows⟩) ⟨n,rows⟩ k).rows (k:Int)).length<=1099511627776:=by omega
  simp (disch:=first|assumption|omega) only[S0,rA,rQ,rB,rT,rE,aI,hlt];rw[hck];rw[jQ (atI rows (k:Int)).length (fun m=>[i64 m,rL (Ib1 (aJ ⟨n,rows⟩) k m (Sai (aJ ⟨n,rows⟩) ⟨n,rows⟩ k)).rows]) (.yield 3,[rL (Sai (aJ ⟨n,rows⟩) ⟨n,rows⟩ (k+1)).rows]) rfl (by simp)]
  ·simp (disch:=first|assumption|omega) only[S0,rA,rQ,rB,rT,rE]
  ·intro m hm a8
   have hd:=hc.stepN ht (by simp only;exact hk) m (by simp only;omega);have e:Ib1 (aJ ⟨n,rows⟩) k (m+1) (Sai (aJ ⟨n,rows⟩) ⟨n,rows⟩ k)=Ob9 (aJ ⟨n,rows⟩) (Ib1 (aJ ⟨n,rows⟩) k m (Sai (aJ ⟨n,rows⟩) ⟨n,rows⟩ k)) k m:=rfl;rw[e];generalize Ib1 (aJ ⟨n,rows⟩) k m (Sai (aJ ⟨n,rows⟩) ⟨n,rows⟩ k)=u at hd ⊢;obtain⟨un,us⟩:=u;obtain rfl:un=n:=hd.n;have qg:us.length=rows.length:=hd.rowsLen ht;have hdb:InB us (k:Int):=aH.2 (by omega);have wx:(atI us (k:Int)).length=(atI rows (k:Int)).length:=hd.len k;have hdm:InB (atI us (k:Int)) (m:Int):=aH.2 (by omega);have b1:([(k:Int),(m:Int)+1]:List Int).length<=1099511627776:=by simp
   have b2:(aJ ⟨un,rows⟩).length<=1099511627776:=by omega
   unfold Ob9;cases hf:decide (iX (aJ ⟨un,rows⟩) [(k:Int),(m:Int)+1]<0)
   ·simp (disch:=first|assumption|omega) only[S0,rA,rQ,rB,rT,rE,oG,fM,a8,hf,Aca]
   ·have e1:ext un (atI us (k:Int)) ((m:Int)+1)=atI us (k:Int):=Waf (by omega)
    have e2:(m:Int)+1-1=(m:Int):=by omega
    unfold Kag;simp (disch:=first|assumption|omega) only[S0,rA,rQ,rB,rT,rE,aI,oG,Bam,fM,mO,a8,hf,e1,e2];rfl
  ·intro a8
   simp (disch:=first|assumption|omega) only[S0,rA,rQ,rB,rT,rE,a8];rfl
 ·intro hlt
  simp (disch:=first|assumption|omega) only[S0,rA,rQ,rB,rT,rE,hlt]
 have jj:=Hbl ht;simp only at jj;generalize Sai (aJ ⟨n,rows⟩) ⟨n,rows⟩ rows.length=u at jj ⊢;obtain⟨un,us⟩:=u;obtain rfl:un=n:=jj.n;have n5:bJ ⟨un,us⟩=true:=jj.ok;have sf:=uE n5;simp only at sf;have tk:=jj.com ht;have th:=jj.graph ht;simp only at tk th;simp (disch:=first|assumption|omega) only[S0,rA,rQ,rB,rT,rE,Paq,tk,th];rw[jQ (aJ ⟨un,rows⟩).length (fun m=>[rL (((aJ ⟨un,rows⟩).take m).map (Da1 ⟨un,rows⟩)),i64 m]) (.yield 5,[rL (zR ⟨un,rows⟩)]) rfl (by simp)]
 rotate_left
 ·intro m hm hlt
  have hb:InB (aJ ⟨un,rows⟩) (m:Int):=aH.2 hm;obtain⟨hi,ba,he,x0,x1⟩:=dE ht (at_mem hm);have oz:inst un (atI (atI (aJ ⟨un,rows⟩) (m:Int)) 0) (atI (atI (aJ ⟨un,rows⟩) (m:Int)) 1)=true:=hi.2;have hr:=bG oz;have hrb:InB rows (atI (atI (aJ ⟨un,rows⟩) (m:Int)) 0):=bR ht oz;have hsq:=Ca1 ht hi;have tE:(((aJ ⟨un,rows⟩).take m).map (Da1 ⟨un,rows⟩)).length<=30:=by rw[Acp,Ac1];omega
  have ek:((aJ ⟨un,rows⟩).take (m+1)).map (Da1 ⟨un,rows⟩)=((aJ ⟨un,rows⟩).take m).map (Da1 ⟨un,rows⟩)++[Da1 ⟨un,rows⟩ (atI (aJ ⟨un,rows⟩) (m:Int))]:=by rw[<- take_at hm,Cca];rfl
  rw[ek];have a1:(((aJ ⟨un,rows⟩).take m).map (Da1 ⟨un,rows⟩)).length+([Da1 ⟨un,rows⟩ (atI (aJ ⟨un,rows⟩) (m:Int))]:List Int).length<=100000000000:=by simp only[Aco,Acx];omega
  have ek2:100*(eT ⟨un,rows⟩ (atI (atI (aJ ⟨un,rows⟩) (m:Int)) 0) (atI (atI (aJ ⟨un,rows⟩) (m:Int)) 1)).attr.seq+10*atI (atI (aJ ⟨un,rows⟩) (m:Int)) 0+atI (atI (aJ ⟨un,rows⟩) (m:Int)) 1=Da1 ⟨un,rows⟩ (atI (aJ ⟨un,rows⟩) (m:Int)):=rfl;simp (disch:=first|assumption|omega) only[S0,rA,rQ,rB,rT,rE,aI,oG,iA,Vaf,jB,ek2,hlt]
 ·intro hlt
  rw[Bcm];simp (disch:=first|assumption|omega) only[S0,rA,rQ,rB,rT,rE,hlt];rfl
 have k7:=Nan ⟨un,rows⟩;simp (disch:=first|assumption|omega) only[S0,rA,rQ,rB,rT,rE,Par];have eJ:nQ (gM ⟨un,rows⟩) (zR ⟨un,rows⟩)=tO ⟨un,rows⟩:=rfl;rw[eJ];rw[jQ (tO ⟨un,rows⟩).length (fun m=>[rL (aJ ⟨un,rows⟩),rL (((tO ⟨un,rows⟩).take m).map fun j=>atI (aJ ⟨un,rows⟩) j),i64 m]) (.yield 7,[rL (qI ⟨un,rows⟩)]) rfl (by simp)]
 ·simp (disch:=first|assumption|omega) only[S0,rA,rQ,rB,rT,rE]
 ·intro m hm hlt
  have hb:InB (tO ⟨un,rows⟩) (m:Int):=aH.2 hm;have ua:=Iah (at_mem hm);have tE:(((tO ⟨un,rows⟩).take m).map fun j=>atI (aJ ⟨un,rows⟩) j).length<=30:=by rw[Acp,Ac1];omega
  have ek:((tO ⟨un,rows⟩).take (m+1)).map (fun j=>atI (aJ ⟨un,rows⟩) j)=((tO ⟨un,rows⟩).take m).map (fun j=>atI (aJ ⟨un,rows⟩) j)++[atI (aJ ⟨un,rows⟩) (atI (tO ⟨un,rows⟩) (m:Int))]:=by rw[<- take_at hm,Cca];rfl
  have a1:(((tO ⟨un,rows⟩).take m).map fun j=>atI (aJ ⟨un,rows⟩) j).length+([atI (aJ ⟨un,rows⟩) (atI (tO ⟨un,rows⟩) (m:Int))]:List (List Int)).length<=100000000000:=by simp only[Aco,Acx];omega
  rw[ek];simp (disch:=first|assumption|omega) only[S0,rA,rQ,rB,rT,rE,aI,oG,iA,hlt]
 ·intro hlt
  rw[Bcm];simp (disch:=first|assumption|omega) only[S0,rA,rQ,rB,rT,rE,hlt];rfl
theorem Gaj (n:Int)(rows:List (List bU))(ht:bJ ⟨n,rows⟩=true)(hs:lQ rows):Fun T 147 [i64 n,rL rows]=some [rL (qI ⟨n,rows⟩)]:=by
 rw[aO (t:=Ebj) rfl];unfold Ebj
 have hg:dF n=true:=aX ht;have hn:=aV hg;have hl:(rows.length:Int)=n:=bX ht;have jb:rows.length<=100:=by omega
 have se:=oI ht;have fb:=Bbm ⟨n,rows⟩;have hgl:=Ia9 ⟨n,rows⟩;have nj:∀ r∈gM ⟨n,rows⟩,r.length<=1000:=fun r hr=>by have:=(Bbl hr).1;omega
 have qn:(zR ⟨n,rows⟩).length=(gM ⟨n,rows⟩).length:=by rw[Qas,hgl]
 have v8:=Qat ht;have od:=Ab0 ht;have h0:(aU.mk 1 0).run []=some [rL ([]:List (List Int))]:=rfl;simp (disch:=first|assumption|omega) only[S0,rA,rQ,rB,rT,rE,Ca3,Gai];rw[jQ (aJ ⟨n,rows⟩).length (fun m=>[i64 m,i64 n,rL (Ya3 ⟨n,rows⟩ m).rows]) (.yield 1,[i64 n,rL (Ya3 ⟨n,rows⟩ (aJ ⟨n,rows⟩).length).rows]) rfl (by simp)]
 rotate_left
 ·intro m hm hlt
  have hb:InB (aJ ⟨n,rows⟩) (m:Int):=aH.2 hm;obtain⟨hi,ba,he,x0,x1⟩:=dE ht (at_mem hm);have oz:inst n (atI (atI (aJ ⟨n,rows⟩) (m:Int)) 0) (atI (atI (aJ ⟨n,rows⟩) (m:Int)) 1)=true:=hi.2;have hr:=bG oz;have hrb:InB rows (atI (atI (aJ ⟨n,rows⟩) (m:Int)) 0):=bR ht oz;have jj:=Oas ht m (by omega);have qg:=eH ht oz;simp only at qg;have e:Ya3 ⟨n,rows⟩ (m+1)=Kag (Ya3 ⟨n,rows⟩ m) (atI (atI (aJ ⟨n,rows⟩) (m:Int)) 0) (atI (atI (aJ ⟨n,rows⟩) (m:Int)) 1) (eT ⟨n,rows⟩ (atI (atI (aJ ⟨n,rows⟩) (m:Int)) 0) (atI (atI (aJ ⟨n,rows⟩) (m:Int)) 1)):=rfl;rw[e];generalize Ya3 ⟨n,rows⟩ m=u at jj ⊢;obtain⟨un,us⟩:=u;obtain rfl:un=n:=jj.n;have n5:bJ ⟨un,us⟩=true:=jj.ok;have sf:=uE n5;simp only at sf;have hub:InB us (atI (atI (aJ ⟨un,rows⟩) (m:Int)) 0):=bR n5 oz;have hdl2:(eT ⟨un,rows⟩ (atI (atI (aJ ⟨un,rows⟩) (m:Int)) 0) (atI (atI (aJ ⟨un,rows⟩) (m:Int)) 1)).attr.deps.length<=10000000000:=by omega
  simp (disch:=first|assumption|omega) only[S0,rA,rQ,rB,rT,rE,aI,bH,Aal,hlt];rfl
 ·intro hlt
  simp (disch:=first|assumption|omega) only[S0,rA,rQ,rB,rT,rE,hlt]
 have jj:=Ibc ht;generalize Ya3 ⟨n,rows⟩ (aJ ⟨n,rows⟩).length=u at jj ⊢;obtain⟨un,us⟩:=u;obtain rfl:un=n:=jj.n;have n5:bJ ⟨un,us⟩=true:=jj.ok;have sf:=uE n5;simp only at sf;have tk:=jj.com ht;have th:=jj.graph ht;simp only at tk th;simp (disch:=first|assumption|omega) only[S0,rA,rQ,rB,rT,rE,Gak,tk,th,h0];rw[jQ (aJ ⟨un,rows⟩).length (fun m=>[rL (((aJ ⟨un,rows⟩).take m).map (Da1 ⟨un,rows⟩)),i64 m]) (.yield 3,[rL (zR ⟨un,rows⟩)]) rfl (by simp)]
 rotate_left
 ·intro m hm hlt
  have hb:InB (aJ ⟨un,rows⟩) (m:Int):=aH.2 hm;obtain⟨hi,ba,he,x0,x1⟩:=dE ht (at_mem hm);have oz:inst un (atI (atI (aJ ⟨un,rows⟩) (m:Int)) 0) (atI (atI (aJ ⟨un,rows⟩) (m:Int)) 1)=true:=hi.2;have hr:=bG oz;have hrb:InB us (atI (atI (aJ ⟨un,rows⟩) (m:Int)) 0):=bR n5 oz;have hsq:=Ca1 ht hi
  have htr:eT ⟨un,us⟩ (atI (atI (aJ ⟨un,rows⟩) (m:Int)) 0) (atI (atI (aJ ⟨un,rows⟩) (m:Int)) 1)=eT ⟨un,rows⟩ (atI (atI (aJ ⟨un,rows⟩) (m:Int)) 0) (atI (atI (aJ ⟨un,rows⟩) (m:Int)) 1):=by
   rw[jj.row _ _ oz,if_pos (by rw[<- he];exact at_mem hm)]
  have tE:(((aJ ⟨un,rows⟩).take m).map (Da1 ⟨un,rows⟩)).length<=30:=by rw[Acp,Ac1];omega
  have ek:((aJ ⟨un,rows⟩).take (m+1)).map (Da1 ⟨un,rows⟩)=((aJ ⟨un,rows⟩).take m).map (Da1 ⟨un,rows⟩)++[Da1 ⟨un,rows⟩ (atI (aJ ⟨un,rows⟩) (m:Int))]:=by rw[<- take_at hm,Cca];rfl
  rw[ek];have a1:(((aJ ⟨un,rows⟩).take m).map (Da1 ⟨un,rows⟩)).length+([Da1 ⟨un,rows⟩ (atI (aJ ⟨un,rows⟩) (m:Int))]:List Int).length<=100000000000:=by simp only[Aco,Acx];omega
  have ek2:100*(eT ⟨un,rows⟩ (atI (atI (aJ ⟨un,rows⟩) (m:Int)) 0) (atI (atI (aJ ⟨un,rows⟩) (m:Int)) 1)).attr.seq+10*atI (atI (aJ ⟨un,rows⟩) (m:Int)) 0+atI (atI (aJ ⟨un,rows⟩) (m:Int)) 1=Da1 ⟨un,rows⟩ (atI (aJ ⟨un,rows⟩) (m:Int)):=rfl;simp (disch:=first|assumption|omega) only[S0,rA,rQ,rB,rT,rE,aI,oG,iA,Vaf,bH,htr,ek2,hlt]
 ·intro hlt
  rw[Bcm];simp (disch:=first|assumption|omega) only[S0,rA,rQ,rB,rT,rE,hlt];rfl
 have k7:=Nan ⟨un,rows⟩;simp (disch:=first|assumption|omega) only[S0,rA,rQ,rB,rT,rE,Xa7,h0];have eJ:nQ (gM ⟨un,rows⟩) (zR ⟨un,rows⟩)=tO ⟨un,rows⟩:=rfl;have q9:(tO ⟨un,rows⟩).Nodup:=wU fb _;have est:rL (aJ ⟨un,rows⟩)=hsD (aJ ⟨un,rows⟩) (fun j=>lG ((tO ⟨un,rows⟩).take 0) j):=(Ob5 _ fun j _=>rfl).symm;rw[eJ];generalize hE:Er T (Tm.loop _ _) _=E
 obtain⟨r,h1,h3⟩:∃ r,E=some r/\r=(.yield 5,[rL (qI ⟨un,rows⟩)]):=by
  refine⟨_,?_,rfl⟩;rw[<- hE];rw[jQ (tO ⟨un,rows⟩).length (fun m=>[hsD (aJ ⟨un,rows⟩) (fun j=>lG ((tO ⟨un,rows⟩).take m) j),rL (((tO ⟨un,rows⟩).take m).map fun j=>atI (aJ ⟨un,rows⟩) j),i64 m]) (.yield 5,[rL (qI ⟨un,rows⟩)]) (by rw[<- est];rfl) (by simp)]
  ·intro m hm hlt
   have hb:InB (tO ⟨un,rows⟩) (m:Int):=aH.2 hm;have ua:=Iah (at_mem hm);have tE:(((tO ⟨un,rows⟩).take m).map fun j=>atI (aJ ⟨un,rows⟩) j).length<=30:=by rw[Acp,Ac1];omega
   have ek:((tO ⟨un,rows⟩).take (m+1)).map (fun j=>atI (aJ ⟨un,rows⟩) j)=((tO ⟨un,rows⟩).take m).map (fun j=>atI (aJ ⟨un,rows⟩) j)++[atI (aJ ⟨un,rows⟩) (atI (tO ⟨un,rows⟩) (m:Int))]:=by rw[<- take_at hm,Cca];rfl
   have a1:(((tO ⟨un,rows⟩).take m).map fun j=>atI (aJ ⟨un,rows⟩) j).length+([atI (aJ ⟨un,rows⟩) (atI (tO ⟨un,rows⟩) (m:Int))]:List (List Int)).length<=100000000000:=by simp only[Aco,Acx];omega
   have gp:lG ((tO ⟨un,rows⟩).take m) (atI (tO ⟨un,rows⟩) (m:Int))=false:=by
    rw[<- Bool.not_eq_true,nY];intro da;obtain⟨i,hi,e⟩:=Bct.1 da;rw[Ac1]at hi;rw[Dc4,bB hm]at e;have:=(List.getElem_inj q9).1 e;omega
   have ep:(fun j=>lG ((tO ⟨un,rows⟩).take (m+1)) j)=fun j=>lG ((tO ⟨un,rows⟩).take m) j||j==atI (tO ⟨un,rows⟩) (m:Int):=funext fun j=>Va6 hm j
   have q1:aU.inb.run [hsD (aJ ⟨un,rows⟩) (fun j=>lG ((tO ⟨un,rows⟩).take m) j),i64 (atI (tO ⟨un,rows⟩) (m:Int))]=some []:=Kbm ua;have q2:(aU.row 1 0 [false]).run [hsD (aJ ⟨un,rows⟩) (fun j=>lG ((tO ⟨un,rows⟩).take m) j),i64 (atI (tO ⟨un,rows⟩) (m:Int))]=some [rL (atI (aJ ⟨un,rows⟩) (atI (tO ⟨un,rows⟩) (m:Int)))]:=Kbl ua gp;have q3:(aU.set 1 0 1).run [hsD (aJ ⟨un,rows⟩) (fun j=>lG ((tO ⟨un,rows⟩).take m) j),i64 (atI (tO ⟨un,rows⟩) (m:Int)),.hole]=some [hsD (aJ ⟨un,rows⟩) (fun j=>lG ((tO ⟨un,rows⟩).take (m+1)) j)]:=by rw[ep];exact Gbt ua
   rw[ek];simp (disch:=first|assumption|omega) only[S0,rA,rQ,rB,rT,rE,aI,oG,iA,q1,q2,q3,hlt]
  ·intro hlt
   rw[Bcm];simp (disch:=first|assumption|omega) only[S0,rA,rQ,rB,rT,rE,hlt];rfl
 subst h3;rw[h1];simp (disch:=first|assumption|omega) only[S0,rA,rQ,rB,rT,rE]
theorem Kak (reps:List nO)(bag:List nS)(asked:List bM)(h1:oQ reps)(hn:oZ ⟨reps,bag,asked⟩=true):Fun T 67 [rL reps,rL bag,rL asked]=some [.bool (Qak ⟨reps,bag,asked⟩)]:=by
 rw[aO (t:=Qbn) rfl];unfold Qbn;unfold Qak
 have h4:=h1.1;have h5:=h1.2;have hg:=lV hn;have nj:=aV hg;simp only at hg nj;obtain⟨so,sn⟩:=Naf hn;have ssm:=uE so;simp (disch:=first|assumption|omega) only[S0,rA,rQ,rB,rT,rE,oP];unfold Jb5;simp only;generalize Sa7 ⟨reps,bag,asked⟩=u at so sn ssm ⊢;obtain⟨un,us⟩:=u;simp only at so sn ssm ⊢;rw[vV 1 reps.length (fun i=>(reps.take i).all fun b=>Xaq ⟨un,us⟩ (qI (atI reps (i:Int)).table) (qI b.table)) [.bool false]]
 ·(refine aD ?_;repeat' (refine aC ?_ ?_<;>intro _<;>try simp (disch:=first|assumption|omega) only[S0,rA,rQ,rB,rT,rE, *]))
 ·intro i hi hlt
  have rv:InB reps (i:Int):=aH.2 hi;obtain⟨ht,hN,-⟩:=iI hn (i:=i) hi;obtain⟨kn,jr⟩:=h5 _ (at_mem hi);simp only at ht hN;generalize hR:atI reps (i:Int)=R at ht hN kn jr ⊢;have htl:(reps.take i).length<=1099511627776:=by rw[Ac1];omega
  simp (disch:=first|assumption|omega) only[S0,rA,rQ,rB,rT,rE,aI,tK,hlt,hR,Ac7,Ccb,Cch];rw[Sad 3 (reps.take i) (fun b=>Xaq ⟨un,us⟩ (qI R.table) (qI b.table)) [.bool false]]
  ·(refine aD ?_;repeat' (refine aC ?_ ?_<;>intro _<;>try simp (disch:=first|assumption|omega) only[S0,rA,rQ,rB,rT,rE, *]))
  ·intro k hk p7 fW yz
   have pD:=Bc0 yz;obtain⟨ql,tn⟩:=h5 _ pD;obtain⟨k2,ob,ek⟩:=Ccl pD;obtain⟨kO,oy,-⟩:=iI hn (i:=k2) ob;simp only at kO oy;rw[bB ob,ek]at kO oy;generalize hU:atI (reps.take i) (k:Int)=U at kO oy ql tn ⊢;have ia:qW un (qI R.table)=true:=uO ht (by rw[hN,<- sn]);have ib:qW un (qI U.table)=true:=uO kO (by rw[oy,<- sn]);have la:(qI R.table).length<=10000000000:=by have:=Ga0 R.table;have:=oI ht;omega
   have lb:(qI U.table).length<=10000000000:=by have:=Ga0 U.table;have:=oI kO;omega
   have xa:∀ x∈qI R.table,x.length<=10000000000:=fun x hx=>by have:=(dE ht (Caj hx)).1.1;omega
   have xb:∀ x∈qI U.table,x.length<=10000000000:=fun x hx=>by have:=(dE kO (Caj hx)).1.1;omega
   have nh:Jb6 (qI R.table) (qI U.table) ⟨un,us⟩=(Xaq ⟨un,us⟩ (qI R.table) (qI U.table),true):=by
    unfold Jb6;rw[so,ia,ib];rfl
   cases c1:Xaq ⟨un,us⟩ (qI R.table) (qI U.table)<;>simp (disch:=first|assumption|omega) only[S0,rA,rQ,rB,rT,rE,aI,Pap,Hay,nh,fW,hU,c1,Aca]
  ·intro fW
   simp (disch:=first|assumption|omega) only[S0,rA,rQ,rB,rT,rE,fW]
 ·intro hlt
  simp (disch:=first|assumption|omega) only[S0,rA,rQ,rB,rT,rE,hlt]
theorem zT (reps:List nO)(bag:List nS)(asked:List bM)(h1:oQ reps)(hn:oZ ⟨reps,bag,asked⟩=true):Fun T 146 [rL reps,rL bag,rL asked]=some [.bool (Qak ⟨reps,bag,asked⟩)]:=by
 rw[aO (t:=Ebk) rfl];unfold Ebk;unfold Qak
 have h4:=h1.1;have h5:=h1.2;have hg:=lV hn;have nj:=aV hg;simp only at hg nj;obtain⟨so,sn⟩:=Naf hn;have ssm:=uE so;simp (disch:=first|assumption|omega) only[S0,rA,rQ,rB,rT,rE,nL];unfold Jb5;simp only;generalize Sa7 ⟨reps,bag,asked⟩=u at so sn ssm ⊢;obtain⟨un,us⟩:=u;simp only at so sn ssm ⊢;rw[vV 1 reps.length (fun i=>(reps.take i).all fun b=>Xaq ⟨un,us⟩ (qI (atI reps (i:Int)).table) (qI b.table)) [.bool false]]
 ·(refine aD ?_;repeat' (refine aC ?_ ?_<;>intro _<;>try simp (disch:=first|assumption|omega) only[S0,rA,rQ,rB,rT,rE, *]))
 ·intro i hi hlt
  have rv:InB reps (i:Int):=aH.2 hi;obtain⟨ht,hN,-⟩:=iI hn (i:=i) hi;obtain⟨kn,jr⟩:=h5 _ (at_mem hi);simp only at ht hN;generalize hR:atI reps (i:Int)=R at ht hN kn jr ⊢;have htl:(reps.take i).length<=1099511627776:=by rw[Ac1];omega
  simp (disch:=first|assumption|omega) only[S0,rA,rQ,rB,rT,rE,aI,tK,hlt,hR,Ac7,Ccb,Cch];rw[Sad 3 (reps.take i) (fun b=>Xaq ⟨un,us⟩ (qI R.table) (qI b.table)) [.bool false]]
  ·(refine aD ?_;repeat' (refine aC ?_ ?_<;>intro _<;>try simp (disch:=first|assumption|omega) only[S0,rA,rQ,rB,rT,rE, *]))
  ·intro k hk p7 fW yz
   have pD:=Bc0 yz;obtain⟨ql,tn⟩:=h5 _ pD;obtain⟨k2,ob,ek⟩:=Ccl pD;obtain⟨kO,oy,-⟩:=iI hn (i:=k2) ob;simp only at kO oy;rw[bB ob,ek]at kO oy;generalize hU:atI (reps.take i) (k:Int)=U at kO oy ql tn ⊢;have ia:qW un (qI R.table)=true:=uO ht (by rw[hN,<- sn]);have ib:qW un (qI U.table)=true:=uO kO (by rw[oy,<- sn]);have la:(qI R.table).length<=10000000000:=by have:=Ga0 R.table;have:=oI ht;omega
   have lb:(qI U.table).length<=10000000000:=by have:=Ga0 U.table;have:=oI kO;omega
   have xa:∀ x∈qI R.table,x.length<=10000000000:=fun x hx=>by have:=(dE ht (Caj hx)).1.1;omega
   have xb:∀ x∈qI U.table,x.length<=10000000000:=fun x hx=>by have:=(dE kO (Caj hx)).1.1;omega
   have nh:Jb6 (qI R.table) (qI U.table) ⟨un,us⟩=(Xaq ⟨un,us⟩ (qI R.table) (qI U.table),true):=by
    unfold Jb6;rw[so,ia,ib];rfl
   cases c1:Xaq ⟨un,us⟩ (qI R.table) (qI U.table)<;>simp (disch:=first|assumption|omega) only[S0,rA,rQ,rB,rT,rE,aI,Gaj,xJ,fW,hU,c1,Aca]
  ·intro fW
   simp (disch:=first|assumption|omega) only[S0,rA,rQ,rB,rT,rE,fW]
 ·intro hlt
  simp (disch:=first|assumption|omega) only[S0,rA,rQ,rB,rT,rE,hlt]
theorem Saz (reps:List nO)(bag:List nS)(asked:List bM)(h1:oQ reps)(h2:Ha6 bag)(h3:asked.length<=10000000000):Fun T 31 [rL reps,rL bag,rL asked]=some [i64 (Kap ⟨reps,bag,asked⟩).1,.bool (Kap ⟨reps,bag,asked⟩).2]:=by
 rw[aO (t:=Rbn) rfl];unfold Rbn;unfold Kap
 cases ht:oZ ⟨reps,bag,asked⟩
 ·simp (disch:=first|assumption|omega) only[S0,rA,rQ,rB,rT,rE,nA,ht,Aca]
 obtain⟨so,sn⟩:=Naf ht;have ssm:=uE so;cases ha:Ib9 ⟨reps,bag,asked⟩
 ·simp (disch:=first|assumption|omega) only[S0,rA,rQ,rB,rT,rE,nA,nV,ht,ha,Aca]
 cases hk:Ib8 ⟨reps,bag,asked⟩
 ·simp (disch:=first|assumption|omega) only[S0,rA,rQ,rB,rT,rE,nA,nV,uD,ht,ha,hk,Aca]
 cases hh:Raa (Sa7 ⟨reps,bag,asked⟩)
 ·simp (disch:=first|assumption|omega) only[S0,rA,rQ,rB,rT,rE,nA,nV,uD,oP,Haw,ht,ha,hk,hh,Aca]
 cases ho:Qak ⟨reps,bag,asked⟩<;>simp (disch:=first|assumption|omega) only[S0,rA,rQ,rB,rT,rE,nA,nV,uD,oP,Haw,Kak,ht,ha,hk,hh,ho,Aca]
theorem Na8 (reps:List nO)(bag:List nS)(asked:List bM)(h1:oQ reps)(h2:Ha6 bag)(h3:asked.length<=10000000000)(ht:oZ ⟨reps,bag,asked⟩=true):Fun T 129 [rL reps,rL bag,rL asked]=some [i64 (Kap ⟨reps,bag,asked⟩).1]:=by
 rw[aO (t:=Eb1) rfl];unfold Eb1;unfold Kap
 obtain⟨so,sn⟩:=Naf ht;have ssm:=uE so;cases ha:Ib9 ⟨reps,bag,asked⟩
 ·simp (disch:=first|assumption|omega) only[S0,rA,rQ,rB,rT,rE,mZ,ht,ha,Aca]
 cases hk:Ib8 ⟨reps,bag,asked⟩
 ·simp (disch:=first|assumption|omega) only[S0,rA,rQ,rB,rT,rE,mZ,mU,ht,ha,hk,Aca]
 cases hh:Raa (Sa7 ⟨reps,bag,asked⟩)
 ·simp (disch:=first|assumption|omega) only[S0,rA,rQ,rB,rT,rE,mZ,mU,nL,pO,ht,ha,hk,hh,Aca]
 cases ho:Qak ⟨reps,bag,asked⟩<;>simp (disch:=first|assumption|omega) only[S0,rA,rQ,rB,rT,rE,mZ,mU,nL,pO,zT,ht,ha,hk,hh,ho,Aca]
theorem Taw (reps:List nO)(bag:List nS)(asked:List bM)(h1:oQ reps)(h2:Ha6 bag)(h3:asked.length<=10000000000):Fun T 82 [rL reps,rL bag,rL asked]=some [i64 (Kap ⟨reps,bag,asked⟩).1,.bool (Kap ⟨reps,bag,asked⟩).2]:=by
 rw[aO (t:=Pb8) rfl];unfold Pb8
 cases ht:oZ ⟨reps,bag,asked⟩
 ·unfold Kap
  simp (disch:=first|assumption|omega) only[S0,rA,rQ,rB,rT,rE,Fau,ht,Aca]
 ·have e:(Kap ⟨reps,bag,asked⟩).2=true:=by
   unfold Kap;rw[ht];cases Ib9 ⟨reps,bag,asked⟩<;>cases Ib8 ⟨reps,bag,asked⟩<;>cases Raa (Sa7 ⟨reps,bag,asked⟩)<;>cases Qak ⟨reps,bag,asked⟩<;>rfl
  simp (disch:=first|assumption|omega) only[S0,rA,rQ,rB,rT,rE,Fau,Na8,ht,e]
theorem law (a7:(List nO))(br:(List nS))(aw:(List bM))(a1u:Maz ⟨a7,br,aw⟩):Fun T 0 [rL a7,rL br,rL aw]=some [.bool true]:=by
 rw[aO (t:=tm0) rfl];unfold tm0
 by_cases c_x:((gU ⟨a7,br,aw⟩:Nat):Int)<=1048576
 rotate_left
 ·have e:szR (1048576) (gU ⟨a7,br,aw⟩)=-1:=if_neg c_x
  (refine aD ?_;repeat' (refine aC ?_ ?_<;>intro _<;>try simp (disch:=first|assumption|omega) only[S0,rA,rQ,rB,rT,rE,Vaw,lt0,Wbd, *]))
 have e_x:szR (1048576) (gU ⟨a7,br,aw⟩)=1048576-((gU ⟨a7,br,aw⟩:Nat):Int):=if_pos c_x;have a7z:gU ⟨a7,br,aw⟩<=1048576:=by omega
 have y9:gU ⟨a7,br,aw⟩<=1099511627776:=by omega
 have xm:=a7z;rw[Gar]at xm;simp only at xm;have m1_x_reps:szL bA a7<=1099511627776:=by first|omega|(have h:=y9;rw[fQ]at h;exact h)
 have m2_x_reps:ctL Jav a7<=1125899906842624:=by have:=tF (c:=Jav) (f:=bA) (m:=16) (by omega) Hbp a7;omega
 have m1_x_bag:szL bE br<=1099511627776:=by first|omega|(have h:=y9;rw[fQ]at h;exact h)
 have m2_x_bag:ctL Jaw br<=1125899906842624:=by have:=tF (c:=Jaw) (f:=bE) (m:=16) (by omega) Hbq br;omega
 have m1_x_asked:aw.length<=1099511627776:=by first|omega|(have h:=y9;rw[fQ]at h;exact h)
 have m2_x_asked:ctL xX aw<=1125899906842624:=by have:=tF (c:=xX) (f:=(fun _=>0)) (m:=16) (by omega) Yaw aw;simp only[fQ]at *;omega
 have n1:oQ a7:=Zaq (by have:=Gar ⟨a7,br,aw⟩;simp only at this;omega);have n2:Ha6 br:=Zar (by have:=Gar ⟨a7,br,aw⟩;simp only at this;omega)
 have n3:aw.length<=10000000000:=by
  have:=Gar ⟨a7,br,aw⟩;simp only at this;have:=iE (f:=fun _=>0) (xs:=aw);omega
 (refine aD ?_;repeat' (refine aC ?_ ?_<;>intro _<;>try simp (disch:=first|assumption|omega) only[S0,rA,rQ,rB,rT,rE,Vaw,Gbl,Saz,Taw,Gbo,lt0,Wbd, *]))
theorem hpure:∀ ds,WTs [.sl 64 [.int .i64,.int .i64,.sl 24 [.sl 96 [.int .i64,.int .i64,.int .i64,.int .i64,.int .i64,.int .i64,.int .i64,.int .i64,.int .i64,.sl 8 [.int .i64]]],.sl 192 [.int .i64,.int .i64,.int .i64,.int .i64,.int .i64,.int .i64,.int .i64,.int .i64,.int .i64,.int .i64,.sl 8 [.int .i64],.int .i64,.sl 8 [.int .i64],.bool,.sl 8 [.int .i64],.sl 96 [.int .i64,.int .i64,.int .i64,.int .i64,.int .i64,.int .i64,.int .i64,.int .i64,.int .i64,.sl 8 [.int .i64]]]],.sl 136 [.int .i64,.int .i64,.int .i64,.int .i64,.int .i64,.int .i64,.int .i64,.int .i64,.int .i64,.int .i64,.int .i64,.int .i64,.int .i64,.int .i64,.sl 8 [.int .i64]],.sl 56 [.int .i64,.int .i64,.int .i64,.int .i64,.int .i64,.int .i64,.int .i64]] ds->∃ n,kK T n 0 ds=some [.bool true]:=by
 intro ds h;simp only[WTs]at h;obtain⟨d0,r0,rfl,w0,d1,r1,rfl,w1,d2,r2,rfl,w2,rfl⟩:=h;obtain⟨x,e_x,a1u⟩:=Hbj [d0,d1,d2] (by simp only[WTs];exact⟨_,_,rfl,w0,_,_,rfl,w1,_,_,rfl,w2,rfl⟩);simp only[Enc.enc,List.cons.injEq,and_true]at e_x;obtain⟨rfl,rfl,rfl⟩:=e_x;exact Jb2 (law (x.reps) (x.bag) (x.asked) a1u)
end FnExactSafeIn
end Go.Proofs.YtcbkmmhkccnamaaGreat
