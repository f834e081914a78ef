/- What s6 terms of FnExactOrdersAgree come to. -/
import Derived.Test.YtcbkmmhkccnamaaGreatFnExactOrdersAgreeTab
open Bool renaming and_eq_true → Zbd, false_eq_true → Zbg, not_eq_true' → Zb3, or_eq_true → Acp, beq_eq_decide_eq → Ac3, and_true → Bcu, decide_and → Bcw, eq_iff_iff → Bcx, and_assoc → Bc1, not_true → Cca, true_and → Cch, or_false → Cci, and_eq_false_iff → Ccs, or_true → Cct, or_eq_false_iff → Ccz
open Int renaming toNat_natCast → Zb7, toNat_zero → Bcf
open List renaming length_append → Zbi, append_assoc → Zbm, mem_singleton → Zbp, replicate → Zbq, length_cons → Zbs, length_map → Zbt, length_nil → Zby, length_take → Zb1, append_nil → Zb4, length_replicate → Acj, take_length → Acn, nil_append → Aco, length_drop → Acv, drop_eq_getElem_cons → Acy, map_append → Ac8, mem_of_mem_take → Ac9, length_filter_le → Bcb, filter_append → Bcc, length_set → Bce, not_all_eq_any_not → Bcg, drop_zero → Bcl, getElem_of_mem → Bcm, filter_nil → Bcp, filter_cons_of_neg → Bcr, filter_cons_of_pos → Bc9, length_pos_of_mem → Ccd, getElem_take → Ccy, replicate_zero → Cc2
open Nat renaming le_refl → Zbr, lt_or_ge → Zbz, le_trans → Aci, zero_le → Bca
namespace Go.Proofs.YtcbkmmhkccnamaaGreat
namespace FnExactOrdersAgree
open Go Go.Proofs.YtcbkmmhkccnamaaGreat.Rf
open Nat renaming reduceAdd → rA, reduceEqDiff → rQ
open Int renaming reduceBEq → rB, reduceLT → rT, reduceLE → rE
set_option linter.unusedSimpArgs false
set_option linter.unusedVariables false
set_option linter.unnecessarySimpa false
set_option maxHeartbeats 4000000
set_option maxRecDepth 10000
theorem Gav (cR pH eI eC mT:Int):Fun T 22 [i64 cR,i64 pH,i64 eI,i64 eC,i64 mT]=some [i64 cR,i64 pH,i64 eI,i64 eC,i64 mT]:=by
 rw[aO (t:=Qb9) rfl];unfold Qb9
 (refine aD ?_;repeat' (refine aC ?_ ?_<;>intro _<;>try simp (disch:=first|assumption|omega) only[S0,rA,rQ,rB,rT,rE, *]))
theorem Gax (cR pH eI eC mT:Int)(ir vi kd kg qt:Int):Fun T 176 [i64 cR,i64 pH,i64 eI,i64 eC,i64 mT,i64 ir,i64 vi,i64 kd,i64 kg,i64 qt]=some [.bool (decide ((⟨cR,pH,eI,eC,mT⟩:Baa)=⟨ir,vi,kd,kg,qt⟩))]:=by
 rw[aO (t:=Dbe) rfl];unfold Dbe
 have e:decide ((⟨cR,pH,eI,eC,mT⟩:Baa)=⟨ir,vi,kd,kg,qt⟩)=((cR==ir)&&(pH==vi)&&(eI==kd)&&(eC==kg)&&(mT==qt)):=by
  simp only[Baa.mk.injEq,Ac3,Bcw,Bc1]
 rw[e]
 (refine aD ?_;repeat' (refine aC ?_ ?_<;>intro _<;>try simp (disch:=first|assumption|omega) only[S0,rA,rQ,rB,rT,rE, *]))
theorem Iad (xs:(List Int))(l:Int)(h0:0<=l)(h1:l<=1048576)(hw:xs.length<=140737488351232):Fun T 9 [rL xs,i64 l]=some [i64 (szR l (szL (fun _=>0) xs))]:=by
 rw[aO (t:=tm9) rfl];unfold tm9
 have es:szL (fun _=>0) xs=xs.length:=fO;rw[es];by_cases c:(xs.length:Int)<=l
 ·have e:szR l xs.length=l-xs.length:=if_pos c
  have d:decide (l-(xs.length:Int)<0)=false:=by simp;omega
  (refine aD ?_;repeat' (refine aC ?_ ?_<;>intro _<;>try simp (disch:=first|assumption|omega) only[S0,rA,rQ,rB,rT,rE, *]))
 ·have e:szR l xs.length=-1:=if_neg c
  have d:decide (l-(xs.length:Int)<0)=true:=by simp;omega
  (refine aD ?_;repeat' (refine aC ?_ ?_<;>intro _<;>try simp (disch:=first|assumption|omega) only[S0,rA,rQ,rB,rT,rE, *]))
theorem Ibe (xs:(List Int))(hs:szL (fun _=>0) xs<=1048576):Fun T 24 [rL xs]=some [rL xs]:=by
 rw[aO (t:=Qb7) rfl];unfold Qb7
 have hl:xs.length<=1048576:=Aci iB hs;simp (disch:=first|assumption|omega) only[S0,rA,rQ,rB,rT,rE,xU,Zb7, *];rw[Haf xs rfl]
 ·(refine aD ?_;repeat' (refine aC ?_ ?_<;>intro _<;>try simp (disch:=first|assumption|omega) only[S0,rA,rQ,rB,rT,rE, *]))
 ·intro i ys hi hb di fw
  (refine aD ?_;repeat' (refine aC ?_ ?_<;>intro _<;>try simp (disch:=first|assumption|omega) only[S0,rA,rQ,rB,rT,rE,aJ,Bac, *]))
 ·intro ys fw
  (refine aD ?_;repeat' (refine aC ?_ ?_<;>intro _<;>try simp (disch:=first|assumption|omega) only[S0,rA,rQ,rB,rT,rE, *]))
theorem Ibf (xs ys:(List Int))(hs:szL (fun _=>0) xs<=1099511627776):Fun T 178 [rL xs,rL ys]=some [.bool (decide (xs=ys))]:=by
 rw[aO (t:=Dbc) rfl];unfold Dbc
 have hx:xs.length<=1099511627776:=Aci iB hs;by_cases hl:ys.length=xs.length
 ·simp (disch:=first|assumption|omega) only[S0,rA,rQ,rB,rT,rE, *]
  rw[Haz 1 xs.length (fun i=>decide (atI xs i=atI ys i)) [.bool false],uQ hl.symm]
  ·(refine aD ?_;repeat' (refine aC ?_ ?_<;>intro _<;>try simp (disch:=first|assumption|omega) only[S0,rA,rQ,rB,rT,rE, *]))
  ·intro i hi hp
   have hb:InB xs (i:Int):=aH.2 hi;have di:InB ys (i:Int):=aH.2 (by omega);have h2:decide ((i:Int)<xs.length)=true:=by simp;omega
   have h3:(atI xs i==atI ys i)=true:=by simpa using hp
   (refine aD ?_;repeat' (refine aC ?_ ?_<;>intro _<;>try simp (disch:=first|assumption|omega) only[S0,rA,rQ,rB,rT,rE,aJ, *]))
  ·intro i hi hp
   have hb:InB xs (i:Int):=aH.2 hi;have di:InB ys (i:Int):=aH.2 (by omega);have h2:decide ((i:Int)<xs.length)=true:=by simp;omega
   have h3:(atI xs i==atI ys i)=false:=by simpa using hp
   (refine aD ?_;repeat' (refine aC ?_ ?_<;>intro _<;>try simp (disch:=first|assumption|omega) only[S0,rA,rQ,rB,rT,rE,aJ, *]))
  ·have h2:decide ((xs.length:Int)<xs.length)=false:=by simp
   (refine aD ?_;repeat' (refine aC ?_ ?_<;>intro _<;>try simp (disch:=first|assumption|omega) only[S0,rA,rQ,rB,rT,rE, *]))
 ·have fw:((xs.length:Int)==(ys.length:Int))=false:=by simp;omega
  have e:=Ca6 (fun h=>hl h.symm)
  (refine aD ?_;repeat' (refine aC ?_ ?_<;>intro _<;>try simp (disch:=first|assumption|omega) only[S0,rA,rQ,rB,rT,rE, *]))
theorem gF (gr:Int)(cS:(List Int))(l:Int)(h0:0<=l)(h1:l<=1048576)(hw:xY ⟨gr,cS⟩):Fun T 8 [i64 gr,rL cS,i64 l]=some [i64 (szR l (aP ⟨gr,cS⟩))]:=by
 rw[aO (t:=tm8) rfl];unfold tm8
 unfold xY at hw;simp only at hw;have w0:=hw;by_cases c0:((szL (fun _=>0) cS:Nat):Int)<=l
 rotate_left
 ·have e0:szR (l) (szL (fun _=>0) cS)=-1:=if_neg c0
  have d0:decide ((-1:Int)<0)=true:=rfl;have e:szR l (aP ⟨gr,cS⟩)=-1:=by unfold szR aP;simp only[];split<;>omega
  (refine aD ?_;repeat' (refine aC ?_ ?_<;>intro _<;>try simp (disch:=first|assumption|omega) only[S0,rA,rQ,rB,rT,rE,Iad, *]))
 have e0:szR (l) (szL (fun _=>0) cS)=l-(szL (fun _=>0) cS:Nat):=if_pos c0;have d0:decide (l-((szL (fun _=>0) cS:Nat):Int)<0)=false:=by simp;omega
 have e:szR l (aP ⟨gr,cS⟩)=l-((szL (fun _=>0) cS:Nat):Int):=by unfold szR aP;simp only[];split<;>omega
 (refine aD ?_;repeat' (refine aC ?_ ?_<;>intro _<;>try simp (disch:=first|assumption|omega) only[S0,rA,rQ,rB,rT,rE,Iad, *]))
theorem Iac (gr:Int)(cS:(List Int))(hs:aP ⟨gr,cS⟩<=1048576):Fun T 23 [i64 gr,rL cS]=some [i64 gr,rL cS]:=by
 rw[aO (t:=Qb8) rfl];unfold Qb8
 unfold aP at hs;simp only at hs;have s0:szL (fun _=>0) cS<=1048576:=by omega
 (refine aD ?_;repeat' (refine aC ?_ ?_<;>intro _<;>try simp (disch:=first|assumption|omega) only[S0,rA,rQ,rB,rT,rE,Ibe, *]))
theorem Iah (gr:Int)(cS:(List Int))(rh:Int)(oe:(List Int))(hs:aP ⟨gr,cS⟩<=1099511627776):Fun T 177 [i64 gr,rL cS,i64 rh,rL oe]=some [.bool (decide ((⟨gr,cS⟩:fP)=⟨rh,oe⟩))]:=by
 rw[aO (t:=Dbd) rfl];unfold Dbd
 unfold aP at hs;simp only at hs;have s0:szL (fun _=>0) cS<=1099511627776:=by omega
 have e:decide ((⟨gr,cS⟩:fP)=⟨rh,oe⟩)=((gr==rh)&&decide ((cS:(List Int))=oe)):=by
  simp only[fP.mk.injEq,Ac3,Bcw,Bc1]
 rw[e]
 (refine aD ?_;repeat' (refine aC ?_ ?_<;>intro _<;>try simp (disch:=first|assumption|omega) only[S0,rA,rQ,rB,rT,rE,Ibf, *]))
theorem Vae (ar cj bl ae aq aj ah an ab:Int)(aa:(List Int))(l:Int)(h0:0<=l)(h1:l<=1048576)(hw:nZ ⟨ar,cj,bl,⟨ae,aq,aj,ah,an⟩,⟨ab,aa⟩⟩):Fun T 7 [i64 ar,i64 cj,i64 bl,i64 ae,i64 aq,i64 aj,i64 ah,i64 an,i64 ab,rL aa,i64 l]=some [i64 (szR l (aQ ⟨ar,cj,bl,⟨ae,aq,aj,ah,an⟩,⟨ab,aa⟩⟩))]:=by
 rw[aO (t:=tm7) rfl];unfold tm7
 unfold nZ at hw;simp only at hw;have w0:=hw;by_cases c0:((aP ⟨ab,aa⟩:Nat):Int)<=l
 rotate_left
 ·have e0:szR (l) (aP ⟨ab,aa⟩)=-1:=if_neg c0
  have d0:decide ((-1:Int)<0)=true:=rfl;have e:szR l (aQ ⟨ar,cj,bl,⟨ae,aq,aj,ah,an⟩,⟨ab,aa⟩⟩)=-1:=by unfold szR aQ;simp only[];split<;>omega
  (refine aD ?_;repeat' (refine aC ?_ ?_<;>intro _<;>try simp (disch:=first|assumption|omega) only[S0,rA,rQ,rB,rT,rE,gF, *]))
 have e0:szR (l) (aP ⟨ab,aa⟩)=l-(aP ⟨ab,aa⟩:Nat):=if_pos c0;have d0:decide (l-((aP ⟨ab,aa⟩:Nat):Int)<0)=false:=by simp;omega
 have e:szR l (aQ ⟨ar,cj,bl,⟨ae,aq,aj,ah,an⟩,⟨ab,aa⟩⟩)=l-((aP ⟨ab,aa⟩:Nat):Int):=by unfold szR aQ;simp only[];split<;>omega
 (refine aD ?_;repeat' (refine aC ?_ ?_<;>intro _<;>try simp (disch:=first|assumption|omega) only[S0,rA,rQ,rB,rT,rE,gF, *]))
theorem Fb4 (ar cj bl ae aq aj ah an ab:Int)(aa:(List Int))(hs:aQ ⟨ar,cj,bl,⟨ae,aq,aj,ah,an⟩,⟨ab,aa⟩⟩<=1048576):Fun T 21 [i64 ar,i64 cj,i64 bl,i64 ae,i64 aq,i64 aj,i64 ah,i64 an,i64 ab,rL aa]=some [i64 ar,i64 cj,i64 bl,i64 ae,i64 aq,i64 aj,i64 ah,i64 an,i64 ab,rL aa]:=by
 rw[aO (t:=Rba) rfl];unfold Rba
 unfold aQ at hs;simp only at hs;have s0:aP ⟨ab,aa⟩<=1048576:=by omega
 (refine aD ?_;repeat' (refine aC ?_ ?_<;>intro _<;>try simp (disch:=first|assumption|omega) only[S0,rA,rQ,rB,rT,rE,Gav,Iac, *]))
theorem Vai (ar cj bl ae aq aj ah an ab:Int)(aa:(List Int))(db iy gf bm cu bz bw bt cz:Int)(b6:(List Int))(hs:aQ ⟨ar,cj,bl,⟨ae,aq,aj,ah,an⟩,⟨ab,aa⟩⟩<=1099511627776):Fun T 175 [i64 ar,i64 cj,i64 bl,i64 ae,i64 aq,i64 aj,i64 ah,i64 an,i64 ab,rL aa,i64 db,i64 iy,i64 gf,i64 bm,i64 cu,i64 bz,i64 bw,i64 bt,i64 cz,rL b6]=some [.bool (decide ((⟨ar,cj,bl,⟨ae,aq,aj,ah,an⟩,⟨ab,aa⟩⟩:bR)=⟨db,iy,gf,⟨bm,cu,bz,bw,bt⟩,⟨cz,b6⟩⟩))]:=by
 rw[aO (t:=Dbf) rfl];unfold Dbf
 unfold aQ at hs;simp only at hs;have s0:aP ⟨ab,aa⟩<=1099511627776:=by omega
 have e:decide ((⟨ar,cj,bl,⟨ae,aq,aj,ah,an⟩,⟨ab,aa⟩⟩:bR)=⟨db,iy,gf,⟨bm,cu,bz,bw,bt⟩,⟨cz,b6⟩⟩)=((ar==db)&&(cj==iy)&&(bl==gf)&&decide ((⟨ae,aq,aj,ah,an⟩:Baa)=⟨bm,cu,bz,bw,bt⟩)&&decide ((⟨ab,aa⟩:fP)=⟨cz,b6⟩)):=by
  simp only[bR.mk.injEq,Ac3,Bcw,Bc1]
 rw[e]
 (refine aD ?_;repeat' (refine aC ?_ ?_<;>intro _<;>try simp (disch:=first|assumption|omega) only[S0,rA,rQ,rB,rT,rE,Gax,Iah, *]))
theorem oL (xs:(List bR))(l:Int)(h0:0<=l)(h1:l<=1048576)(hw:xs.length<=140737488351232/\∀ y0∈xs,nZ y0):Fun T 6 [rL xs,i64 l]=some [i64 (szR l (szL aQ xs))]:=by
 rw[aO (t:=tm6) rfl];unfold tm6
 obtain⟨hw1,p8⟩:=hw;by_cases c:(xs.length:Int)<=l
 ·have d:decide (l-(xs.length:Int)<0)=false:=by simp;omega
  simp (disch:=first|assumption|omega) only[S0,rA,rQ,rB,rT,rE, *];rw[Oa7 xs aQ (l-xs.length) rfl (by omega) (by omega)]
  ·by_cases hd:((xs.map aQ).sum:Int)<=l-xs.length
   ·have e:szR l (szL aQ xs)=l-xs.length-((xs.map aQ).sum:Nat):=by unfold szR;rw[show (szL aQ xs)=xs.length+(xs.map aQ).sum from rfl,if_pos (by omega)];omega
    rw[decide_eq_true hd]
    (refine aD ?_;repeat' (refine aC ?_ ?_<;>intro _<;>try simp (disch:=first|assumption|omega) only[S0,rA,rQ,rB,rT,rE, *]))
   ·have e:szR l (szL aQ xs)=-1:=by unfold szR;rw[show (szL aQ xs)=xs.length+(xs.map aQ).sum from rfl,if_neg (by omega)]
    rw[decide_eq_false hd]
    (refine aD ?_;repeat' (refine aC ?_ ?_<;>intro _<;>try simp (disch:=first|assumption|omega) only[S0,rA,rQ,rB,rT,rE, *]))
  ·intro i m hi hb hl hm oA hf hr hd
   have hq:=p8 _ (at_mem hi)
   (refine aD ?_;repeat' (refine aC ?_ ?_<;>intro _<;>try simp (disch:=first|assumption|omega) only[S0,rA,rQ,rB,rT,rE,aJ,Vae, *]))
  ·intro i m hi hb hl hm oA hf hr hd
   have hq:=p8 _ (at_mem hi)
   (refine aD ?_;repeat' (refine aC ?_ ?_<;>intro _<;>try simp (disch:=first|assumption|omega) only[S0,rA,rQ,rB,rT,rE,aJ,Vae, *]))
  ·intro m hl
   (refine aD ?_;repeat' (refine aC ?_ ?_<;>intro _<;>try simp (disch:=first|assumption|omega) only[S0,rA,rQ,rB,rT,rE, *]))
 ·have e:szR l (szL aQ xs)=-1:=by unfold szR;rw[show (szL aQ xs)=xs.length+(xs.map aQ).sum from rfl,if_neg (by omega)]
  have d:decide (l-(xs.length:Int)<0)=true:=by simp;omega
  (refine aD ?_;repeat' (refine aC ?_ ?_<;>intro _<;>try simp (disch:=first|assumption|omega) only[S0,rA,rQ,rB,rT,rE, *]))
theorem Qad (xs:(List bR))(hs:szL aQ xs<=1048576):Fun T 20 [rL xs]=some [rL xs]:=by
 rw[aO (t:=Rbb) rfl];unfold Rbb
 have hl:xs.length<=1048576:=Aci iB hs;simp (disch:=first|assumption|omega) only[S0,rA,rQ,rB,rT,rE,xU,Zb7, *];rw[Haf xs rfl]
 ·(refine aD ?_;repeat' (refine aC ?_ ?_<;>intro _<;>try simp (disch:=first|assumption|omega) only[S0,rA,rQ,rB,rT,rE, *]))
 ·intro i ys hi hb di fw
  have hq:aQ (atI xs i)<=1048576:=by
   have:=gP (f:=aQ) (at_mem hi);omega
  (refine aD ?_;repeat' (refine aC ?_ ?_<;>intro _<;>try simp (disch:=first|assumption|omega) only[S0,rA,rQ,rB,rT,rE,aJ,Bac,Fb4, *]))
 ·intro ys fw
  (refine aD ?_;repeat' (refine aC ?_ ?_<;>intro _<;>try simp (disch:=first|assumption|omega) only[S0,rA,rQ,rB,rT,rE, *]))
theorem Iai (xs ys:(List bR))(hs:szL aQ xs<=1099511627776):Fun T 174 [rL xs,rL ys]=some [.bool (decide (xs=ys))]:=by
 rw[aO (t:=Dbg) rfl];unfold Dbg
 have hx:xs.length<=1099511627776:=Aci iB hs;by_cases hl:ys.length=xs.length
 ·simp (disch:=first|assumption|omega) only[S0,rA,rQ,rB,rT,rE, *]
  rw[Haz 1 xs.length (fun i=>decide (atI xs i=atI ys i)) [.bool false],uQ hl.symm]
  ·(refine aD ?_;repeat' (refine aC ?_ ?_<;>intro _<;>try simp (disch:=first|assumption|omega) only[S0,rA,rQ,rB,rT,rE, *]))
  ·intro i hi hp
   have hb:InB xs (i:Int):=aH.2 hi;have di:InB ys (i:Int):=aH.2 (by omega);have h2:decide ((i:Int)<xs.length)=true:=by simp;omega
   have hq:aQ (atI xs i)<=1099511627776:=by
    have:=gP (f:=aQ) (at_mem hi);omega
   (refine aD ?_;repeat' (refine aC ?_ ?_<;>intro _<;>try simp (disch:=first|assumption|omega) only[S0,rA,rQ,rB,rT,rE,aJ,Vai, *]))
  ·intro i hi hp
   have hb:InB xs (i:Int):=aH.2 hi;have di:InB ys (i:Int):=aH.2 (by omega);have h2:decide ((i:Int)<xs.length)=true:=by simp;omega
   have hq:aQ (atI xs i)<=1099511627776:=by
    have:=gP (f:=aQ) (at_mem hi);omega
   (refine aD ?_;repeat' (refine aC ?_ ?_<;>intro _<;>try simp (disch:=first|assumption|omega) only[S0,rA,rQ,rB,rT,rE,aJ,Vai, *]))
  ·have h2:decide ((xs.length:Int)<xs.length)=false:=by simp
   (refine aD ?_;repeat' (refine aC ?_ ?_<;>intro _<;>try simp (disch:=first|assumption|omega) only[S0,rA,rQ,rB,rT,rE, *]))
 ·have fw:((xs.length:Int)==(ys.length:Int))=false:=by simp;omega
  have e:=Ca6 (fun h=>hl h.symm)
  (refine aD ?_;repeat' (refine aC ?_ ?_<;>intro _<;>try simp (disch:=first|assumption|omega) only[S0,rA,rQ,rB,rT,rE, *]))
theorem Law (xs:(List (List bR)))(l:Int)(h0:0<=l)(h1:l<=1048576)(hw:xs.length<=140737488351232/\∀ y0∈xs,y0.length<=140737488351232/\∀ y1∈y0,nZ y1):Fun T 5 [rL xs,i64 l]=some [i64 (szR l (szL (szL aQ) xs))]:=by
 rw[aO (t:=tm5) rfl];unfold tm5
 obtain⟨hw1,p8⟩:=hw;by_cases c:(xs.length:Int)<=l
 ·have d:decide (l-(xs.length:Int)<0)=false:=by simp;omega
  simp (disch:=first|assumption|omega) only[S0,rA,rQ,rB,rT,rE, *];rw[Oa7 xs (szL aQ) (l-xs.length) rfl (by omega) (by omega)]
  ·by_cases hd:((xs.map (szL aQ)).sum:Int)<=l-xs.length
   ·have e:szR l (szL (szL aQ) xs)=l-xs.length-((xs.map (szL aQ)).sum:Nat):=by unfold szR;rw[show (szL (szL aQ) xs)=xs.length+(xs.map (szL aQ)).sum from rfl,if_pos (by omega)];omega
    rw[decide_eq_true hd]
    (refine aD ?_;repeat' (refine aC ?_ ?_<;>intro _<;>try simp (disch:=first|assumption|omega) only[S0,rA,rQ,rB,rT,rE, *]))
   ·have e:szR l (szL (szL aQ) xs)=-1:=by unfold szR;rw[show (szL (szL aQ) xs)=xs.length+(xs.map (szL aQ)).sum from rfl,if_neg (by omega)]
    rw[decide_eq_false hd]
    (refine aD ?_;repeat' (refine aC ?_ ?_<;>intro _<;>try simp (disch:=first|assumption|omega) only[S0,rA,rQ,rB,rT,rE, *]))
  ·intro i m hi hb hl hm oA hf hr hd
   have hq:=p8 _ (at_mem hi)
   (refine aD ?_;repeat' (refine aC ?_ ?_<;>intro _<;>try simp (disch:=first|assumption|omega) only[S0,rA,rQ,rB,rT,rE,aJ,oL, *]))
  ·intro i m hi hb hl hm oA hf hr hd
   have hq:=p8 _ (at_mem hi)
   (refine aD ?_;repeat' (refine aC ?_ ?_<;>intro _<;>try simp (disch:=first|assumption|omega) only[S0,rA,rQ,rB,rT,rE,aJ,oL, *]))
  ·intro m hl
   (refine aD ?_;repeat' (refine aC ?_ ?_<;>intro _<;>try simp (disch:=first|assumption|omega) only[S0,rA,rQ,rB,rT,rE, *]))
 ·have e:szR l (szL (szL aQ) xs)=-1:=by unfold szR;rw[show (szL (szL aQ) xs)=xs.length+(xs.map (szL aQ)).sum from rfl,if_neg (by omega)]
  have d:decide (l-(xs.length:Int)<0)=true:=by simp;omega
  (refine aD ?_;repeat' (refine aC ?_ ?_<;>intro _<;>try simp (disch:=first|assumption|omega) only[S0,rA,rQ,rB,rT,rE, *]))
theorem Xah (xs:(List (List bR)))(hs:szL (szL aQ) xs<=1048576):Fun T 19 [rL xs]=some [rL xs]:=by
 rw[aO (t:=Rbc) rfl];unfold Rbc
 have hl:xs.length<=1048576:=Aci iB hs;simp (disch:=first|assumption|omega) only[S0,rA,rQ,rB,rT,rE,xU,Zb7, *];rw[Haf xs rfl]
 ·(refine aD ?_;repeat' (refine aC ?_ ?_<;>intro _<;>try simp (disch:=first|assumption|omega) only[S0,rA,rQ,rB,rT,rE, *]))
 ·intro i ys hi hb di fw
  have hq:szL aQ (atI xs i)<=1048576:=by
   have:=gP (f:=(szL aQ)) (at_mem hi);omega
  (refine aD ?_;repeat' (refine aC ?_ ?_<;>intro _<;>try simp (disch:=first|assumption|omega) only[S0,rA,rQ,rB,rT,rE,aJ,Bac,Qad, *]))
 ·intro ys fw
  (refine aD ?_;repeat' (refine aC ?_ ?_<;>intro _<;>try simp (disch:=first|assumption|omega) only[S0,rA,rQ,rB,rT,rE, *]))
theorem Xak (xs ys:(List (List bR)))(hs:szL (szL aQ) xs<=1099511627776):Fun T 173 [rL xs,rL ys]=some [.bool (decide (xs=ys))]:=by
 rw[aO (t:=Dbh) rfl];unfold Dbh
 have hx:xs.length<=1099511627776:=Aci iB hs;by_cases hl:ys.length=xs.length
 ·simp (disch:=first|assumption|omega) only[S0,rA,rQ,rB,rT,rE, *]
  rw[Haz 1 xs.length (fun i=>decide (atI xs i=atI ys i)) [.bool false],uQ hl.symm]
  ·(refine aD ?_;repeat' (refine aC ?_ ?_<;>intro _<;>try simp (disch:=first|assumption|omega) only[S0,rA,rQ,rB,rT,rE, *]))
  ·intro i hi hp
   have hb:InB xs (i:Int):=aH.2 hi;have di:InB ys (i:Int):=aH.2 (by omega);have h2:decide ((i:Int)<xs.length)=true:=by simp;omega
   have hq:szL aQ (atI xs i)<=1099511627776:=by
    have:=gP (f:=(szL aQ)) (at_mem hi);omega
   (refine aD ?_;repeat' (refine aC ?_ ?_<;>intro _<;>try simp (disch:=first|assumption|omega) only[S0,rA,rQ,rB,rT,rE,aJ,Iai, *]))
  ·intro i hi hp
   have hb:InB xs (i:Int):=aH.2 hi;have di:InB ys (i:Int):=aH.2 (by omega);have h2:decide ((i:Int)<xs.length)=true:=by simp;omega
   have hq:szL aQ (atI xs i)<=1099511627776:=by
    have:=gP (f:=(szL aQ)) (at_mem hi);omega
   (refine aD ?_;repeat' (refine aC ?_ ?_<;>intro _<;>try simp (disch:=first|assumption|omega) only[S0,rA,rQ,rB,rT,rE,aJ,Iai, *]))
  ·have h2:decide ((xs.length:Int)<xs.length)=false:=by simp
   (refine aD ?_;repeat' (refine aC ?_ ?_<;>intro _<;>try simp (disch:=first|assumption|omega) only[S0,rA,rQ,rB,rT,rE, *]))
 ·have fw:((xs.length:Int)==(ys.length:Int))=false:=by simp;omega
  have e:=Ca6 (fun h=>hl h.symm)
  (refine aD ?_;repeat' (refine aC ?_ ?_<;>intro _<;>try simp (disch:=first|assumption|omega) only[S0,rA,rQ,rB,rT,rE, *]))
theorem Eaa (qf:Int)(cP:(List (List bR)))(l:Int)(h0:0<=l)(h1:l<=1048576)(hw:Ga8 ⟨qf,cP⟩):Fun T 4 [i64 qf,rL cP,i64 l]=some [i64 (szR l (bN ⟨qf,cP⟩))]:=by
 rw[aO (t:=tm4) rfl];unfold tm4
 unfold Ga8 at hw;simp only at hw;have w0:=hw;by_cases c0:((szL (szL aQ) cP:Nat):Int)<=l
 rotate_left
 ·have e0:szR (l) (szL (szL aQ) cP)=-1:=if_neg c0
  have d0:decide ((-1:Int)<0)=true:=rfl;have e:szR l (bN ⟨qf,cP⟩)=-1:=by unfold szR bN;simp only[];split<;>omega
  (refine aD ?_;repeat' (refine aC ?_ ?_<;>intro _<;>try simp (disch:=first|assumption|omega) only[S0,rA,rQ,rB,rT,rE,Law, *]))
 have e0:szR (l) (szL (szL aQ) cP)=l-(szL (szL aQ) cP:Nat):=if_pos c0;have d0:decide (l-((szL (szL aQ) cP:Nat):Int)<0)=false:=by simp;omega
 have e:szR l (bN ⟨qf,cP⟩)=l-((szL (szL aQ) cP:Nat):Int):=by unfold szR bN;simp only[];split<;>omega
 (refine aD ?_;repeat' (refine aC ?_ ?_<;>intro _<;>try simp (disch:=first|assumption|omega) only[S0,rA,rQ,rB,rT,rE,Law, *]))
theorem Xae (qf:Int)(cP:(List (List bR)))(hs:bN ⟨qf,cP⟩<=1048576):Fun T 18 [i64 qf,rL cP]=some [i64 qf,rL cP]:=by
 rw[aO (t:=Rbd) rfl];unfold Rbd
 unfold bN at hs;simp only at hs;have s0:szL (szL aQ) cP<=1048576:=by omega
 (refine aD ?_;repeat' (refine aC ?_ ?_<;>intro _<;>try simp (disch:=first|assumption|omega) only[S0,rA,rQ,rB,rT,rE,Xah, *]))
theorem Xai (qf:Int)(cP:(List (List bR)))(y_n:Int)(oq:(List (List bR)))(hs:bN ⟨qf,cP⟩<=1099511627776):Fun T 172 [i64 qf,rL cP,i64 y_n,rL oq]=some [.bool (decide ((⟨qf,cP⟩:aM)=⟨y_n,oq⟩))]:=by
 rw[aO (t:=Dbi) rfl];unfold Dbi
 unfold bN at hs;simp only at hs;have s0:szL (szL aQ) cP<=1099511627776:=by omega
 have e:decide ((⟨qf,cP⟩:aM)=⟨y_n,oq⟩)=((qf==y_n)&&decide ((cP:(List (List bR)))=oq)):=by
  simp only[aM.mk.injEq,Ac3,Bcw,Bc1]
 rw[e]
 (refine aD ?_;repeat' (refine aC ?_ ?_<;>intro _<;>try simp (disch:=first|assumption|omega) only[S0,rA,rQ,rB,rT,rE,Xak, *]))
theorem Qae (cd du ar cX ae aq aj ah an ao:Int)(af:(List Int))(ab:Int)(aa:(List Int))(ez:Bool)(cT:(List Int))(cD:(List bR))(l:Int)(h0:0<=l)(h1:l<=1048576)(hw:xX ⟨cd,du,ar,cX,⟨ae,aq,aj,ah,an⟩,⟨ao,af⟩,⟨ab,aa⟩,ez,cT,cD⟩):Fun T 11 [i64 cd,i64 du,i64 ar,i64 cX,i64 ae,i64 aq,i64 aj,i64 ah,i64 an,i64 ao,rL af,i64 ab,rL aa,.bool ez,rL cT,rL cD,i64 l]=some [i64 (szR l (aV ⟨cd,du,ar,cX,⟨ae,aq,aj,ah,an⟩,⟨ao,af⟩,⟨ab,aa⟩,ez,cT,cD⟩))]:=by
 rw[aO (t:=Rbk) rfl];unfold Rbk
 unfold xX at hw;simp only at hw;obtain⟨w0,w1,w2,w3⟩:=hw;by_cases c0:((aP ⟨ao,af⟩:Nat):Int)<=l
 rotate_left
 ·have e0:szR (l) (aP ⟨ao,af⟩)=-1:=if_neg c0
  have d0:decide ((-1:Int)<0)=true:=rfl;have e:szR l (aV ⟨cd,du,ar,cX,⟨ae,aq,aj,ah,an⟩,⟨ao,af⟩,⟨ab,aa⟩,ez,cT,cD⟩)=-1:=by unfold szR aV;simp only[];split<;>omega
  (refine aD ?_;repeat' (refine aC ?_ ?_<;>intro _<;>try simp (disch:=first|assumption|omega) only[S0,rA,rQ,rB,rT,rE,gF,gF,Iad,oL, *]))
 have e0:szR (l) (aP ⟨ao,af⟩)=l-(aP ⟨ao,af⟩:Nat):=if_pos c0;have d0:decide (l-((aP ⟨ao,af⟩:Nat):Int)<0)=false:=by simp;omega
 by_cases c1:((aP ⟨ab,aa⟩:Nat):Int)<=l-((aP ⟨ao,af⟩:Nat):Int)
 rotate_left
 ·have e1:szR (l-((aP ⟨ao,af⟩:Nat):Int)) (aP ⟨ab,aa⟩)=-1:=if_neg c1
  have d1:decide ((-1:Int)<0)=true:=rfl;have e:szR l (aV ⟨cd,du,ar,cX,⟨ae,aq,aj,ah,an⟩,⟨ao,af⟩,⟨ab,aa⟩,ez,cT,cD⟩)=-1:=by unfold szR aV;simp only[];split<;>omega
  (refine aD ?_;repeat' (refine aC ?_ ?_<;>intro _<;>try simp (disch:=first|assumption|omega) only[S0,rA,rQ,rB,rT,rE,gF,gF,Iad,oL, *]))
 have e1:szR (l-((aP ⟨ao,af⟩:Nat):Int)) (aP ⟨ab,aa⟩)=l-((aP ⟨ao,af⟩:Nat):Int)-(aP ⟨ab,aa⟩:Nat):=if_pos c1;have d1:decide (l-((aP ⟨ao,af⟩:Nat):Int)-((aP ⟨ab,aa⟩:Nat):Int)<0)=false:=by simp;omega
 by_cases c2:((szL (fun _=>0) cT:Nat):Int)<=l-((aP ⟨ao,af⟩:Nat):Int)-((aP ⟨ab,aa⟩:Nat):Int)
 rotate_left
 ·have e2:szR (l-((aP ⟨ao,af⟩:Nat):Int)-((aP ⟨ab,aa⟩:Nat):Int)) (szL (fun _=>0) cT)=-1:=if_neg c2
  have d2:decide ((-1:Int)<0)=true:=rfl;have e:szR l (aV ⟨cd,du,ar,cX,⟨ae,aq,aj,ah,an⟩,⟨ao,af⟩,⟨ab,aa⟩,ez,cT,cD⟩)=-1:=by unfold szR aV;simp only[];split<;>omega
  (refine aD ?_;repeat' (refine aC ?_ ?_<;>intro _<;>try simp (disch:=first|assumption|omega) only[S0,rA,rQ,rB,rT,rE,gF,gF,Iad,oL, *]))
 have e2:szR (l-((aP ⟨ao,af⟩:Nat):Int)-((aP ⟨ab,aa⟩:Nat):Int)) (szL (fun _=>0) cT)=l-((aP ⟨ao,af⟩:Nat):Int)-((aP ⟨ab,aa⟩:Nat):Int)-(szL (fun _=>0) cT:Nat):=if_pos c2;have d2:decide (l-((aP ⟨ao,af⟩:Nat):Int)-((aP ⟨ab,aa⟩:Nat):Int)-((szL (fun _=>0) cT:Nat):Int)<0)=false:=by simp;omega
 by_cases c3:((szL aQ cD:Nat):Int)<=l-((aP ⟨ao,af⟩:Nat):Int)-((aP ⟨ab,aa⟩:Nat):Int)-((szL (fun _=>0) cT:Nat):Int)
 rotate_left
 ·have e3:szR (l-((aP ⟨ao,af⟩:Nat):Int)-((aP ⟨ab,aa⟩:Nat):Int)-((szL (fun _=>0) cT:Nat):Int)) (szL aQ cD)=-1:=if_neg c3
  have d3:decide ((-1:Int)<0)=true:=rfl;have e:szR l (aV ⟨cd,du,ar,cX,⟨ae,aq,aj,ah,an⟩,⟨ao,af⟩,⟨ab,aa⟩,ez,cT,cD⟩)=-1:=by unfold szR aV;simp only[];split<;>omega
  (refine aD ?_;repeat' (refine aC ?_ ?_<;>intro _<;>try simp (disch:=first|assumption|omega) only[S0,rA,rQ,rB,rT,rE,gF,gF,Iad,oL, *]))
 have e3:szR (l-((aP ⟨ao,af⟩:Nat):Int)-((aP ⟨ab,aa⟩:Nat):Int)-((szL (fun _=>0) cT:Nat):Int)) (szL aQ cD)=l-((aP ⟨ao,af⟩:Nat):Int)-((aP ⟨ab,aa⟩:Nat):Int)-((szL (fun _=>0) cT:Nat):Int)-(szL aQ cD:Nat):=if_pos c3;have d3:decide (l-((aP ⟨ao,af⟩:Nat):Int)-((aP ⟨ab,aa⟩:Nat):Int)-((szL (fun _=>0) cT:Nat):Int)-((szL aQ cD:Nat):Int)<0)=false:=by simp;omega
 have e:szR l (aV ⟨cd,du,ar,cX,⟨ae,aq,aj,ah,an⟩,⟨ao,af⟩,⟨ab,aa⟩,ez,cT,cD⟩)=l-((aP ⟨ao,af⟩:Nat):Int)-((aP ⟨ab,aa⟩:Nat):Int)-((szL (fun _=>0) cT:Nat):Int)-((szL aQ cD:Nat):Int):=by unfold szR aV;simp only[];split<;>omega
 (refine aD ?_;repeat' (refine aC ?_ ?_<;>intro _<;>try simp (disch:=first|assumption|omega) only[S0,rA,rQ,rB,rT,rE,gF,gF,Iad,oL, *]))
theorem Abb (cd du ar cX ae aq aj ah an ao:Int)(af:(List Int))(ab:Int)(aa:(List Int))(ez:Bool)(cT:(List Int))(cD:(List bR))(hs:aV ⟨cd,du,ar,cX,⟨ae,aq,aj,ah,an⟩,⟨ao,af⟩,⟨ab,aa⟩,ez,cT,cD⟩<=1048576):Fun T 26 [i64 cd,i64 du,i64 ar,i64 cX,i64 ae,i64 aq,i64 aj,i64 ah,i64 an,i64 ao,rL af,i64 ab,rL aa,.bool ez,rL cT,rL cD]=some [i64 cd,i64 du,i64 ar,i64 cX,i64 ae,i64 aq,i64 aj,i64 ah,i64 an,i64 ao,rL af,i64 ab,rL aa,.bool ez,rL cT,rL cD]:=by
 rw[aO (t:=Qb5) rfl];unfold Qb5
 unfold aV at hs;simp only at hs;have s0:aP ⟨ao,af⟩<=1048576:=by omega
 have s1:aP ⟨ab,aa⟩<=1048576:=by omega
 have s2:szL (fun _=>0) cT<=1048576:=by omega
 have s3:szL aQ cD<=1048576:=by omega
 (refine aD ?_;repeat' (refine aC ?_ ?_<;>intro _<;>try simp (disch:=first|assumption|omega) only[S0,rA,rQ,rB,rT,rE,Gav,Iac,Ibe,Qad, *]))
theorem Qag (cd du ar cX ae aq aj ah an ao:Int)(af:(List Int))(ab:Int)(aa:(List Int))(ez:Bool)(cT:(List Int))(cD:(List bR))(gx kt db lP bm cu bz bw bt gA:Int)(ga:(List Int))(cz:Int)(b6:(List Int))(ob:Bool)(q9:(List Int))(oo:(List bR))(hs:aV ⟨cd,du,ar,cX,⟨ae,aq,aj,ah,an⟩,⟨ao,af⟩,⟨ab,aa⟩,ez,cT,cD⟩<=1099511627776):Fun T 180 [i64 cd,i64 du,i64 ar,i64 cX,i64 ae,i64 aq,i64 aj,i64 ah,i64 an,i64 ao,rL af,i64 ab,rL aa,.bool ez,rL cT,rL cD,i64 gx,i64 kt,i64 db,i64 lP,i64 bm,i64 cu,i64 bz,i64 bw,i64 bt,i64 gA,rL ga,i64 cz,rL b6,.bool ob,rL q9,rL oo]=some [.bool (decide ((⟨cd,du,ar,cX,⟨ae,aq,aj,ah,an⟩,⟨ao,af⟩,⟨ab,aa⟩,ez,cT,cD⟩:gY)=⟨gx,kt,db,lP,⟨bm,cu,bz,bw,bt⟩,⟨gA,ga⟩,⟨cz,b6⟩,ob,q9,oo⟩))]:=by
 rw[aO (t:=Dba) rfl];unfold Dba
 unfold aV at hs;simp only at hs;have s0:aP ⟨ao,af⟩<=1099511627776:=by omega
 have s1:aP ⟨ab,aa⟩<=1099511627776:=by omega
 have s2:szL (fun _=>0) cT<=1099511627776:=by omega
 have s3:szL aQ cD<=1099511627776:=by omega
 have e:decide ((⟨cd,du,ar,cX,⟨ae,aq,aj,ah,an⟩,⟨ao,af⟩,⟨ab,aa⟩,ez,cT,cD⟩:gY)=⟨gx,kt,db,lP,⟨bm,cu,bz,bw,bt⟩,⟨gA,ga⟩,⟨cz,b6⟩,ob,q9,oo⟩)=((cd==gx)&&(du==kt)&&(ar==db)&&(cX==lP)&&decide ((⟨ae,aq,aj,ah,an⟩:Baa)=⟨bm,cu,bz,bw,bt⟩)&&decide ((⟨ao,af⟩:fP)=⟨gA,ga⟩)&&decide ((⟨ab,aa⟩:fP)=⟨cz,b6⟩)&&(ez==ob)&&decide ((cT:(List Int))=q9)&&decide ((cD:(List bR))=oo)):=by
  simp only[gY.mk.injEq,Ac3,Bcw,Bc1]
 rw[e]
 (refine aD ?_;repeat' (refine aC ?_ ?_<;>intro _<;>try simp (disch:=first|assumption|omega) only[S0,rA,rQ,rB,rT,rE,Gax,Iah,Ibf,Iai, *]))
theorem Eab (xs:(List gY))(l:Int)(h0:0<=l)(h1:l<=1048576)(hw:xs.length<=140737488351232/\∀ y0∈xs,xX y0):Fun T 10 [rL xs,i64 l]=some [i64 (szR l (szL aV xs))]:=by
 rw[aO (t:=Rbl) rfl];unfold Rbl
 obtain⟨hw1,p8⟩:=hw;by_cases c:(xs.length:Int)<=l
 ·have d:decide (l-(xs.length:Int)<0)=false:=by simp;omega
  simp (disch:=first|assumption|omega) only[S0,rA,rQ,rB,rT,rE, *];rw[Oa7 xs aV (l-xs.length) rfl (by omega) (by omega)]
  ·by_cases hd:((xs.map aV).sum:Int)<=l-xs.length
   ·have e:szR l (szL aV xs)=l-xs.length-((xs.map aV).sum:Nat):=by unfold szR;rw[show (szL aV xs)=xs.length+(xs.map aV).sum from rfl,if_pos (by omega)];omega
    rw[decide_eq_true hd]
    (refine aD ?_;repeat' (refine aC ?_ ?_<;>intro _<;>try simp (disch:=first|assumption|omega) only[S0,rA,rQ,rB,rT,rE, *]))
   ·have e:szR l (szL aV xs)=-1:=by unfold szR;rw[show (szL aV xs)=xs.length+(xs.map aV).sum from rfl,if_neg (by omega)]
    rw[decide_eq_false hd]
    (refine aD ?_;repeat' (refine aC ?_ ?_<;>intro _<;>try simp (disch:=first|assumption|omega) only[S0,rA,rQ,rB,rT,rE, *]))
  ·intro i m hi hb hl hm oA hf hr hd
   have hq:=p8 _ (at_mem hi)
   (refine aD ?_;repeat' (refine aC ?_ ?_<;>intro _<;>try simp (disch:=first|assumption|omega) only[S0,rA,rQ,rB,rT,rE,aJ,Qae, *]))
  ·intro i m hi hb hl hm oA hf hr hd
   have hq:=p8 _ (at_mem hi)
   (refine aD ?_;repeat' (refine aC ?_ ?_<;>intro _<;>try simp (disch:=first|assumption|omega) only[S0,rA,rQ,rB,rT,rE,aJ,Qae, *]))
  ·intro m hl
   (refine aD ?_;repeat' (refine aC ?_ ?_<;>intro _<;>try simp (disch:=first|assumption|omega) only[S0,rA,rQ,rB,rT,rE, *]))
 ·have e:szR l (szL aV xs)=-1:=by unfold szR;rw[show (szL aV xs)=xs.length+(xs.map aV).sum from rfl,if_neg (by omega)]
  have d:decide (l-(xs.length:Int)<0)=true:=by simp;omega
  (refine aD ?_;repeat' (refine aC ?_ ?_<;>intro _<;>try simp (disch:=first|assumption|omega) only[S0,rA,rQ,rB,rT,rE, *]))
theorem Xag (xs:(List gY))(hs:szL aV xs<=1048576):Fun T 25 [rL xs]=some [rL xs]:=by
 rw[aO (t:=Qb6) rfl];unfold Qb6
 have hl:xs.length<=1048576:=Aci iB hs;simp (disch:=first|assumption|omega) only[S0,rA,rQ,rB,rT,rE,xU,Zb7, *];rw[Haf xs rfl]
 ·(refine aD ?_;repeat' (refine aC ?_ ?_<;>intro _<;>try simp (disch:=first|assumption|omega) only[S0,rA,rQ,rB,rT,rE, *]))
 ·intro i ys hi hb di fw
  have hq:aV (atI xs i)<=1048576:=by
   have:=gP (f:=aV) (at_mem hi);omega
  (refine aD ?_;repeat' (refine aC ?_ ?_<;>intro _<;>try simp (disch:=first|assumption|omega) only[S0,rA,rQ,rB,rT,rE,aJ,Bac,Abb, *]))
 ·intro ys fw
  (refine aD ?_;repeat' (refine aC ?_ ?_<;>intro _<;>try simp (disch:=first|assumption|omega) only[S0,rA,rQ,rB,rT,rE, *]))
theorem Xaj (xs ys:(List gY))(hs:szL aV xs<=1099511627776):Fun T 179 [rL xs,rL ys]=some [.bool (decide (xs=ys))]:=by
 rw[aO (t:=Dbb) rfl];unfold Dbb
 have hx:xs.length<=1099511627776:=Aci iB hs;by_cases hl:ys.length=xs.length
 ·simp (disch:=first|assumption|omega) only[S0,rA,rQ,rB,rT,rE, *]
  rw[Haz 1 xs.length (fun i=>decide (atI xs i=atI ys i)) [.bool false],uQ hl.symm]
  ·(refine aD ?_;repeat' (refine aC ?_ ?_<;>intro _<;>try simp (disch:=first|assumption|omega) only[S0,rA,rQ,rB,rT,rE, *]))
  ·intro i hi hp
   have hb:InB xs (i:Int):=aH.2 hi;have di:InB ys (i:Int):=aH.2 (by omega);have h2:decide ((i:Int)<xs.length)=true:=by simp;omega
   have hq:aV (atI xs i)<=1099511627776:=by
    have:=gP (f:=aV) (at_mem hi);omega
   (refine aD ?_;repeat' (refine aC ?_ ?_<;>intro _<;>try simp (disch:=first|assumption|omega) only[S0,rA,rQ,rB,rT,rE,aJ,Qag, *]))
  ·intro i hi hp
   have hb:InB xs (i:Int):=aH.2 hi;have di:InB ys (i:Int):=aH.2 (by omega);have h2:decide ((i:Int)<xs.length)=true:=by simp;omega
   have hq:aV (atI xs i)<=1099511627776:=by
    have:=gP (f:=aV) (at_mem hi);omega
   (refine aD ?_;repeat' (refine aC ?_ ?_<;>intro _<;>try simp (disch:=first|assumption|omega) only[S0,rA,rQ,rB,rT,rE,aJ,Qag, *]))
  ·have h2:decide ((xs.length:Int)<xs.length)=false:=by simp
   (refine aD ?_;repeat' (refine aC ?_ ?_<;>intro _<;>try simp (disch:=first|assumption|omega) only[S0,rA,rQ,rB,rT,rE, *]))
 ·have fw:((xs.length:Int)==(ys.length:Int))=false:=by simp;omega
  have e:=Ca6 (fun h=>hl h.symm)
  (refine aD ?_;repeat' (refine aC ?_ ?_<;>intro _<;>try simp (disch:=first|assumption|omega) only[S0,rA,rQ,rB,rT,rE, *]))
theorem Vaf (ju az:Int)(au:(List (List bR)))(cn:(List gY))(l:Int)(h0:0<=l)(h1:l<=1048576)(hw:Das ⟨ju,⟨az,au⟩,cn⟩):Fun T 3 [i64 ju,i64 az,rL au,rL cn,i64 l]=some [i64 (szR l (aZ ⟨ju,⟨az,au⟩,cn⟩))]:=by
 rw[aO (t:=tm3) rfl];unfold tm3
 unfold Das at hw;simp only at hw;obtain⟨w0,w1⟩:=hw;by_cases c0:((bN ⟨az,au⟩:Nat):Int)<=l
 rotate_left
 ·have e0:szR (l) (bN ⟨az,au⟩)=-1:=if_neg c0
  have d0:decide ((-1:Int)<0)=true:=rfl;have e:szR l (aZ ⟨ju,⟨az,au⟩,cn⟩)=-1:=by unfold szR aZ;simp only[];split<;>omega
  (refine aD ?_;repeat' (refine aC ?_ ?_<;>intro _<;>try simp (disch:=first|assumption|omega) only[S0,rA,rQ,rB,rT,rE,Eaa,Eab, *]))
 have e0:szR (l) (bN ⟨az,au⟩)=l-(bN ⟨az,au⟩:Nat):=if_pos c0;have d0:decide (l-((bN ⟨az,au⟩:Nat):Int)<0)=false:=by simp;omega
 by_cases c1:((szL aV cn:Nat):Int)<=l-((bN ⟨az,au⟩:Nat):Int)
 rotate_left
 ·have e1:szR (l-((bN ⟨az,au⟩:Nat):Int)) (szL aV cn)=-1:=if_neg c1
  have d1:decide ((-1:Int)<0)=true:=rfl;have e:szR l (aZ ⟨ju,⟨az,au⟩,cn⟩)=-1:=by unfold szR aZ;simp only[];split<;>omega
  (refine aD ?_;repeat' (refine aC ?_ ?_<;>intro _<;>try simp (disch:=first|assumption|omega) only[S0,rA,rQ,rB,rT,rE,Eaa,Eab, *]))
 have e1:szR (l-((bN ⟨az,au⟩:Nat):Int)) (szL aV cn)=l-((bN ⟨az,au⟩:Nat):Int)-(szL aV cn:Nat):=if_pos c1;have d1:decide (l-((bN ⟨az,au⟩:Nat):Int)-((szL aV cn:Nat):Int)<0)=false:=by simp;omega
 have e:szR l (aZ ⟨ju,⟨az,au⟩,cn⟩)=l-((bN ⟨az,au⟩:Nat):Int)-((szL aV cn:Nat):Int):=by unfold szR aZ;simp only[];split<;>omega
 (refine aD ?_;repeat' (refine aC ?_ ?_<;>intro _<;>try simp (disch:=first|assumption|omega) only[S0,rA,rQ,rB,rT,rE,Eaa,Eab, *]))
theorem Fb5 (ju az:Int)(au:(List (List bR)))(cn:(List gY))(hs:aZ ⟨ju,⟨az,au⟩,cn⟩<=1048576):Fun T 17 [i64 ju,i64 az,rL au,rL cn]=some [i64 ju,i64 az,rL au,rL cn]:=by
 rw[aO (t:=Rbe) rfl];unfold Rbe
 unfold aZ at hs;simp only at hs;have s0:bN ⟨az,au⟩<=1048576:=by omega
 have s1:szL aV cn<=1048576:=by omega
 (refine aD ?_;repeat' (refine aC ?_ ?_<;>intro _<;>try simp (disch:=first|assumption|omega) only[S0,rA,rQ,rB,rT,rE,Xae,Xag, *]))
theorem Vaj (ju az:Int)(au:(List (List bR)))(cn:(List gY))(vf jn:Int)(fY:(List (List bR)))(mg:(List gY))(hs:aZ ⟨ju,⟨az,au⟩,cn⟩<=1099511627776):Fun T 171 [i64 ju,i64 az,rL au,rL cn,i64 vf,i64 jn,rL fY,rL mg]=some [.bool (decide ((⟨ju,⟨az,au⟩,cn⟩:nY)=⟨vf,⟨jn,fY⟩,mg⟩))]:=by
 rw[aO (t:=Dbj) rfl];unfold Dbj
 unfold aZ at hs;simp only at hs;have s0:bN ⟨az,au⟩<=1099511627776:=by omega
 have s1:szL aV cn<=1099511627776:=by omega
 have e:decide ((⟨ju,⟨az,au⟩,cn⟩:nY)=⟨vf,⟨jn,fY⟩,mg⟩)=((ju==vf)&&decide ((⟨az,au⟩:aM)=⟨jn,fY⟩)&&decide ((cn:(List gY))=mg)):=by
  simp only[nY.mk.injEq,Ac3,Bcw,Bc1]
 rw[e]
 (refine aD ?_;repeat' (refine aC ?_ ?_<;>intro _<;>try simp (disch:=first|assumption|omega) only[S0,rA,rQ,rB,rT,rE,Xai,Xaj, *]))
theorem Cae (xs:(List nY))(l:Int)(h0:0<=l)(h1:l<=1048576)(hw:xs.length<=140737488351232/\∀ y0∈xs,Das y0):Fun T 2 [rL xs,i64 l]=some [i64 (szR l (szL aZ xs))]:=by
 rw[aO (t:=tm2) rfl];unfold tm2
 obtain⟨hw1,p8⟩:=hw;by_cases c:(xs.length:Int)<=l
 ·have d:decide (l-(xs.length:Int)<0)=false:=by simp;omega
  simp (disch:=first|assumption|omega) only[S0,rA,rQ,rB,rT,rE, *];rw[Oa7 xs aZ (l-xs.length) rfl (by omega) (by omega)]
  ·by_cases hd:((xs.map aZ).sum:Int)<=l-xs.length
   ·have e:szR l (szL aZ xs)=l-xs.length-((xs.map aZ).sum:Nat):=by unfold szR;rw[show (szL aZ xs)=xs.length+(xs.map aZ).sum from rfl,if_pos (by omega)];omega
    rw[decide_eq_true hd]
    (refine aD ?_;repeat' (refine aC ?_ ?_<;>intro _<;>try simp (disch:=first|assumption|omega) only[S0,rA,rQ,rB,rT,rE, *]))
   ·have e:szR l (szL aZ xs)=-1:=by unfold szR;rw[show (szL aZ xs)=xs.length+(xs.map aZ).sum from rfl,if_neg (by omega)]
    rw[decide_eq_false hd]
    (refine aD ?_;repeat' (refine aC ?_ ?_<;>intro _<;>try simp (disch:=first|assumption|omega) only[S0,rA,rQ,rB,rT,rE, *]))
  ·intro i m hi hb hl hm oA hf hr hd
   have hq:=p8 _ (at_mem hi)
   (refine aD ?_;repeat' (refine aC ?_ ?_<;>intro _<;>try simp (disch:=first|assumption|omega) only[S0,rA,rQ,rB,rT,rE,aJ,Vaf, *]))
  ·intro i m hi hb hl hm oA hf hr hd
   have hq:=p8 _ (at_mem hi)
   (refine aD ?_;repeat' (refine aC ?_ ?_<;>intro _<;>try simp (disch:=first|assumption|omega) only[S0,rA,rQ,rB,rT,rE,aJ,Vaf, *]))
  ·intro m hl
   (refine aD ?_;repeat' (refine aC ?_ ?_<;>intro _<;>try simp (disch:=first|assumption|omega) only[S0,rA,rQ,rB,rT,rE, *]))
 ·have e:szR l (szL aZ xs)=-1:=by unfold szR;rw[show (szL aZ xs)=xs.length+(xs.map aZ).sum from rfl,if_neg (by omega)]
  have d:decide (l-(xs.length:Int)<0)=true:=by simp;omega
  (refine aD ?_;repeat' (refine aC ?_ ?_<;>intro _<;>try simp (disch:=first|assumption|omega) only[S0,rA,rQ,rB,rT,rE, *]))
theorem Abc (xs:(List nY))(hs:szL aZ xs<=1048576):Fun T 16 [rL xs]=some [rL xs]:=by
 rw[aO (t:=Rbf) rfl];unfold Rbf
 have hl:xs.length<=1048576:=Aci iB hs;simp (disch:=first|assumption|omega) only[S0,rA,rQ,rB,rT,rE,xU,Zb7, *];rw[Haf xs rfl]
 ·(refine aD ?_;repeat' (refine aC ?_ ?_<;>intro _<;>try simp (disch:=first|assumption|omega) only[S0,rA,rQ,rB,rT,rE, *]))
 ·intro i ys hi hb di fw
  have hq:aZ (atI xs i)<=1048576:=by
   have:=gP (f:=aZ) (at_mem hi);omega
  (refine aD ?_;repeat' (refine aC ?_ ?_<;>intro _<;>try simp (disch:=first|assumption|omega) only[S0,rA,rQ,rB,rT,rE,aJ,Bac,Fb5, *]))
 ·intro ys fw
  (refine aD ?_;repeat' (refine aC ?_ ?_<;>intro _<;>try simp (disch:=first|assumption|omega) only[S0,rA,rQ,rB,rT,rE, *]))
theorem Abh (xs ys:(List nY))(hs:szL aZ xs<=1099511627776):Fun T 170 [rL xs,rL ys]=some [.bool (decide (xs=ys))]:=by
 rw[aO (t:=Dbk) rfl];unfold Dbk
 have hx:xs.length<=1099511627776:=Aci iB hs;by_cases hl:ys.length=xs.length
 ·simp (disch:=first|assumption|omega) only[S0,rA,rQ,rB,rT,rE, *]
  rw[Haz 1 xs.length (fun i=>decide (atI xs i=atI ys i)) [.bool false],uQ hl.symm]
  ·(refine aD ?_;repeat' (refine aC ?_ ?_<;>intro _<;>try simp (disch:=first|assumption|omega) only[S0,rA,rQ,rB,rT,rE, *]))
  ·intro i hi hp
   have hb:InB xs (i:Int):=aH.2 hi;have di:InB ys (i:Int):=aH.2 (by omega);have h2:decide ((i:Int)<xs.length)=true:=by simp;omega
   have hq:aZ (atI xs i)<=1099511627776:=by
    have:=gP (f:=aZ) (at_mem hi);omega
   (refine aD ?_;repeat' (refine aC ?_ ?_<;>intro _<;>try simp (disch:=first|assumption|omega) only[S0,rA,rQ,rB,rT,rE,aJ,Vaj, *]))
  ·intro i hi hp
   have hb:InB xs (i:Int):=aH.2 hi;have di:InB ys (i:Int):=aH.2 (by omega);have h2:decide ((i:Int)<xs.length)=true:=by simp;omega
   have hq:aZ (atI xs i)<=1099511627776:=by
    have:=gP (f:=aZ) (at_mem hi);omega
   (refine aD ?_;repeat' (refine aC ?_ ?_<;>intro _<;>try simp (disch:=first|assumption|omega) only[S0,rA,rQ,rB,rT,rE,aJ,Vaj, *]))
  ·have h2:decide ((xs.length:Int)<xs.length)=false:=by simp
   (refine aD ?_;repeat' (refine aC ?_ ?_<;>intro _<;>try simp (disch:=first|assumption|omega) only[S0,rA,rQ,rB,rT,rE, *]))
 ·have fw:((xs.length:Int)==(ys.length:Int))=false:=by simp;omega
  have e:=Ca6 (fun h=>hl h.symm)
  (refine aD ?_;repeat' (refine aC ?_ ?_<;>intro _<;>try simp (disch:=first|assumption|omega) only[S0,rA,rQ,rB,rT,rE, *]))
theorem Vah (cR eI eC cd du ar cj bl ae aq aj ah an ab:Int)(aa:(List Int))(l:Int)(h0:0<=l)(h1:l<=1048576)(hw:Dau ⟨cR,eI,eC,cd,du,ar,cj,bl,⟨ae,aq,aj,ah,an⟩,⟨ab,aa⟩⟩):Fun T 13 [i64 cR,i64 eI,i64 eC,i64 cd,i64 du,i64 ar,i64 cj,i64 bl,i64 ae,i64 aq,i64 aj,i64 ah,i64 an,i64 ab,rL aa,i64 l]=some [i64 (szR l (bE ⟨cR,eI,eC,cd,du,ar,cj,bl,⟨ae,aq,aj,ah,an⟩,⟨ab,aa⟩⟩))]:=by
 rw[aO (t:=Rbi) rfl];unfold Rbi
 unfold Dau at hw;simp only at hw;have w0:=hw;by_cases c0:((aP ⟨ab,aa⟩:Nat):Int)<=l
 rotate_left
 ·have e0:szR (l) (aP ⟨ab,aa⟩)=-1:=if_neg c0
  have d0:decide ((-1:Int)<0)=true:=rfl;have e:szR l (bE ⟨cR,eI,eC,cd,du,ar,cj,bl,⟨ae,aq,aj,ah,an⟩,⟨ab,aa⟩⟩)=-1:=by unfold szR bE;simp only[];split<;>omega
  (refine aD ?_;repeat' (refine aC ?_ ?_<;>intro _<;>try simp (disch:=first|assumption|omega) only[S0,rA,rQ,rB,rT,rE,gF, *]))
 have e0:szR (l) (aP ⟨ab,aa⟩)=l-(aP ⟨ab,aa⟩:Nat):=if_pos c0;have d0:decide (l-((aP ⟨ab,aa⟩:Nat):Int)<0)=false:=by simp;omega
 have e:szR l (bE ⟨cR,eI,eC,cd,du,ar,cj,bl,⟨ae,aq,aj,ah,an⟩,⟨ab,aa⟩⟩)=l-((aP ⟨ab,aa⟩:Nat):Int):=by unfold szR bE;simp only[];split<;>omega
 (refine aD ?_;repeat' (refine aC ?_ ?_<;>intro _<;>try simp (disch:=first|assumption|omega) only[S0,rA,rQ,rB,rT,rE,gF, *]))
theorem Fb7 (cR eI eC cd du ar cj bl ae aq aj ah an ab:Int)(aa:(List Int))(hs:bE ⟨cR,eI,eC,cd,du,ar,cj,bl,⟨ae,aq,aj,ah,an⟩,⟨ab,aa⟩⟩<=1048576):Fun T 28 [i64 cR,i64 eI,i64 eC,i64 cd,i64 du,i64 ar,i64 cj,i64 bl,i64 ae,i64 aq,i64 aj,i64 ah,i64 an,i64 ab,rL aa]=some [i64 cR,i64 eI,i64 eC,i64 cd,i64 du,i64 ar,i64 cj,i64 bl,i64 ae,i64 aq,i64 aj,i64 ah,i64 an,i64 ab,rL aa]:=by
 rw[aO (t:=Qb3) rfl];unfold Qb3
 unfold bE at hs;simp only at hs;have s0:aP ⟨ab,aa⟩<=1048576:=by omega
 (refine aD ?_;repeat' (refine aC ?_ ?_<;>intro _<;>try simp (disch:=first|assumption|omega) only[S0,rA,rQ,rB,rT,rE,Gav,Iac, *]))
theorem Vak (cR eI eC cd du ar cj bl ae aq aj ah an ab:Int)(aa:(List Int))(ir kd kg gx kt db iy gf bm cu bz bw bt cz:Int)(b6:(List Int))(hs:bE ⟨cR,eI,eC,cd,du,ar,cj,bl,⟨ae,aq,aj,ah,an⟩,⟨ab,aa⟩⟩<=1099511627776):Fun T 182 [i64 cR,i64 eI,i64 eC,i64 cd,i64 du,i64 ar,i64 cj,i64 bl,i64 ae,i64 aq,i64 aj,i64 ah,i64 an,i64 ab,rL aa,i64 ir,i64 kd,i64 kg,i64 gx,i64 kt,i64 db,i64 iy,i64 gf,i64 bm,i64 cu,i64 bz,i64 bw,i64 bt,i64 cz,rL b6]=some [.bool (decide ((⟨cR,eI,eC,cd,du,ar,cj,bl,⟨ae,aq,aj,ah,an⟩,⟨ab,aa⟩⟩:pO)=⟨ir,kd,kg,gx,kt,db,iy,gf,⟨bm,cu,bz,bw,bt⟩,⟨cz,b6⟩⟩))]:=by
 rw[aO (t:=Cb8) rfl];unfold Cb8
 unfold bE at hs;simp only at hs;have s0:aP ⟨ab,aa⟩<=1099511627776:=by omega
 have e:decide ((⟨cR,eI,eC,cd,du,ar,cj,bl,⟨ae,aq,aj,ah,an⟩,⟨ab,aa⟩⟩:pO)=⟨ir,kd,kg,gx,kt,db,iy,gf,⟨bm,cu,bz,bw,bt⟩,⟨cz,b6⟩⟩)=((cR==ir)&&(eI==kd)&&(eC==kg)&&(cd==gx)&&(du==kt)&&(ar==db)&&(cj==iy)&&(bl==gf)&&decide ((⟨ae,aq,aj,ah,an⟩:Baa)=⟨bm,cu,bz,bw,bt⟩)&&decide ((⟨ab,aa⟩:fP)=⟨cz,b6⟩)):=by
  simp only[pO.mk.injEq,Ac3,Bcw,Bc1]
 rw[e]
 (refine aD ?_;repeat' (refine aC ?_ ?_<;>intro _<;>try simp (disch:=first|assumption|omega) only[S0,rA,rQ,rB,rT,rE,Gax,Iah, *]))
theorem Caf (xs:(List pO))(l:Int)(h0:0<=l)(h1:l<=1048576)(hw:xs.length<=140737488351232/\∀ y0∈xs,Dau y0):Fun T 12 [rL xs,i64 l]=some [i64 (szR l (szL bE xs))]:=by
 rw[aO (t:=Rbj) rfl];unfold Rbj
 obtain⟨hw1,p8⟩:=hw;by_cases c:(xs.length:Int)<=l
 ·have d:decide (l-(xs.length:Int)<0)=false:=by simp;omega
  simp (disch:=first|assumption|omega) only[S0,rA,rQ,rB,rT,rE, *];rw[Oa7 xs bE (l-xs.length) rfl (by omega) (by omega)]
  ·by_cases hd:((xs.map bE).sum:Int)<=l-xs.length
   ·have e:szR l (szL bE xs)=l-xs.length-((xs.map bE).sum:Nat):=by unfold szR;rw[show (szL bE xs)=xs.length+(xs.map bE).sum from rfl,if_pos (by omega)];omega
    rw[decide_eq_true hd]
    (refine aD ?_;repeat' (refine aC ?_ ?_<;>intro _<;>try simp (disch:=first|assumption|omega) only[S0,rA,rQ,rB,rT,rE, *]))
   ·have e:szR l (szL bE xs)=-1:=by unfold szR;rw[show (szL bE xs)=xs.length+(xs.map bE).sum from rfl,if_neg (by omega)]
    rw[decide_eq_false hd]
    (refine aD ?_;repeat' (refine aC ?_ ?_<;>intro _<;>try simp (disch:=first|assumption|omega) only[S0,rA,rQ,rB,rT,rE, *]))
  ·intro i m hi hb hl hm oA hf hr hd
   have hq:=p8 _ (at_mem hi)
   (refine aD ?_;repeat' (refine aC ?_ ?_<;>intro _<;>try simp (disch:=first|assumption|omega) only[S0,rA,rQ,rB,rT,rE,aJ,Vah, *]))
  ·intro i m hi hb hl hm oA hf hr hd
   have hq:=p8 _ (at_mem hi)
   (refine aD ?_;repeat' (refine aC ?_ ?_<;>intro _<;>try simp (disch:=first|assumption|omega) only[S0,rA,rQ,rB,rT,rE,aJ,Vah, *]))
  ·intro m hl
   (refine aD ?_;repeat' (refine aC ?_ ?_<;>intro _<;>try simp (disch:=first|assumption|omega) only[S0,rA,rQ,rB,rT,rE, *]))
 ·have e:szR l (szL bE xs)=-1:=by unfold szR;rw[show (szL bE xs)=xs.length+(xs.map bE).sum from rfl,if_neg (by omega)]
  have d:decide (l-(xs.length:Int)<0)=true:=by simp;omega
  (refine aD ?_;repeat' (refine aC ?_ ?_<;>intro _<;>try simp (disch:=first|assumption|omega) only[S0,rA,rQ,rB,rT,rE, *]))
theorem Abd (xs:(List pO))(hs:szL bE xs<=1048576):Fun T 27 [rL xs]=some [rL xs]:=by
 rw[aO (t:=Qb4) rfl];unfold Qb4
 have hl:xs.length<=1048576:=Aci iB hs;simp (disch:=first|assumption|omega) only[S0,rA,rQ,rB,rT,rE,xU,Zb7, *];rw[Haf xs rfl]
 ·(refine aD ?_;repeat' (refine aC ?_ ?_<;>intro _<;>try simp (disch:=first|assumption|omega) only[S0,rA,rQ,rB,rT,rE, *]))
 ·intro i ys hi hb di fw
  have hq:bE (atI xs i)<=1048576:=by
   have:=gP (f:=bE) (at_mem hi);omega
  (refine aD ?_;repeat' (refine aC ?_ ?_<;>intro _<;>try simp (disch:=first|assumption|omega) only[S0,rA,rQ,rB,rT,rE,aJ,Bac,Fb7, *]))
 ·intro ys fw
  (refine aD ?_;repeat' (refine aC ?_ ?_<;>intro _<;>try simp (disch:=first|assumption|omega) only[S0,rA,rQ,rB,rT,rE, *]))
theorem Abi (xs ys:(List pO))(hs:szL bE xs<=1099511627776):Fun T 181 [rL xs,rL ys]=some [.bool (decide (xs=ys))]:=by
 rw[aO (t:=Cb9) rfl];unfold Cb9
 have hx:xs.length<=1099511627776:=Aci iB hs;by_cases hl:ys.length=xs.length
 ·simp (disch:=first|assumption|omega) only[S0,rA,rQ,rB,rT,rE, *]
  rw[Haz 1 xs.length (fun i=>decide (atI xs i=atI ys i)) [.bool false],uQ hl.symm]
  ·(refine aD ?_;repeat' (refine aC ?_ ?_<;>intro _<;>try simp (disch:=first|assumption|omega) only[S0,rA,rQ,rB,rT,rE, *]))
  ·intro i hi hp
   have hb:InB xs (i:Int):=aH.2 hi;have di:InB ys (i:Int):=aH.2 (by omega);have h2:decide ((i:Int)<xs.length)=true:=by simp;omega
   have hq:bE (atI xs i)<=1099511627776:=by
    have:=gP (f:=bE) (at_mem hi);omega
   (refine aD ?_;repeat' (refine aC ?_ ?_<;>intro _<;>try simp (disch:=first|assumption|omega) only[S0,rA,rQ,rB,rT,rE,aJ,Vak, *]))
  ·intro i hi hp
   have hb:InB xs (i:Int):=aH.2 hi;have di:InB ys (i:Int):=aH.2 (by omega);have h2:decide ((i:Int)<xs.length)=true:=by simp;omega
   have hq:bE (atI xs i)<=1099511627776:=by
    have:=gP (f:=bE) (at_mem hi);omega
   (refine aD ?_;repeat' (refine aC ?_ ?_<;>intro _<;>try simp (disch:=first|assumption|omega) only[S0,rA,rQ,rB,rT,rE,aJ,Vak, *]))
  ·have h2:decide ((xs.length:Int)<xs.length)=false:=by simp
   (refine aD ?_;repeat' (refine aC ?_ ?_<;>intro _<;>try simp (disch:=first|assumption|omega) only[S0,rA,rQ,rB,rT,rE, *]))
 ·have fw:((xs.length:Int)==(ys.length:Int))=false:=by simp;omega
  have e:=Ca6 (fun h=>hl h.symm)
  (refine aD ?_;repeat' (refine aC ?_ ?_<;>intro _<;>try simp (disch:=first|assumption|omega) only[S0,rA,rQ,rB,rT,rE, *]))
theorem Xaf (cd du ae aq aj ah an:Int):Fun T 30 [i64 cd,i64 du,i64 ae,i64 aq,i64 aj,i64 ah,i64 an]=some [i64 cd,i64 du,i64 ae,i64 aq,i64 aj,i64 ah,i64 an]:=by
 rw[aO (t:=Qb1) rfl];unfold Qb1
 (refine aD ?_;repeat' (refine aC ?_ ?_<;>intro _<;>try simp (disch:=first|assumption|omega) only[S0,rA,rQ,rB,rT,rE,Gav, *]))
theorem Lax (cd du ae aq aj ah an:Int)(gx kt bm cu bz bw bt:Int):Fun T 184 [i64 cd,i64 du,i64 ae,i64 aq,i64 aj,i64 ah,i64 an,i64 gx,i64 kt,i64 bm,i64 cu,i64 bz,i64 bw,i64 bt]=some [.bool (decide ((⟨cd,du,⟨ae,aq,aj,ah,an⟩⟩:dD)=⟨gx,kt,⟨bm,cu,bz,bw,bt⟩⟩))]:=by
 rw[aO (t:=Cb6) rfl];unfold Cb6
 have e:decide ((⟨cd,du,⟨ae,aq,aj,ah,an⟩⟩:dD)=⟨gx,kt,⟨bm,cu,bz,bw,bt⟩⟩)=((cd==gx)&&(du==kt)&&decide ((⟨ae,aq,aj,ah,an⟩:Baa)=⟨bm,cu,bz,bw,bt⟩)):=by
  simp only[dD.mk.injEq,Ac3,Bcw,Bc1]
 rw[e]
 (refine aD ?_;repeat' (refine aC ?_ ?_<;>intro _<;>try simp (disch:=first|assumption|omega) only[S0,rA,rQ,rB,rT,rE,Gax, *]))
theorem tZ (xs:(List dD))(l:Int)(h0:0<=l)(h1:l<=1048576)(hw:xs.length<=140737488351232):Fun T 14 [rL xs,i64 l]=some [i64 (szR l (szL (fun _=>0) xs))]:=by
 rw[aO (t:=Rbh) rfl];unfold Rbh
 have es:szL (fun _=>0) xs=xs.length:=fO;rw[es];by_cases c:(xs.length:Int)<=l
 ·have e:szR l xs.length=l-xs.length:=if_pos c
  have d:decide (l-(xs.length:Int)<0)=false:=by simp;omega
  (refine aD ?_;repeat' (refine aC ?_ ?_<;>intro _<;>try simp (disch:=first|assumption|omega) only[S0,rA,rQ,rB,rT,rE, *]))
 ·have e:szR l xs.length=-1:=if_neg c
  have d:decide (l-(xs.length:Int)<0)=true:=by simp;omega
  (refine aD ?_;repeat' (refine aC ?_ ?_<;>intro _<;>try simp (disch:=first|assumption|omega) only[S0,rA,rQ,rB,rT,rE, *]))
theorem Sa9 (xs:(List dD))(hs:szL (fun _=>0) xs<=1048576):Fun T 29 [rL xs]=some [rL xs]:=by
 rw[aO (t:=Qb2) rfl];unfold Qb2
 have hl:xs.length<=1048576:=Aci iB hs;simp (disch:=first|assumption|omega) only[S0,rA,rQ,rB,rT,rE,xU,Zb7, *];rw[Haf xs rfl]
 ·(refine aD ?_;repeat' (refine aC ?_ ?_<;>intro _<;>try simp (disch:=first|assumption|omega) only[S0,rA,rQ,rB,rT,rE, *]))
 ·intro i ys hi hb di fw
  (refine aD ?_;repeat' (refine aC ?_ ?_<;>intro _<;>try simp (disch:=first|assumption|omega) only[S0,rA,rQ,rB,rT,rE,aJ,Bac,Xaf, *]))
 ·intro ys fw
  (refine aD ?_;repeat' (refine aC ?_ ?_<;>intro _<;>try simp (disch:=first|assumption|omega) only[S0,rA,rQ,rB,rT,rE, *]))
theorem Tab (xs ys:(List dD))(hs:szL (fun _=>0) xs<=1099511627776):Fun T 183 [rL xs,rL ys]=some [.bool (decide (xs=ys))]:=by
 rw[aO (t:=Cb7) rfl];unfold Cb7
 have hx:xs.length<=1099511627776:=Aci iB hs;by_cases hl:ys.length=xs.length
 ·simp (disch:=first|assumption|omega) only[S0,rA,rQ,rB,rT,rE, *]
  rw[Haz 1 xs.length (fun i=>decide (atI xs i=atI ys i)) [.bool false],uQ hl.symm]
  ·(refine aD ?_;repeat' (refine aC ?_ ?_<;>intro _<;>try simp (disch:=first|assumption|omega) only[S0,rA,rQ,rB,rT,rE, *]))
  ·intro i hi hp
   have hb:InB xs (i:Int):=aH.2 hi;have di:InB ys (i:Int):=aH.2 (by omega);have h2:decide ((i:Int)<xs.length)=true:=by simp;omega
   (refine aD ?_;repeat' (refine aC ?_ ?_<;>intro _<;>try simp (disch:=first|assumption|omega) only[S0,rA,rQ,rB,rT,rE,aJ,Lax, *]))
  ·intro i hi hp
   have hb:InB xs (i:Int):=aH.2 hi;have di:InB ys (i:Int):=aH.2 (by omega);have h2:decide ((i:Int)<xs.length)=true:=by simp;omega
   (refine aD ?_;repeat' (refine aC ?_ ?_<;>intro _<;>try simp (disch:=first|assumption|omega) only[S0,rA,rQ,rB,rT,rE,aJ,Lax, *]))
  ·have h2:decide ((xs.length:Int)<xs.length)=false:=by simp
   (refine aD ?_;repeat' (refine aC ?_ ?_<;>intro _<;>try simp (disch:=first|assumption|omega) only[S0,rA,rQ,rB,rT,rE, *]))
 ·have fw:((xs.length:Int)==(ys.length:Int))=false:=by simp;omega
  have e:=Ca6 (fun h=>hl h.symm)
  (refine aD ?_;repeat' (refine aC ?_ ?_<;>intro _<;>try simp (disch:=first|assumption|omega) only[S0,rA,rQ,rB,rT,rE, *]))
theorem Vag (a6:(List nY))(br:(List pO))(aw:(List dD))(l:Int)(h0:0<=l)(h1:l<=1048576)(hw:Man ⟨a6,br,aw⟩):Fun T 1 [rL a6,rL br,rL aw,i64 l]=some [i64 (szR l (gN ⟨a6,br,aw⟩))]:=by
 rw[aO (t:=tm1) rfl];unfold tm1
 unfold Man at hw;simp only at hw;obtain⟨w0,w1,w2⟩:=hw;by_cases c0:((szL aZ a6:Nat):Int)<=l
 rotate_left
 ·have e0:szR (l) (szL aZ a6)=-1:=if_neg c0
  have d0:decide ((-1:Int)<0)=true:=rfl;have e:szR l (gN ⟨a6,br,aw⟩)=-1:=by unfold szR gN;simp only[];split<;>omega
  (refine aD ?_;repeat' (refine aC ?_ ?_<;>intro _<;>try simp (disch:=first|assumption|omega) only[S0,rA,rQ,rB,rT,rE,Cae,Caf,tZ, *]))
 have e0:szR (l) (szL aZ a6)=l-(szL aZ a6:Nat):=if_pos c0;have d0:decide (l-((szL aZ a6:Nat):Int)<0)=false:=by simp;omega
 by_cases c1:((szL bE br:Nat):Int)<=l-((szL aZ a6:Nat):Int)
 rotate_left
 ·have e1:szR (l-((szL aZ a6:Nat):Int)) (szL bE br)=-1:=if_neg c1
  have d1:decide ((-1:Int)<0)=true:=rfl;have e:szR l (gN ⟨a6,br,aw⟩)=-1:=by unfold szR gN;simp only[];split<;>omega
  (refine aD ?_;repeat' (refine aC ?_ ?_<;>intro _<;>try simp (disch:=first|assumption|omega) only[S0,rA,rQ,rB,rT,rE,Cae,Caf,tZ, *]))
 have e1:szR (l-((szL aZ a6:Nat):Int)) (szL bE br)=l-((szL aZ a6:Nat):Int)-(szL bE br:Nat):=if_pos c1;have d1:decide (l-((szL aZ a6:Nat):Int)-((szL bE br:Nat):Int)<0)=false:=by simp;omega
 by_cases c2:((szL (fun _=>0) aw:Nat):Int)<=l-((szL aZ a6:Nat):Int)-((szL bE br:Nat):Int)
 rotate_left
 ·have e2:szR (l-((szL aZ a6:Nat):Int)-((szL bE br:Nat):Int)) (szL (fun _=>0) aw)=-1:=if_neg c2
  have d2:decide ((-1:Int)<0)=true:=rfl;have e:szR l (gN ⟨a6,br,aw⟩)=-1:=by unfold szR gN;simp only[];split<;>omega
  (refine aD ?_;repeat' (refine aC ?_ ?_<;>intro _<;>try simp (disch:=first|assumption|omega) only[S0,rA,rQ,rB,rT,rE,Cae,Caf,tZ, *]))
 have e2:szR (l-((szL aZ a6:Nat):Int)-((szL bE br:Nat):Int)) (szL (fun _=>0) aw)=l-((szL aZ a6:Nat):Int)-((szL bE br:Nat):Int)-(szL (fun _=>0) aw:Nat):=if_pos c2;have d2:decide (l-((szL aZ a6:Nat):Int)-((szL bE br:Nat):Int)-((szL (fun _=>0) aw:Nat):Int)<0)=false:=by simp;omega
 have e:szR l (gN ⟨a6,br,aw⟩)=l-((szL aZ a6:Nat):Int)-((szL bE br:Nat):Int)-((szL (fun _=>0) aw:Nat):Int):=by unfold szR gN;simp only[];split<;>omega
 (refine aD ?_;repeat' (refine aC ?_ ?_<;>intro _<;>try simp (disch:=first|assumption|omega) only[S0,rA,rQ,rB,rT,rE,Cae,Caf,tZ, *]))
theorem Fb6 (a6:(List nY))(br:(List pO))(aw:(List dD))(hs:gN ⟨a6,br,aw⟩<=1048576):Fun T 15 [rL a6,rL br,rL aw]=some [rL a6,rL br,rL aw]:=by
 rw[aO (t:=Rbg) rfl];unfold Rbg
 unfold gN at hs;simp only at hs;have s0:szL aZ a6<=1048576:=by omega
 have s1:szL bE br<=1048576:=by omega
 have s2:szL (fun _=>0) aw<=1048576:=by omega
 (refine aD ?_;repeat' (refine aC ?_ ?_<;>intro _<;>try simp (disch:=first|assumption|omega) only[S0,rA,rQ,rB,rT,rE,Abc,Abd,Sa9, *]))
theorem Fb9 (a6:(List nY))(br:(List pO))(aw:(List dD))(oa:(List nY))(q8:(List pO))(mh:(List dD))(hs:gN ⟨a6,br,aw⟩<=1099511627776):Fun T 169 [rL a6,rL br,rL aw,rL oa,rL q8,rL mh]=some [.bool (decide ((⟨a6,br,aw⟩:Aa9)=⟨oa,q8,mh⟩))]:=by
 rw[aO (t:=Dbl) rfl];unfold Dbl
 unfold gN at hs;simp only at hs;have s0:szL aZ a6<=1099511627776:=by omega
 have s1:szL bE br<=1099511627776:=by omega
 have s2:szL (fun _=>0) aw<=1099511627776:=by omega
 have e:decide ((⟨a6,br,aw⟩:Aa9)=⟨oa,q8,mh⟩)=(decide ((a6:(List nY))=oa)&&decide ((br:(List pO))=q8)&&decide ((aw:(List dD))=mh)):=by
  simp only[Aa9.mk.injEq,Ac3,Bcw,Bc1]
 rw[e]
 (refine aD ?_;repeat' (refine aC ?_ ?_<;>intro _<;>try simp (disch:=first|assumption|omega) only[S0,rA,rQ,rB,rT,rE,Abh,Abi,Tab, *]))
theorem bV (x lo up:Int):Fun T 87 [i64 x,i64 lo,i64 up]=some [.bool (inR x lo up)]:=by
 rw[aO (t:=Pbg) rfl];unfold Pbg;unfold inR
 (refine aD ?_;repeat' (refine aC ?_ ?_<;>intro _<;>try simp (disch:=first|assumption|omega) only[S0,rA,rQ,rB,rT,rE, *]))
theorem dJ (x lo up:Int):Fun T 36 [i64 x,i64 lo,i64 up]=some [.bool (inR x lo up)]:=by
 rw[aO (t:=Qbv) rfl];unfold Qbv;unfold inR
 (refine aD ?_;repeat' (refine aC ?_ ?_<;>intro _<;>try simp (disch:=first|assumption|omega) only[S0,rA,rQ,rB,rT,rE, *]))
theorem iO (n:Int):Fun T 82 [i64 n]=some [.bool (dG n)]:=by
 rw[aO (t:=Pbl) rfl];unfold Pbl;unfold dG
 (refine aD ?_;repeat' (refine aC ?_ ?_<;>intro _<;>try simp (disch:=first|assumption|omega) only[S0,rA,rQ,rB,rT,rE, *]))
theorem fZ (n:Int):Fun T 33 [i64 n]=some [.bool (dG n)]:=by
 rw[aO (t:=Qby) rfl];unfold Qby;unfold dG
 (refine aD ?_;repeat' (refine aC ?_ ?_<;>intro _<;>try simp (disch:=first|assumption|omega) only[S0,rA,rQ,rB,rT,rE, *]))
theorem Kak (n:Int):Fun T 94 [i64 n]=some [.bool (inR n 0 3)]:=by
 rw[aO (t:=Pba) rfl];unfold Pba
 (refine aD ?_;repeat' (refine aC ?_ ?_<;>intro _<;>try simp (disch:=first|assumption|omega) only[S0,rA,rQ,rB,rT,rE,bV, *]))
theorem Ja9 (n:Int):Fun T 39 [i64 n]=some [.bool (inR n 0 3)]:=by
 rw[aO (t:=Qbs) rfl];unfold Qbs
 (refine aD ?_;repeat' (refine aC ?_ ?_<;>intro _<;>try simp (disch:=first|assumption|omega) only[S0,rA,rQ,rB,rT,rE,dJ, *]))
theorem Sam (k i f t a:Int):Fun T 38 [i64 k,i64 i,i64 f,i64 t,i64 a]=some [i64 (Oab ⟨k,i,f,t,a⟩)]:=by
 rw[aO (t:=Qbt) rfl];unfold Qbt;unfold Oab
 (refine aD ?_;repeat' (refine aC ?_ ?_<;>intro _<;>try simp (disch:=first|assumption|omega) only[S0,rA,rQ,rB,rT,rE,Ja9,dJ, *]))
theorem gB (k i f t a:Int):Fun T 37 [i64 k,i64 i,i64 f,i64 t,i64 a]=some [.bool (qY ⟨k,i,f,t,a⟩)]:=by
 rw[aO (t:=Qbu) rfl];unfold Qbu;unfold qY
 (refine aD ?_;repeat' (refine aC ?_ ?_<;>intro _<;>try simp (disch:=first|assumption|omega) only[S0,rA,rQ,rB,rT,rE,Sam,rD,Hbf, *]))
 all_goals (refine Ga2 ?_;simp only[Zbd,Acp,Zb3,Bool.not_eq_false',Ccs,Ccz,Zbg,beq_iff_eq,beq_eq_false_iff_ne,decide_eq_true_eq,decide_eq_false_iff_not,ne_eq]at *;grind)
theorem fH (k i f t a:Int):Fun T 93 [i64 k,i64 i,i64 f,i64 t,i64 a]=some [.bool (qY ⟨k,i,f,t,a⟩)]:=by
 rw[aO (t:=Pbb) rfl];unfold Pbb;unfold qY
 (refine aD ?_;repeat' (refine aC ?_ ?_<;>intro _<;>try simp (disch:=first|assumption|omega) only[S0,rA,rQ,rB,rT,rE,bV,Kak,rD, *]))
theorem dH (n rep no:Int)(hg:dG n=true):Fun T 35 [i64 n,i64 rep,i64 no]=some [.bool (inst n rep no)]:=by
 rw[aO (t:=Qbw) rfl];unfold Qbw;unfold inst
 have hn:=aY hg
 (refine aD ?_;repeat' (refine aC ?_ ?_<;>intro _<;>try simp (disch:=first|assumption|omega) only[S0,rA,rQ,rB,rT,rE,dJ, *]))
theorem bK (n rep no:Int):Fun T 88 [i64 n,i64 rep,i64 no]=some [.bool (dG n&&inst n rep no)]:=by
 rw[aO (t:=Pbf) rfl];unfold Pbf;unfold inst
 cases hg:dG n
 ·(refine aD ?_;repeat' (refine aC ?_ ?_<;>intro _<;>try simp (disch:=first|assumption|omega) only[S0,rA,rQ,rB,rT,rE,iO, *]))
 have hn:=aY hg
 (refine aD ?_;repeat' (refine aC ?_ ?_<;>intro _<;>try simp (disch:=first|assumption|omega) only[S0,rA,rQ,rB,rT,rE,iO,bV, *]))
theorem Wa1 (xs:List Int)(lo up:Int)(hx:xs.length<=1099511627776):Fun T 47 [rL xs,i64 lo,i64 up]=some [.bool (xs.all fun x=>inR x lo up)]:=by
 rw[aO (t:=Qbk) rfl];unfold Qbk
 simp (disch:=first|assumption|omega) only[S0,rA,rQ,rB,rT,rE,aJ, *];rw[Vbu 1 xs (fun x=>inR x lo up) [.bool false]]
 ·(refine aD ?_;repeat' (refine aC ?_ ?_<;>intro _<;>try simp (disch:=first|assumption|omega) only[S0,rA,rQ,rB,rT,rE, *]))
 ·intro i hi hb hl hp
  (refine aD ?_;repeat' (refine aC ?_ ?_<;>intro _<;>try simp (disch:=first|assumption|omega) only[S0,rA,rQ,rB,rT,rE,aJ,dJ, *]))
 ·intro i hi hb hl hp
  (refine aD ?_;repeat' (refine aC ?_ ?_<;>intro _<;>try simp (disch:=first|assumption|omega) only[S0,rA,rQ,rB,rT,rE,aJ,dJ, *]))
 ·intro hl
  (refine aD ?_;repeat' (refine aC ?_ ?_<;>intro _<;>try simp (disch:=first|assumption|omega) only[S0,rA,rQ,rB,rT,rE, *]))
theorem oF (n s:Int)(xs:List Int)(hx:xs.length<=1099511627776):Fun T 46 [i64 n,i64 s,rL xs]=some [.bool (lY n ⟨s,xs⟩)]:=by
 rw[aO (t:=Qbl) rfl];unfold Qbl;unfold lY
 (refine aD ?_;repeat' (refine aC ?_ ?_<;>intro _<;>try simp (disch:=first|assumption|omega) only[S0,rA,rQ,rB,rT,rE,dJ,Wa1, *]))
theorem wZ (x:Int):Fun T 98 [i64 x]=some [.bool (!inR x 0 6)]:=by
 rw[aO (t:=Ob6) rfl];unfold Ob6
 (refine aD ?_;repeat' (refine aC ?_ ?_<;>intro _<;>try simp (disch:=first|assumption|omega) only[S0,rA,rQ,rB,rT,rE,bV, *]))
theorem Nar  (xs:List Int)(hx:xs.length<=1099511627776):Fun T 97 [rL xs]=some [i64 (ixF (fun x=>!inR x 0 6) xs)]:=by
 rw[aO (t:=Ob7) rfl];unfold Ob7
 simp (disch:=first|assumption|omega) only[S0,rA,rQ,rB,rT,rE,aJ, *];rw[xG 1 xs (fun x=>!inR x 0 6) (fun i=>[i64 i])]
 ·cases h:xs.any (fun x=>!inR x 0 6)
  ·have e:ixF (fun x=>!inR x 0 6) xs=-1:=by
    have h2:=dF (fun x=>!inR x 0 6) xs;rw[h]at h2;unfold ixF at h2 ⊢;split at h2<;>simp_all
   rw[e];simp (disch:=first|assumption|omega) only[S0,rA,rQ,rB,rT,rE]
  ·simp (disch:=first|assumption|omega) only[S0,rA,rQ,rB,rT,rE]
 ·intro i hi hb hl hp
  (refine aD ?_;repeat' (refine aC ?_ ?_<;>intro _<;>try simp (disch:=first|assumption|omega) only[S0,rA,rQ,rB,rT,rE,aJ,wZ, *]))
 ·intro i hi hb hl hp
  (refine aD ?_;repeat' (refine aC ?_ ?_<;>intro _<;>try simp (disch:=first|assumption|omega) only[S0,rA,rQ,rB,rT,rE,aJ,wZ, *]))
 ·intro hl
  (refine aD ?_;repeat' (refine aC ?_ ?_<;>intro _<;>try simp (disch:=first|assumption|omega) only[S0,rA,rQ,rB,rT,rE, *]))
theorem Na7  (xs:List Int)(hx:xs.length<=1099511627776):Fun T 96 [rL xs]=some [.bool (xs.any (fun x=>!inR x 0 6))]:=by
 rw[aO (t:=Ob8) rfl];unfold Ob8
 (refine aD ?_;repeat' (refine aC ?_ ?_<;>intro _<;>try simp (disch:=first|assumption|omega) only[S0,rA,rQ,rB,rT,rE,Nar,dF, *]))
theorem lU (n s:Int)(xs:List Int)(hx:xs.length<=1099511627776):Fun T 95 [i64 n,i64 s,rL xs]=some [.bool (dG n&&lY n ⟨s,xs⟩)]:=by
 rw[aO (t:=Ob9) rfl];unfold Ob9;unfold lY
 have e:xs.any (fun x=>!inR x 0 6)=!xs.all fun x=>inR x 0 6:=by rw[Bcg]
 (refine aD ?_;repeat' (refine aC ?_ ?_<;>intro _<;>try simp (disch:=first|assumption|omega) only[S0,rA,rQ,rB,rT,rE,iO,bV,Na7,e,Bool.not_not, *]))
theorem Aal (xs ys:List Int)(hx:xs.length<=1099511627776):Fun T 45 [rL xs,rL ys]=some [.bool (decide (xs=ys))]:=by
 rw[aO (t:=Qbm) rfl];unfold Qbm
 by_cases hl:ys.length=xs.length
 ·simp (disch:=first|assumption|omega) only[S0,rA,rQ,rB,rT,rE, *]
  rw[Haz 1 xs.length (fun i=>decide (atI xs i=atI ys i)) [.bool false],uQ hl.symm]
  ·(refine aD ?_;repeat' (refine aC ?_ ?_<;>intro _<;>try simp (disch:=first|assumption|omega) only[S0,rA,rQ,rB,rT,rE, *]))
  ·intro i hi hp
   have hb:InB xs (i:Int):=aH.2 hi;have di:InB ys (i:Int):=aH.2 (by omega);have h2:decide ((i:Int)<xs.length)=true:=by simp;omega
   have h3:(atI xs i==atI ys i)=true:=by simpa using hp
   (refine aD ?_;repeat' (refine aC ?_ ?_<;>intro _<;>try simp (disch:=first|assumption|omega) only[S0,rA,rQ,rB,rT,rE,aJ, *]))
  ·intro i hi hp
   have hb:InB xs (i:Int):=aH.2 hi;have di:InB ys (i:Int):=aH.2 (by omega);have h2:decide ((i:Int)<xs.length)=true:=by simp;omega
   have h3:(atI xs i==atI ys i)=false:=by simpa using hp
   (refine aD ?_;repeat' (refine aC ?_ ?_<;>intro _<;>try simp (disch:=first|assumption|omega) only[S0,rA,rQ,rB,rT,rE,aJ, *]))
  ·have h2:decide ((xs.length:Int)<xs.length)=false:=by simp
   (refine aD ?_;repeat' (refine aC ?_ ?_<;>intro _<;>try simp (disch:=first|assumption|omega) only[S0,rA,rQ,rB,rT,rE, *]))
 ·have fw:((xs.length:Int)==(ys.length:Int))=false:=by simp;omega
  have e:=Ca6 (fun h=>hl h.symm)
  (refine aD ?_;repeat' (refine aC ?_ ?_<;>intro _<;>try simp (disch:=first|assumption|omega) only[S0,rA,rQ,rB,rT,rE, *]))
theorem slices_Equal_int (xs ys:List Int)(hx:xs.length<=1099511627776):Fun T 101 [rL xs,rL ys]=some [.bool (decide (xs=ys))]:=by
 rw[aO (t:=Fbe) rfl];unfold Fbe
 by_cases hl:ys.length=xs.length
 ·simp (disch:=first|assumption|omega) only[S0,rA,rQ,rB,rT,rE, *]
  rw[Haz 1 xs.length (fun i=>decide (atI xs i=atI ys i)) [.bool false],uQ hl.symm]
  ·(refine aD ?_;repeat' (refine aC ?_ ?_<;>intro _<;>try simp (disch:=first|assumption|omega) only[S0,rA,rQ,rB,rT,rE, *]))
  ·intro i hi hp
   have hb:InB xs (i:Int):=aH.2 hi;have di:InB ys (i:Int):=aH.2 (by omega);have h2:decide ((i:Int)<xs.length)=true:=by simp;omega
   have h3:(atI xs i==atI ys i)=true:=by simpa using hp
   (refine aD ?_;repeat' (refine aC ?_ ?_<;>intro _<;>try simp (disch:=first|assumption|omega) only[S0,rA,rQ,rB,rT,rE,aJ, *]))
  ·intro i hi hp
   have hb:InB xs (i:Int):=aH.2 hi;have di:InB ys (i:Int):=aH.2 (by omega);have h2:decide ((i:Int)<xs.length)=true:=by simp;omega
   have h3:(atI xs i==atI ys i)=false:=by simpa using hp
   (refine aD ?_;repeat' (refine aC ?_ ?_<;>intro _<;>try simp (disch:=first|assumption|omega) only[S0,rA,rQ,rB,rT,rE,aJ, *]))
  ·have h2:decide ((xs.length:Int)<xs.length)=false:=by simp
   (refine aD ?_;repeat' (refine aC ?_ ?_<;>intro _<;>try simp (disch:=first|assumption|omega) only[S0,rA,rQ,rB,rT,rE, *]))
 ·have fw:((xs.length:Int)==(ys.length:Int))=false:=by simp;omega
  have e:=Ca6 (fun h=>hl h.symm)
  (refine aD ?_;repeat' (refine aC ?_ ?_<;>intro _<;>try simp (disch:=first|assumption|omega) only[S0,rA,rQ,rB,rT,rE, *]))
theorem jX (s s':Int)(xs ys:List Int)(hx:xs.length<=1099511627776):Fun T 44 [i64 s,rL xs,i64 s',rL ys]=some [.bool (decide ((⟨s,xs⟩:fP)=⟨s',ys⟩))]:=by
 rw[aO (t:=Qbn) rfl];unfold Qbn
 have e:decide ((⟨s,xs⟩:fP)=⟨s',ys⟩)=(s==s'&&decide (xs=ys)):=by simp[fP.mk.injEq,Ac3]
 (refine aD ?_;repeat' (refine aC ?_ ?_<;>intro _<;>try simp (disch:=first|assumption|omega) only[S0,rA,rQ,rB,rT,rE,Aal,e, *]))
theorem eB (s s':Int)(xs ys:List Int)(hx:xs.length<=1099511627776):Fun T 100 [i64 s,rL xs,i64 s',rL ys]=some [.bool (decide ((⟨s,xs⟩:fP)=⟨s',ys⟩))]:=by
 rw[aO (t:=Fbf) rfl];unfold Fbf
 have e:decide ((⟨s,xs⟩:fP)=⟨s',ys⟩)=(s==s'&&decide (xs=ys)):=by simp[fP.mk.injEq,Ac3]
 (refine aD ?_;repeat' (refine aC ?_ ?_<;>intro _<;>try simp (disch:=first|assumption|omega) only[S0,rA,rQ,rB,rT,rE,slices_Equal_int,e, *]))
theorem mH (n:Int)(hg:dG n=true):Fun T 43 [i64 n]=some [i64 (none0 n).seq,rL (none0 n).deps]:=by
 rw[aO (t:=Qbo) rfl];unfold Qbo;unfold none0
 have hn:=aY hg
 (refine aD ?_;repeat' (refine aC ?_ ?_<;>intro _<;>try simp (disch:=first|assumption|omega) only[S0,rA,rQ,rB,rT,rE,xU, *]))
theorem dZ (n:Int)(hg:dG n=true):Fun T 99 [i64 n]=some [i64 (none0 n).seq,rL (none0 n).deps]:=by
 rw[aO (t:=Ob5) rfl];unfold Ob5;unfold none0
 have hn:=aY hg
 (refine aD ?_;repeat' (refine aC ?_ ?_<;>intro _<;>try simp (disch:=first|assumption|omega) only[S0,rA,rQ,rB,rT,rE,xU, *]))
theorem yF (n bal vot sta k i f t a sq:Int)(xs:List Int)(hg:dG n=true)(hx:xs.length<=1099511627776) :
  Fun T 42 [i64 n,i64 bal,i64 vot,i64 sta,i64 k,i64 i,i64 f,i64 t,i64 a,i64 sq,rL xs]=some [.bool (rowOk n ⟨bal,vot,sta,⟨k,i,f,t,a⟩,⟨sq,xs⟩⟩)]:=by
 rw[aO (t:=Qbp) rfl];unfold Qbp;unfold rowOk
 (refine aD ?_;repeat' (refine aC ?_ ?_<;>intro _<;>try simp (disch:=first|assumption|omega) only[S0,rA,rQ,rB,rT,rE,dJ,rD,mH,jX,gB,oF, *]))
theorem wU (n bal vot sta k i f t a sq:Int)(xs:List Int)(hg:dG n=true)(hx:xs.length<=1099511627776) :
  Fun T 92 [i64 n,i64 bal,i64 vot,i64 sta,i64 k,i64 i,i64 f,i64 t,i64 a,i64 sq,rL xs]=some [.bool (rowOk n ⟨bal,vot,sta,⟨k,i,f,t,a⟩,⟨sq,xs⟩⟩)]:=by
 rw[aO (t:=Pbc) rfl];unfold Pbc;unfold rowOk
 have h1:=@Cbc ⟨k,i,f,t,a⟩;have h2:=Naf hg;have h3:decide ((⟨sq,xs⟩:fP)=none0 n)=true->lY n ⟨sq,xs⟩=true:=fun h=>by rw[of_decide_eq_true h];exact h2
 (refine aD ?_;repeat' (refine aC ?_ ?_<;>intro _<;>try simp (disch:=first|assumption|omega) only[S0,rA,rQ,rB,rT,rE,bV,rD,dZ,eB,fH,lU, *]))
 all_goals (refine Ga2 ?_;simp only[Zbd,Acp,Zb3,Bool.not_eq_false',Ccs,Ccz,Zbg,beq_iff_eq,beq_eq_false_iff_ne,decide_eq_true_eq,decide_eq_false_iff_not,ne_eq]at *;grind)
theorem slices_Clone_int (xs:List Int)(hx:xs.length<=10000000000):Fun T 91 [rL xs]=some [rL xs]:=by
 rw[Oak (e:=Vbt) rfl]
 cases xs with
 |nil=>rfl
 | cons x xs =>
  show Fun (Raf [(91,.tm Kb7)]) 91 [rL (x::xs)]=_
  rw[aO (t:=Kb7) rfl];unfold Kb7;have qj:(x::xs).length<=100000000000:=by omega
  have h0:(aU.mk 1 0).run []=some [.rows 1 []]:=rfl;have h1:(x::xs).isEmpty=false:=rfl;simp (disch:=first|assumption|omega) only[SA,SB,SC,SP,SQ,SZ,reduceIte,reduceCtorEq,Nat.reduceAdd,Nat.reduceEqDiff,Sbc,Nb5,h0,h1,gW]
theorem vE (s:Int)(xs:List Int)(hx:xs.length<=10000000000):Fun T 90 [i64 s,rL xs]=some [i64 s,rL xs]:=by
 rw[aO (t:=Pbd) rfl];unfold Pbd
 (refine aD ?_;repeat' (refine aC ?_ ?_<;>intro _<;>try simp (disch:=first|assumption|omega) only[S0,rA,rQ,rB,rT,rE,slices_Clone_int, *]))
theorem Qau (fq jx jw jz nq eM gl fe cV eN ec dT dz cN:Int)(bk:(List Int))(hx:bk.length<=10000000000):Fun T 89 [i64 fq,i64 jx,i64 jw,i64 jz,i64 nq,i64 eM,i64 gl,i64 fe,i64 cV,i64 eN,i64 ec,i64 dT,i64 dz,i64 cN,rL bk]=some [i64 eM,i64 gl,i64 fe,i64 cV,i64 eN,i64 ec,i64 dT,i64 dz,i64 cN,rL bk]:=by
 rw[aO (t:=Pbe) rfl];unfold Pbe
 (refine aD ?_;repeat' (refine aC ?_ ?_<;>intro _<;>try simp (disch:=first|assumption|omega) only[S0,rA,rQ,rB,rT,rE,vE, *]))
theorem Paj (n:Int)(fq jx jw jz nq eM gl fe cV eN ec dT dz cN:Int)(bk:(List Int))(hx:bk.length<=10000000000):Fun T 51 [i64 n,i64 fq,i64 jx,i64 jw,i64 jz,i64 nq,i64 eM,i64 gl,i64 fe,i64 cV,i64 eN,i64 ec,i64 dT,i64 dz,i64 cN,rL bk]=some [.bool (zD n ⟨fq,jx,jw,jz,nq,eM,gl,fe,⟨cV,eN,ec,dT,dz⟩,⟨cN,bk⟩⟩)]:=by
 rw[aO (t:=Qbg) rfl];unfold Qbg;unfold zD
 have qj:bk.length<=1099511627776:=by omega
 cases hg:dG n
 ·(refine aD ?_;repeat' (refine aC ?_ ?_<;>intro _<;>try simp (disch:=first|assumption|omega) only[S0,rA,rQ,rB,rT,rE,fZ, *]))
 have hn:=aY hg
 (refine aD ?_;repeat' (refine aC ?_ ?_<;>intro _<;>try simp (disch:=first|assumption|omega) only[S0,rA,rQ,rB,rT,rE,fZ,dJ,dH,yF,oF,gB,rD,mH,jX, *]))
 all_goals (refine Ga2 ?_;simp only[Zbd,Acp,Zb3,Bool.not_eq_false',Ccs,Ccz,Zbg,beq_iff_eq,beq_eq_false_iff_ne,decide_eq_true_eq,decide_eq_false_iff_not,ne_eq]at *;grind)
theorem Qav (n:Int)(fq jx jw jz nq eM gl fe cV eN ec dT dz cN:Int)(bk:(List Int))(hx:bk.length<=10000000000):Fun T 86 [i64 n,i64 fq,i64 jx,i64 jw,i64 jz,i64 nq,i64 eM,i64 gl,i64 fe,i64 cV,i64 eN,i64 ec,i64 dT,i64 dz,i64 cN,rL bk]=some [.bool (zD n ⟨fq,jx,jw,jz,nq,eM,gl,fe,⟨cV,eN,ec,dT,dz⟩,⟨cN,bk⟩⟩)]:=by
 rw[aO (t:=Pbh) rfl];unfold Pbh;unfold zD
 have qj:bk.length<=1099511627776:=by omega
 cases hg:dG n
 ·(refine aD ?_;repeat' (refine aC ?_ ?_<;>intro _<;>try simp (disch:=first|assumption|omega) only[S0,rA,rQ,rB,rT,rE,bK,bV, *]))
 have hn:=aY hg;have hk:inR fq 1 7=true->1<=fq/\fq<=7:=by simp[inR]
 (refine aD ?_;repeat' (refine aC ?_ ?_<;>intro _<;>try simp (disch:=first|assumption|omega) only[S0,rA,rQ,rB,rT,rE,bK,bV,Qau,wU,lU,fH,rD,dZ,eB, *]))
 all_goals (refine Ga2 ?_;simp only[Zbd,Acp,Zb3,Bool.not_eq_false',Ccs,Ccz,Zbg,beq_iff_eq,beq_eq_false_iff_ne,decide_eq_true_eq,decide_eq_false_iff_not,ne_eq]at *;grind)
theorem gQ (n:Int)(rows:List (List bR))(hs:mI rows):Fun T 41 [i64 n,rL rows]=some [.bool (bG ⟨n,rows⟩)]:=by
 rw[aO (t:=Qbq) rfl];unfold Qbq;unfold bG
 obtain⟨oB,ll⟩:=hs;cases hg:dG n
 ·(refine aD ?_;repeat' (refine aC ?_ ?_<;>intro _<;>try simp (disch:=first|assumption|omega) only[S0,rA,rQ,rB,rT,rE,fZ, *]))
 cases hl:(rows.length:Int)==n
 ·(refine aD ?_;repeat' (refine aC ?_ ?_<;>intro _<;>try simp (disch:=first|assumption|omega) only[S0,rA,rQ,rB,rT,rE,fZ, *]))
 simp (disch:=first|assumption|omega) only[S0,rA,rQ,rB,rT,rE,fZ, *];rw[Yap 1 rows (fun l=>l.all (fun r=>rowOk n r)&&decide ((l.length:Int)<=6)) [.bool false]]
 ·(refine aD ?_;repeat' (refine aC ?_ ?_<;>intro _<;>try simp (disch:=first|assumption|omega) only[S0,rA,rQ,rB,rT,rE, *]))
 ·intro i hi hb hlt hm
  obtain⟨lE,km⟩:=ll _ hm;simp (disch:=first|assumption|omega) only[S0,rA,rQ,rB,rT,rE,aJ, *];rw[Yap 3 (atI rows i) (fun r=>rowOk n r) [.bool false]]
  ·have e:decide (6<((atI rows (i:Int)).length:Int))=!decide (((atI rows (i:Int)).length:Int)<=6):=by
    by_cases h:((atI rows (i:Int)).length:Int)<=6
    ·simp[h]
    ·simp[h];omega
   (refine aD ?_;repeat' (refine aC ?_ ?_<;>intro _<;>try simp (disch:=first|assumption|omega) only[S0,rA,rQ,rB,rT,rE,e, *]))
  ·intro j hj gR bb hm2
   have hq3:=km _ hm2;have hq4:(atI (atI rows (i:Int)) (j:Int)).attr.deps.length<=1099511627776:=by omega
   (refine aD ?_;repeat' (refine aC ?_ ?_<;>intro _<;>try simp (disch:=first|assumption|omega) only[S0,rA,rQ,rB,rT,rE,aJ,yF, *]))
  ·intro jh
   (refine aD ?_;repeat' (refine aC ?_ ?_<;>intro _<;>try simp (disch:=first|assumption|omega) only[S0,rA,rQ,rB,rT,rE, *]))
 ·intro jh
  (refine aD ?_;repeat' (refine aC ?_ ?_<;>intro _<;>try simp (disch:=first|assumption|omega) only[S0,rA,rQ,rB,rT,rE, *]))
theorem qI (b8 dq cm bg b7 bn bp bo bf:Int)(av:(List Int))(n:Int)(rows:List (List bR))(hg:dG n=true)(hx:av.length<=1099511627776):Fun T 109 [i64 b8,i64 dq,i64 cm,i64 bg,i64 b7,i64 bn,i64 bp,i64 bo,i64 bf,rL av,i64 n,rL rows]=some [.bool (!rowOk n ⟨b8,dq,cm,⟨bg,b7,bn,bp,bo⟩,⟨bf,av⟩⟩)]:=by
 rw[aO (t:=Eb6) rfl];unfold Eb6
 (refine aD ?_;repeat' (refine aC ?_ ?_<;>intro _<;>try simp (disch:=first|assumption|omega) only[S0,rA,rQ,rB,rT,rE,wU, *]))
theorem Fa9 (n:Int)(rows:List (List bR))(hg:dG n=true)(xs:List bR)(hx:xs.length<=1099511627776)(hq:∀ x∈xs,x.attr.deps.length<=1099511627776):Fun T 108 [rL xs,i64 n,rL rows]=some [i64 (ixF (fun r=>!rowOk n r) xs)]:=by
 rw[aO (t:=Eb7) rfl];unfold Eb7
 simp (disch:=first|assumption|omega) only[S0,rA,rQ,rB,rT,rE,aJ, *];rw[xG 1 xs (fun r=>!rowOk n r) (fun i=>[i64 i])]
 ·cases h:xs.any (fun r=>!rowOk n r)
  ·have e:ixF (fun r=>!rowOk n r) xs=-1:=by
    have h2:=dF (fun r=>!rowOk n r) xs;rw[h]at h2;unfold ixF at h2 ⊢;split at h2<;>simp_all
   rw[e];simp (disch:=first|assumption|omega) only[S0,rA,rQ,rB,rT,rE]
  ·simp (disch:=first|assumption|omega) only[S0,rA,rQ,rB,rT,rE]
 ·intro i hi hb hl hp
  have kA:=hq _ (at_mem hi)
  try simp only at kA hp
  (refine aD ?_;repeat' (refine aC ?_ ?_<;>intro _<;>try simp (disch:=first|assumption|omega) only[S0,rA,rQ,rB,rT,rE,aJ,qI, *]))
 ·intro i hi hb hl hp
  have kA:=hq _ (at_mem hi)
  try simp only at kA hp
  (refine aD ?_;repeat' (refine aC ?_ ?_<;>intro _<;>try simp (disch:=first|assumption|omega) only[S0,rA,rQ,rB,rT,rE,aJ,qI, *]))
 ·intro hl
  (refine aD ?_;repeat' (refine aC ?_ ?_<;>intro _<;>try simp (disch:=first|assumption|omega) only[S0,rA,rQ,rB,rT,rE, *]))
theorem Gah (n:Int)(rows:List (List bR))(hg:dG n=true)(xs:List bR)(hx:xs.length<=1099511627776)(hq:∀ x∈xs,x.attr.deps.length<=1099511627776):Fun T 107 [rL xs,i64 n,rL rows]=some [.bool (xs.any (fun r=>!rowOk n r))]:=by
 rw[aO (t:=Eb8) rfl];unfold Eb8
 (refine aD ?_;repeat' (refine aC ?_ ?_<;>intro _<;>try simp (disch:=first|assumption|omega) only[S0,rA,rQ,rB,rT,rE,Fa9,dF, *]))
theorem vD (l:List bR)(n:Int)(rows:List (List bR))(hg:dG n=true)(hx:l.length<=1099511627776)(hq:∀ x∈l,x.attr.deps.length<=1099511627776):Fun T 106 [rL l,i64 n,rL rows]=some [.bool (decide (6<(l.length:Int))||l.any fun r=>!rowOk n r)]:=by
 rw[aO (t:=Eb9) rfl];unfold Eb9
 (refine aD ?_;repeat' (refine aC ?_ ?_<;>intro _<;>try simp (disch:=first|assumption|omega) only[S0,rA,rQ,rB,rT,rE,Gah, *]))
theorem Kai (n:Int)(rows:List (List bR))(hg:dG n=true)(xs:List (List bR))(hx:xs.length<=1099511627776)(hq:∀ x∈xs,x.length<=1099511627776/\∀ y∈x,y.attr.deps.length<=1099511627776):Fun T 105 [rL xs,i64 n,rL rows]=some [i64 (ixF (fun l=>decide (6<(l.length:Int))||l.any fun r=>!rowOk n r) xs)]:=by
 rw[aO (t:=Fba) rfl];unfold Fba
 simp (disch:=first|assumption|omega) only[S0,rA,rQ,rB,rT,rE,aJ, *];rw[xG 1 xs (fun l=>decide (6<(l.length:Int))||l.any fun r=>!rowOk n r) (fun i=>[i64 i])]
 ·cases h:xs.any (fun l=>decide (6<(l.length:Int))||l.any fun r=>!rowOk n r)
  ·have e:ixF (fun l=>decide (6<(l.length:Int))||l.any fun r=>!rowOk n r) xs=-1:=by
    have h2:=dF (fun l=>decide (6<(l.length:Int))||l.any fun r=>!rowOk n r) xs;rw[h]at h2;unfold ixF at h2 ⊢;split at h2<;>simp_all
   rw[e];simp (disch:=first|assumption|omega) only[S0,rA,rQ,rB,rT,rE]
  ·simp (disch:=first|assumption|omega) only[S0,rA,rQ,rB,rT,rE]
 ·intro i hi hb hl hp
  have kA:=hq _ (at_mem hi)
  try simp only at kA hp
  obtain⟨lE,km⟩:=kA
  (refine aD ?_;repeat' (refine aC ?_ ?_<;>intro _<;>try simp (disch:=first|assumption|omega) only[S0,rA,rQ,rB,rT,rE,aJ,vD, *]))
 ·intro i hi hb hl hp
  have kA:=hq _ (at_mem hi)
  try simp only at kA hp
  obtain⟨lE,km⟩:=kA
  (refine aD ?_;repeat' (refine aC ?_ ?_<;>intro _<;>try simp (disch:=first|assumption|omega) only[S0,rA,rQ,rB,rT,rE,aJ,vD, *]))
 ·intro hl
  (refine aD ?_;repeat' (refine aC ?_ ?_<;>intro _<;>try simp (disch:=first|assumption|omega) only[S0,rA,rQ,rB,rT,rE, *]))
theorem Kar (n:Int)(rows:List (List bR))(hg:dG n=true)(xs:List (List bR))(hx:xs.length<=1099511627776)(hq:∀ x∈xs,x.length<=1099511627776/\∀ y∈x,y.attr.deps.length<=1099511627776):Fun T 104 [rL xs,i64 n,rL rows]=some [.bool (xs.any (fun l=>decide (6<(l.length:Int))||l.any fun r=>!rowOk n r))]:=by
 rw[aO (t:=Fbb) rfl];unfold Fbb
 (refine aD ?_;repeat' (refine aC ?_ ?_<;>intro _<;>try simp (disch:=first|assumption|omega) only[S0,rA,rQ,rB,rT,rE,Kai,dF, *]))
theorem qX (n:Int)(rows:List (List bR))(hs:mI rows):Fun T 103 [i64 n,rL rows]=some [.bool (bG ⟨n,rows⟩)]:=by
 rw[aO (t:=Fbc) rfl];unfold Fbc;unfold bG
 obtain⟨oB,ll⟩:=hs;have hs3:∀ x∈rows,x.length<=1099511627776/\∀ y∈x,y.attr.deps.length<=1099511627776:=fun x hx=>⟨by have:=(ll x hx).1;omega,fun y hy=>by have:=(ll x hx).2 y hy;omega⟩
 have e:(rows.any fun l=>decide (6<(l.length:Int))||l.any fun r=>!rowOk n r)=!rows.all fun l=>l.all (fun r=>rowOk n r)&&decide ((l.length:Int)<=6):=by
  rw[Bcg];congr 1;funext l;rw[<- Bcg,Bool.not_and,Bool.or_comm];congr 1;by_cases h:(l.length:Int)<=6
  ·simp[h]
  ·simp[h];omega
 (refine aD ?_;repeat' (refine aC ?_ ?_<;>intro _<;>try simp (disch:=first|assumption|omega) only[S0,rA,rQ,rB,rT,rE,iO,Kar,e,Bool.not_not, *]))
theorem Ka7 (xs:List Int)(hx:xs.length<=10000000000):Fun T 57 [rL xs]=some [rL xs]:=by
 rw[aO (t:=Qba) rfl];unfold Qba
 have h0:(aU.mk 1 0).run []=some [.rows 1 []]:=rfl
 (refine aD ?_;repeat' (refine aC ?_ ?_<;>intro _<;>try simp (disch:=first|assumption|omega) only[S0,rA,rQ,rB,rT,rE,h0,gW, *]))
theorem Ja8 (s:Int)(xs:List Int)(hx:xs.length<=10000000000):Fun T 56 [i64 s,rL xs]=some [i64 s,rL xs]:=by
 rw[aO (t:=Qbb) rfl];unfold Qbb
 (refine aD ?_;repeat' (refine aC ?_ ?_<;>intro _<;>try simp (disch:=first|assumption|omega) only[S0,rA,rQ,rB,rT,rE,Ka7, *]))
theorem tL (b8 dq cm bg b7 bn bp bo bf:Int)(av:(List Int))(hx:av.length<=10000000000):Fun T 55 [i64 b8,i64 dq,i64 cm,i64 bg,i64 b7,i64 bn,i64 bp,i64 bo,i64 bf,rL av]=some [i64 b8,i64 dq,i64 cm,i64 bg,i64 b7,i64 bn,i64 bp,i64 bo,i64 bf,rL av]:=by
 rw[aO (t:=Qbc) rfl];unfold Qbc
 (refine aD ?_;repeat' (refine aC ?_ ?_<;>intro _<;>try simp (disch:=first|assumption|omega) only[S0,rA,rQ,rB,rT,rE,Ja8, *]))
theorem wX (b8 dq cm bg b7 bn bp bo bf:Int)(av:(List Int))(hx:av.length<=10000000000):Fun T 132 [i64 b8,i64 dq,i64 cm,i64 bg,i64 b7,i64 bn,i64 bp,i64 bo,i64 bf,rL av]=some [i64 b8,i64 dq,i64 cm,i64 bg,i64 b7,i64 bn,i64 bp,i64 bo,i64 bf,rL av]:=by
 rw[aO (t:=Ebj) rfl];unfold Ebj
 (refine aD ?_;repeat' (refine aC ?_ ?_<;>intro _<;>try simp (disch:=first|assumption|omega) only[S0,rA,rQ,rB,rT,rE,vE, *]))
theorem kI (n:Int)(rows:List (List bR))(rep no:Int)(hg:dG n=true)(hs:mI rows)(hb:InB rows rep)(h1:1<=no)(h2:no<=1000):Fun T 54 [i64 n,rL rows,i64 rep,i64 no]=some [i64 (fM ⟨n,rows⟩ rep no).ballot,i64 (fM ⟨n,rows⟩ rep no).vote,i64 (fM ⟨n,rows⟩ rep no).state,i64 (fM ⟨n,rows⟩ rep no).cmd.kind,i64 (fM ⟨n,rows⟩ rep no).cmd.id,i64 (fM ⟨n,rows⟩ rep no).cmd.src,i64 (fM ⟨n,rows⟩ rep no).cmd.dst,i64 (fM ⟨n,rows⟩ rep no).cmd.amt,i64 (fM ⟨n,rows⟩ rep no).attr.seq,rL (fM ⟨n,rows⟩ rep no).attr.deps]:=by
 rw[aO (t:=Qbd) rfl];unfold Qbd;unfold fM row0
 have hq:=hs.2 _ (fT hb);by_cases h:no<=(atI rows rep).length
 ·have h3:decide (((atI rows rep).length:Int)<no)=false:=by simp;omega
  have gR:InB (atI rows rep) (no-1):=by unfold InB;omega
  have km:=hq.2 _ (fT gR)
  (refine aD ?_;repeat' (refine aC ?_ ?_<;>intro _<;>try simp (disch:=first|assumption|omega) only[S0,rA,rQ,rB,rT,rE,aJ,tL, *]))
 ·have h3:decide (((atI rows rep).length:Int)<no)=true:=by simp;omega
  (refine aD ?_;repeat' (refine aC ?_ ?_<;>intro _<;>try simp (disch:=first|assumption|omega) only[S0,rA,rQ,rB,rT,rE,aJ,mH, *]))
theorem bO (n:Int)(rows:List (List bR))(rep no:Int)(hg:dG n=true)(hs:mI rows)(hb:InB rows rep)(h1:1<=no)(h2:no<=1000):Fun T 131 [i64 n,rL rows,i64 rep,i64 no]=some [i64 (fM ⟨n,rows⟩ rep no).ballot,i64 (fM ⟨n,rows⟩ rep no).vote,i64 (fM ⟨n,rows⟩ rep no).state,i64 (fM ⟨n,rows⟩ rep no).cmd.kind,i64 (fM ⟨n,rows⟩ rep no).cmd.id,i64 (fM ⟨n,rows⟩ rep no).cmd.src,i64 (fM ⟨n,rows⟩ rep no).cmd.dst,i64 (fM ⟨n,rows⟩ rep no).cmd.amt,i64 (fM ⟨n,rows⟩ rep no).attr.seq,rL (fM ⟨n,rows⟩ rep no).attr.deps]:=by
 rw[aO (t:=Ebk) rfl];unfold Ebk;unfold fM row0
 have hq:=hs.2 _ (fT hb);by_cases h:no<=(atI rows rep).length
 ·have h3:decide (no<=((atI rows rep).length:Int))=true:=by simp;omega
  have gR:InB (atI rows rep) (no-1):=by unfold InB;omega
  have km:=hq.2 _ (fT gR)
  (refine aD ?_;repeat' (refine aC ?_ ?_<;>intro _<;>try simp (disch:=first|assumption|omega) only[S0,rA,rQ,rB,rT,rE,aJ,wX, *]))
 ·have h3:decide (no<=((atI rows rep).length:Int))=false:=by simp;omega
  (refine aD ?_;repeat' (refine aC ?_ ?_<;>intro _<;>try simp (disch:=first|assumption|omega) only[S0,rA,rQ,rB,rT,rE,aJ,dZ, *]))
theorem Ka6 (n:Int)(hg:dG n=true):Fun T 60 [i64 n]=some [i64 n,rL (Zbq n.toNat ([]:List bR))]:=by
 rw[aO (t:=Pb7) rfl];unfold Pb7
 have hn:=aY hg
 (refine aD ?_;repeat' (refine aC ?_ ?_<;>intro _<;>try simp (disch:=first|assumption|omega) only[S0,rA,rQ,rB,rT,rE,xU, *]))
theorem Ka5 (n:Int)(rows:List (List bR))(hg:dG n=true)(hl:(rows.length:Int)=n)(hs:mI rows):Fun T 62 [i64 n,rL rows]=some [i64 n,rL rows]:=by
 rw[aO (t:=Pb5) rfl];unfold Pb5
 obtain⟨oB,ll⟩:=hs;have hn:=aY hg;have e0:Zbq n.toNat ([]:List bR)=upto [] rows 0:=by rw[Oaw];congr 1;omega
 simp (disch:=first|assumption|omega) only[SA,SB,SC,SP,SQ,SZ,reduceIte,reduceCtorEq,Nat.reduceAdd,Nat.reduceEqDiff,Ka6];rw[jN rows.length (fun i=>[i64 i,rL (upto [] rows i)]) (.yield 1,[rL rows]) (by rw[e0];rfl) (by simp)]
 ·(refine aD ?_;repeat' (refine aC ?_ ?_<;>intro _<;>try simp (disch:=first|assumption|omega) only[S0,rA,rQ,rB,rT,rE, *]))
 ·intro i hi hlt
  have hb:InB rows (i:Int):=aH.2 hi;have hq:=ll _ (at_mem hi);have hu:(upto [] rows i).length=rows.length:=Uad [] rows (Nat.le_of_lt hi);have rr:InB (upto [] rows i) (i:Int):=aH.2 (by rw[hu];exact hi)
  have u6:upto [] rows i=iJ (upto [] rows i) i ((atI rows (i:Int)).take 0):=by
   have:atI (upto [] rows i) (i:Int)=[]:=by
    unfold upto;rw[Oae,List.getD_eq_getElem?_getD,List.getElem?_append_right (by rw[Zb1];omega),List.getElem?_replicate];split<;>rfl
   have h3:=Sav rr;rw[this]at h3;rw[List.take_zero];exact h3.symm
  have qn:iJ (upto [] rows i) i (atI rows (i:Int))=upto [] rows (i+1):=by
   rw[iJ];exact Uac [] rows (by rw[bC hi];exact List.getElem?_eq_getElem hi)
  obtain⟨lE,km⟩:=hq;have hr:rows.length<=10:=by omega
  simp (disch:=first|assumption|omega) only[S0,rA,rQ,rB,rT,rE,aJ,hlt];rw[jN (atI rows (i:Int)).length (fun j=>[i64 j,rL (iJ (upto [] rows i) i ((atI rows (i:Int)).take j))]) (.yield 3,[rL (upto [] rows (i+1))]) (by rw[<- u6];rfl) (by simp)]
  ·clear hu u6 qn
   simp (disch:=first|assumption|omega) only[S0,rA,rQ,rB,rT,rE]
  ·intro j hj bb
   have gR:InB (atI rows (i:Int)) (j:Int):=aH.2 hj;have hq3:=km _ (at_mem hj)
   have ha:atI (iJ (upto [] rows i) (i:Int) ((atI rows (i:Int)).take j)) (i:Int)=(atI rows (i:Int)).take j:=by
    have:=Bab;exact this.1 rr
   have zo:InB (iJ (upto [] rows i) (i:Int) ((atI rows (i:Int)).take j)) (i:Int):=aH.2 (by rw[iJ,Bce,hu];exact hi);have zi:=take_at hj;have k8:((atI rows (i:Int)).take j).length+1<=100000000000:=by rw[Zb1];omega
   have a18:((atI rows (i:Int)).take j).length+([atI (atI rows (i:Int)) (j:Int)]:List bR).length<=100000000000:=k8;clear hu u6 qn;simp (disch:=first|assumption|omega) only[S0,rA,rQ,rB,rT,rE,aJ,Bac,nT,gW,Mai,Bab,tL,bb,ha,zi]
  ·intro bb
   rw[Acn];clear hu u6
   (refine aD ?_;repeat' (refine aC ?_ ?_<;>intro _<;>try simp (disch:=first|assumption|omega) only[S0,rA,rQ,rB,rT,rE, *]))
 ·intro hlt
  rw[Uae];simp (disch:=first|assumption|omega) only[S0,rA,rQ,rB,rT,rE,hlt]
theorem Wa0 (n:Int)(rows:List (List bR))(rep no:Int)(b8 dq cm bg b7 bn bp bo bf:Int)(av:(List Int))(hg:dG n=true)(hl:(rows.length:Int)=n)(hs:mI rows)(hb:InB rows rep)(h1:1<=no)(h2:no<=1000)(hx:av.length<=10000000000) :
  Fun T 61 [i64 n,rL rows,i64 rep,i64 no,i64 b8,i64 dq,i64 cm,i64 bg,i64 b7,i64 bn,i64 bp,i64 bo,i64 bf,rL av]=some [i64 (Ja6 ⟨n,rows⟩ rep no ⟨b8,dq,cm,⟨bg,b7,bn,bp,bo⟩,⟨bf,av⟩⟩).n,rL (Ja6 ⟨n,rows⟩ rep no ⟨b8,dq,cm,⟨bg,b7,bn,bp,bo⟩,⟨bf,av⟩⟩).rows]:=by
 rw[aO (t:=Pb6) rfl];unfold Pb6;unfold Ja6
 have hq:=hs.2 _ (fT hb);have lE:=hq.1;simp (maxSteps:=2000000) (disch:=first|assumption|omega) only[SA,SB,SC,SP,SQ,SZ,reduceIte,reduceCtorEq,Nat.reduceAdd,Nat.reduceEqDiff,Ka5,hg,hl];rw[Ga7 (T:=T) (.yield 1,[rL (iJ rows rep (ext n (atI rows rep) no))]) (fun j:Nat=>(no-(atI rows rep).length).toNat-j) (fun j=>j<=(no-(atI rows rep).length).toNat) (fun j=>[rL (iJ rows rep (atI rows rep++Zbq j (row0 n)))]) 0 (by rw[Cc2,Zb4,Sav hb];rfl) (by omega) (by simp)]
 ·have gR:InB (iJ rows rep (ext n (atI rows rep) no)) rep:=by unfold InB;rw[iJ,Bce];exact hb
  have ha:atI (iJ rows rep (ext n (atI rows rep) no)) rep=ext n (atI rows rep) no:=Bab.1 hb;have tq:InB (ext n (atI rows rep) no) (no-1):=by unfold InB;rw[Jab (by omega)];omega
  simp (disch:=first|assumption|omega) only[S0,rA,rQ,rB,rT,rE,aJ,Bac,Bab,tL,ha]
 ·intro j hj
  have gR:InB (iJ rows rep (atI rows rep++Zbq j (row0 n))) rep:=by unfold InB;rw[iJ,Bce];exact hb
  have ha:atI (iJ rows rep (atI rows rep++Zbq j (row0 n))) rep=atI rows rep++Zbq j (row0 n):=Bab.1 hb;have hlen:((atI rows rep++Zbq j (row0 n)).length:Int)=(atI rows rep).length+j:=by simp
  have pt:(atI rows rep++Zbq j (row0 n))++[row0 n]=atI rows rep++Zbq (j+1) (row0 n):=by rw[Zbm,<- List.replicate_succ']
  have k8:(atI rows rep++Zbq j (row0 n)).length+([row0 n]:List bR).length<=100000000000:=by simp only[Zbi,Acj,Zbs,Zby];omega
  unfold row0 at pt k8 ha gR hlen ⊢;by_cases hc:(atI rows rep).length+j<no
  ·have gj:decide (((atI rows rep).length:Int)+j<no)=true:=by simpa using hc
   refine .inl ⟨j+1,?_,by omega,by omega⟩;simp (disch:=first|assumption|omega) only[S0,rA,rQ,rB,rT,rE,aJ,Bac,nT,gW,Mai,Bab,mH,ha,hlen,gj,pt]
  ·have gj:decide (((atI rows rep).length:Int)+j<no)=false:=by simpa using hc
   have jo:j=(no-(atI rows rep).length).toNat:=by omega
   refine .inr ?_;simp (disch:=first|assumption|omega) only[S0,rA,rQ,rB,rT,rE,aJ,Bac,nT,gW,Mai,Bab,ha,hlen,gj];rw[jo];rfl
theorem zZ (n:Int)(rows:List (List bR))(rep no:Int)(b8 dq cm bg b7 bn bp bo bf:Int)(av:(List Int))(hg:dG n=true)(hs:mI rows)(hb:InB rows rep)(h1:1<=no)(h2:no<=1000)(hx:av.length<=10000000000) :
  Fun T 136 [i64 rep,i64 no,i64 b8,i64 dq,i64 cm,i64 bg,i64 b7,i64 bn,i64 bp,i64 bo,i64 bf,rL av,i64 n,rL rows]=some [i64 (Ja6 ⟨n,rows⟩ rep no ⟨b8,dq,cm,⟨bg,b7,bn,bp,bo⟩,⟨bf,av⟩⟩).n,rL (Ja6 ⟨n,rows⟩ rep no ⟨b8,dq,cm,⟨bg,b7,bn,bp,bo⟩,⟨bf,av⟩⟩).rows]:=by
 rw[aO (t:=Ebf) rfl];unfold Ebf;unfold Ja6
 have hq:=hs.2 _ (fT hb);have lE:=hq.1;simp (disch:=first|assumption|omega) only[S0,rA,rQ,rB,rT,rE];rw[Ga7 (T:=T) (.yield 1,[rL (iJ rows rep (ext n (atI rows rep) no))]) (fun j:Nat=>(no-(atI rows rep).length).toNat-j) (fun j=>j<=(no-(atI rows rep).length).toNat) (fun j=>[rL (iJ rows rep (atI rows rep++Zbq j (row0 n)))]) 0 (by rw[Cc2,Zb4,Sav hb];rfl) (by omega) (by simp)]
 ·have gR:InB (iJ rows rep (ext n (atI rows rep) no)) rep:=by unfold InB;rw[iJ,Bce];exact hb
  have ha:atI (iJ rows rep (ext n (atI rows rep) no)) rep=ext n (atI rows rep) no:=Bab.1 hb;have tq:InB (ext n (atI rows rep) no) (no-1):=by unfold InB;rw[Jab (by omega)];omega
  simp (disch:=first|assumption|omega) only[S0,rA,rQ,rB,rT,rE,aJ,Bac,Bab,wX,ha]
 ·intro j hj
  have gR:InB (iJ rows rep (atI rows rep++Zbq j (row0 n))) rep:=by unfold InB;rw[iJ,Bce];exact hb
  have ha:atI (iJ rows rep (atI rows rep++Zbq j (row0 n))) rep=atI rows rep++Zbq j (row0 n):=Bab.1 hb;have hlen:((atI rows rep++Zbq j (row0 n)).length:Int)=(atI rows rep).length+j:=by simp
  have pt:(atI rows rep++Zbq j (row0 n))++[row0 n]=atI rows rep++Zbq (j+1) (row0 n):=by rw[Zbm,<- List.replicate_succ']
  have k8:(atI rows rep++Zbq j (row0 n)).length+([row0 n]:List bR).length<=100000000000:=by simp only[Zbi,Acj,Zbs,Zby];omega
  unfold row0 at pt k8 ha gR hlen ⊢;by_cases hc:(atI rows rep).length+j<no
  ·have gj:decide (((atI rows rep).length:Int)+j<no)=true:=by simpa using hc
   refine .inl ⟨j+1,?_,by omega,by omega⟩;simp (disch:=first|assumption|omega) only[S0,rA,rQ,rB,rT,rE,aJ,Bac,nT,gW,Mai,Bab,dZ,ha,hlen,gj,pt]
  ·have gj:decide (((atI rows rep).length:Int)+j<no)=false:=by simpa using hc
   have jo:j=(no-(atI rows rep).length).toNat:=by omega
   refine .inr ?_;simp (disch:=first|assumption|omega) only[S0,rA,rQ,rB,rT,rE,aJ,Bac,nT,gW,Mai,Bab,ha,hlen,gj];rw[jo];rfl
theorem iC (xs:List Int)(n:Int)(hx:xs.length<=1099511627776):Fun T 50 [rL xs,i64 n]=some [.bool (lF xs n)]:=by
 rw[aO (t:=Qbh) rfl];unfold Qbh;unfold lF
 simp (disch:=first|assumption|omega) only[S0,rA,rQ,rB,rT,rE];rw[xG 1 xs (fun x=>x==n) (fun _=>[.bool true])]
 ·(refine aD ?_;repeat' (refine aC ?_ ?_<;>intro _<;>try simp (disch:=first|assumption|omega) only[S0,rA,rQ,rB,rT,rE, *]))
 ·intro i hi hb hl hp
  (refine aD ?_;repeat' (refine aC ?_ ?_<;>intro _<;>try simp (disch:=first|assumption|omega) only[S0,rA,rQ,rB,rT,rE,aJ, *]))
 ·intro i hi hb hl hp
  (refine aD ?_;repeat' (refine aC ?_ ?_<;>intro _<;>try simp (disch:=first|assumption|omega) only[S0,rA,rQ,rB,rT,rE,aJ, *]))
 ·intro hl
  simp (disch:=first|assumption|omega) only[S0,rA,rQ,rB,rT,rE,hl]
theorem slices_Index_int (xs:List Int)(n:Int)(hx:xs.length<=1099511627776):Fun T 117 [rL xs,i64 n]=some [i64 (ixF (fun x=>n==x) xs)]:=by
 rw[aO (t:=Eby) rfl];unfold Eby
 simp (disch:=first|assumption|omega) only[S0,rA,rQ,rB,rT,rE];rw[xG 1 xs (fun x=>n==x) (fun i=>[i64 i])]
 ·cases h:xs.any (fun x=>n==x)
  ·have e:ixF (fun x=>n==x) xs=-1:=by
    have h2:=dF (fun x=>n==x) xs;rw[h]at h2;unfold ixF at h2 ⊢;split at h2<;>simp_all
   rw[e];simp (disch:=first|assumption|omega) only[S0,rA,rQ,rB,rT,rE]
  ·simp (disch:=first|assumption|omega) only[S0,rA,rQ,rB,rT,rE]
 ·intro i hi hb hl hp
  (refine aD ?_;repeat' (refine aC ?_ ?_<;>intro _<;>try simp (disch:=first|assumption|omega) only[S0,rA,rQ,rB,rT,rE,aJ, *]))
 ·intro i hi hb hl hp
  (refine aD ?_;repeat' (refine aC ?_ ?_<;>intro _<;>try simp (disch:=first|assumption|omega) only[S0,rA,rQ,rB,rT,rE,aJ, *]))
 ·intro hl
  simp (disch:=first|assumption|omega) only[S0,rA,rQ,rB,rT,rE,hl]
theorem slices_Contains_int (xs:List Int)(n:Int)(hx:xs.length<=1099511627776):Fun T 116 [rL xs,i64 n]=some [.bool (lF xs n)]:=by
 rw[aO (t:=Ebz) rfl];unfold Ebz
 have e:lF xs n=xs.any fun x=>n==x:=by
  unfold lF;congr 1;funext x;rw[Bcx,beq_iff_eq,beq_iff_eq];exact eq_comm
 simp (disch:=first|assumption|omega) only[S0,rA,rQ,rB,rT,rE,slices_Index_int,dF,e]
theorem Da3 (xs:List Int)(n:Int)(hx:xs.length<=10000000000):Fun T 70 [rL xs,i64 n]=some [rL (Oar xs n)]:=by
 rw[aO (t:=Pbx) rfl];unfold Pbx;unfold Oar
 have hk:=Jbl xs n;have h0:(aU.mk 1 0).run []=some [.rows 1 []]:=rfl;simp (disch:=first|assumption|omega) only[S0,rA,rQ,rB,rT,rE];rw[Ga7 (T:=T) (.yield 1,[i64 (oG xs n:Nat)]) (fun k:Nat=>oG xs n-k) (fun k=>k<=oG xs n) (fun k=>[i64 k]) 0 rfl (by omega) (by simp)]
 ·have l1:(xs.take (oG xs n)).length<=10000000000:=by rw[Zb1];omega
  have l2:(xs.take (oG xs n)).length+([n]:List Int).length<=100000000000:=by simp only[Zbs,Zby];omega
  have l3:(xs.take (oG xs n)++[n]).length+(xs.drop (oG xs n)).length<=100000000000:=by simp only[Zbi,Zbs,Zby,Acv];omega
  by_cases h:oG xs n<xs.length
  ·have hb:InB xs (oG xs n:Nat):=aH.2 h
   have h2:decide ((oG xs n:Int)<xs.length)=true:=by simp;omega
   cases h3:atI xs (oG xs n:Nat)==n
   ·simp (disch:=first|assumption|omega) only[S0,rA,rQ,rB,rT,rE,aJ,nT,gW,vM,h0,h2,h3,hb,Zb7,Bcf,Bcl,Acn]
   ·simp (disch:=first|assumption|omega) only[S0,rA,rQ,rB,rT,rE,aJ,nT,gW,vM,h0,h2,h3,hb]
  ·have h2:decide ((oG xs n:Int)<xs.length)=false:=by simp;omega
   simp (disch:=first|assumption|omega) only[S0,rA,rQ,rB,rT,rE,aJ,nT,gW,vM,h0,h2,Zb7,Bcf,Bcl,Acn]
 ·intro k ox
  by_cases h:k<oG xs n
  ·have hb:InB xs (k:Int):=aH.2 (by omega)
   have h2:decide ((k:Int)<xs.length)=true:=by simp;omega
   have h3:decide (atI xs (k:Int)<n)=true:=by simpa using Zat h
   refine .inl ⟨k+1,?_,by omega,by omega⟩;simp (disch:=first|assumption|omega) only[S0,rA,rQ,rB,rT,rE,aJ,h2,h3,hb]
  ·obtain rfl:k=oG xs n:=by omega
   refine .inr ?_;by_cases h4:oG xs n<xs.length
   ·have hb:InB xs (oG xs n:Nat):=aH.2 h4
    have h2:decide ((oG xs n:Int)<xs.length)=true:=by simp;omega
    have h3:decide (atI xs (oG xs n:Nat)<n)=false:=by simpa using Zau h4
    simp (disch:=first|assumption|omega) only[S0,rA,rQ,rB,rT,rE,aJ,h2,h3,hb]
   ·have h2:decide ((oG xs n:Int)<xs.length)=false:=by simp;omega
    simp (disch:=first|assumption|omega) only[S0,rA,rQ,rB,rT,rE,aJ,h2]
theorem qU (k i f t a:Int)(hc:qY ⟨k,i,f,t,a⟩=true):Fun T 79 [i64 k,i64 i,i64 f,i64 t,i64 a]=some [rL (kW ⟨k,i,f,t,a⟩)]:=by
 rw[aO (t:=Pbo) rfl];unfold Pbo;unfold kW
 obtain⟨hk,hm,hr⟩:=Cbd hc;simp only at hk hm hr
 rcases hk with rfl|rfl|rfl
 ·simp (disch:=first|assumption|omega) only[S0,rA,rQ,rB,rT,rE,Kbt]
 ·have cJ:=(hm rfl).2.2.1
  have l1:([f]:List Int).length<=10000000000:=by simp
  simp (disch:=first|assumption|omega) only[S0,rA,rQ,rB,rT,rE,nT,Da3,Wbp cJ]
 ·simp (disch:=first|assumption|omega) only[S0,rA,rQ,rB,rT,rE,nT]
theorem Faj (k i f t a:Int):Fun T 162 [i64 k,i64 i,i64 f,i64 t,i64 a]=some [rL (kW ⟨k,i,f,t,a⟩)]:=by
 rw[aO (t:=Dbs) rfl];unfold Dbs;unfold kW
 have h0:(aU.mk 1 0).run []=some [.rows 1 []]:=rfl
 (refine aD ?_;repeat' (refine aC ?_ ?_<;>intro _<;>try simp (disch:=first|assumption|omega) only[S0,rA,rQ,rB,rT,rE,nT,h0,Kbt, *]))
theorem Fa3 (eV j0 gu gq gn:Int)(ct fk de df dc:Int)(ha:qY ⟨eV,j0,gu,gq,gn⟩=true)(hb:qY ⟨ct,fk,de,df,dc⟩=true):Fun T 78 [i64 eV,i64 j0,i64 gu,i64 gq,i64 gn,i64 ct,i64 fk,i64 de,i64 df,i64 dc]=some [.bool (zY ⟨eV,j0,gu,gq,gn⟩ ⟨ct,fk,de,df,dc⟩)]:=by
 rw[aO (t:=Pbp) rfl];unfold Pbp;unfold zY
 have la:=yC ⟨eV,j0,gu,gq,gn⟩;have lb:=yC ⟨ct,fk,de,df,dc⟩;have lb':(kW ⟨ct,fk,de,df,dc⟩).length<=1099511627776:=by omega
 simp (disch:=first|assumption|omega) only[S0,rA,rQ,rB,rT,rE,qU,ha];rw[xG 1 (kW ⟨eV,j0,gu,gq,gn⟩) (fun k=>lF (kW ⟨ct,fk,de,df,dc⟩) k) (fun _=>[.bool true])]
 ·(refine aD ?_;repeat' (refine aC ?_ ?_<;>intro _<;>try simp (disch:=first|assumption|omega) only[S0,rA,rQ,rB,rT,rE, *]))
 ·intro i hi gR hl hp
  simp (disch:=first|assumption|omega) only[S0,rA,rQ,rB,rT,rE,aJ,qU,iC,hb,gR,hl,hp]
 ·intro i hi gR hl hp
  simp (disch:=first|assumption|omega) only[S0,rA,rQ,rB,rT,rE,aJ,qU,iC,hb,gR,hl,hp]
 ·intro hl
  simp (disch:=first|assumption|omega) only[S0,rA,rQ,rB,rT,rE,hl]
theorem vC (n:Int)(ct fk de df dc:Int):Fun T 165 [i64 n,i64 ct,i64 fk,i64 de,i64 df,i64 dc]=some [.bool (lF (kW ⟨ct,fk,de,df,dc⟩) n)]:=by
 rw[aO (t:=Dbp) rfl];unfold Dbp
 have lb:=yC ⟨ct,fk,de,df,dc⟩;have lb':(kW ⟨ct,fk,de,df,dc⟩).length<=1099511627776:=by omega
 simp (disch:=first|assumption|omega) only[S0,rA,rQ,rB,rT,rE,Faj,slices_Contains_int]
theorem Kah (ct fk de df dc:Int)(xs:List Int)(hx:xs.length<=1099511627776):Fun T 164 [rL xs,i64 ct,i64 fk,i64 de,i64 df,i64 dc]=some [i64 (ixF (fun x=>lF (kW ⟨ct,fk,de,df,dc⟩) x) xs)]:=by
 rw[aO (t:=Dbq) rfl];unfold Dbq
 simp (disch:=first|assumption|omega) only[S0,rA,rQ,rB,rT,rE,aJ, *];rw[xG 1 xs (fun x=>lF (kW ⟨ct,fk,de,df,dc⟩) x) (fun i=>[i64 i])]
 ·cases h:xs.any (fun x=>lF (kW ⟨ct,fk,de,df,dc⟩) x)
  ·have e:ixF (fun x=>lF (kW ⟨ct,fk,de,df,dc⟩) x) xs=-1:=by
    have h2:=dF (fun x=>lF (kW ⟨ct,fk,de,df,dc⟩) x) xs;rw[h]at h2;unfold ixF at h2 ⊢;split at h2<;>simp_all
   rw[e];simp (disch:=first|assumption|omega) only[S0,rA,rQ,rB,rT,rE]
  ·simp (disch:=first|assumption|omega) only[S0,rA,rQ,rB,rT,rE]
 ·intro i hi hb hl hp
  (refine aD ?_;repeat' (refine aC ?_ ?_<;>intro _<;>try simp (disch:=first|assumption|omega) only[S0,rA,rQ,rB,rT,rE,aJ,vC, *]))
 ·intro i hi hb hl hp
  (refine aD ?_;repeat' (refine aC ?_ ?_<;>intro _<;>try simp (disch:=first|assumption|omega) only[S0,rA,rQ,rB,rT,rE,aJ,vC, *]))
 ·intro hl
  (refine aD ?_;repeat' (refine aC ?_ ?_<;>intro _<;>try simp (disch:=first|assumption|omega) only[S0,rA,rQ,rB,rT,rE, *]))
theorem Kaq (ct fk de df dc:Int)(xs:List Int)(hx:xs.length<=1099511627776):Fun T 163 [rL xs,i64 ct,i64 fk,i64 de,i64 df,i64 dc]=some [.bool (xs.any (fun x=>lF (kW ⟨ct,fk,de,df,dc⟩) x))]:=by
 rw[aO (t:=Dbr) rfl];unfold Dbr
 (refine aD ?_;repeat' (refine aC ?_ ?_<;>intro _<;>try simp (disch:=first|assumption|omega) only[S0,rA,rQ,rB,rT,rE,Kah,dF, *]))
theorem Kal (eV j0 gu gq gn:Int)(ct fk de df dc:Int):Fun T 161 [i64 eV,i64 j0,i64 gu,i64 gq,i64 gn,i64 ct,i64 fk,i64 de,i64 df,i64 dc]=some [.bool (zY ⟨eV,j0,gu,gq,gn⟩ ⟨ct,fk,de,df,dc⟩)]:=by
 rw[aO (t:=Dbt) rfl];unfold Dbt;unfold zY
 have la:=yC ⟨eV,j0,gu,gq,gn⟩;have la':(kW ⟨eV,j0,gu,gq,gn⟩).length<=1099511627776:=by omega
 simp (disch:=first|assumption|omega) only[S0,rA,rQ,rB,rT,rE,Faj,Kaq]
theorem kM (n:Int)(rows:List (List bR))(hs:∀ l∈rows,l.length<=6)(hl:rows.length<=100):Fun T 53 [i64 n,rL rows]=some [rL (bU rows)]:=by
 rw[aO (t:=Qbe) rfl];unfold Qbe;unfold bU
 simp (disch:=first|assumption|omega) only[S0,rA,rQ,rB,rT,rE];rw[jN rows.length (fun k=>[rL (Ga1 rows k),i64 k]) (.yield 1,[rL (Ga1 rows rows.length)]) rfl (by simp)]
 ·simp (disch:=first|assumption|omega) only[S0,rA,rQ,rB,rT,rE]
 ·intro k hk hlt
  have hb:InB rows (k:Int):=aH.2 hk;have h6:=hs _ (at_mem hk);have hln:=nQ hs (m:=k) (by omega);simp (disch:=first|assumption|omega) only[S0,rA,rQ,rB,rT,rE,aJ,hlt];rw[jN (atI rows (k:Int)).length (fun i=>[rL (Ga1 rows k++gU (atI rows (k:Int)) k i),i64 i]) (.yield 3,[rL (Ga1 rows (k+1))]) (by show [rL (Ga1 rows k),_]=_;simp[gU,aL.val]) (by simp)]
  ·simp (disch:=first|assumption|omega) only[S0,rA,rQ,rB,rT,rE]
  ·intro i hi bb
   have gR:InB (atI rows (k:Int)) (i:Int):=aH.2 hi;have hlc:=uL (atI rows (k:Int)) k i
   have k8:(Ga1 rows k++gU (atI rows (k:Int)) k i).length+([[(k:Int),(i:Int)+1]]:List (List Int)).length<=100000000000:=by
    rw[Zbi];simp only[Zbs,Zby];omega
   have e:=qO (atI rows (k:Int)) k i;cases aE:(atI (atI rows (k:Int)) (i:Int)).state==3
   ·rw[aE]at e
    simp only[Zbg,if_false,Zb4]at e;simp (disch:=first|assumption|omega) only[S0,rA,rQ,rB,rT,rE,aJ,bb,aE,e]
   ·rw[aE]at e
    simp only[if_true]at e;simp (disch:=first|assumption|omega) only[S0,rA,rQ,rB,rT,rE,aJ,nT,gW,bb,aE,e,<- Zbm]
  ·intro bb
   rw[<- Dad];simp (disch:=first|assumption|omega) only[S0,rA,rQ,rB,rT,rE,bb]
 ·intro hlt
  simp (disch:=first|assumption|omega) only[S0,rA,rQ,rB,rT,rE,hlt]
theorem vK (k m:Int)(b8 dq cm bg b7 bn bp bo bf:Int)(av:(List Int))(out:List (List Int))(hl:out.length<=10000000000):Fun T 130 [i64 k,i64 m,i64 b8,i64 dq,i64 cm,i64 bg,i64 b7,i64 bn,i64 bp,i64 bo,i64 bf,rL av,rL out]=some [rL (out++if cm==3 then [[k,m]] else [])]:=by
 rw[aO (t:=Ebl) rfl];unfold Ebl
 have k8:out.length+([[k,m]]:List (List Int)).length<=100000000000:=by simp only[Zbs,Zby];omega
 cases aE:cm==3
 ·simp (disch:=first|assumption|omega) only[S0,rA,rQ,rB,rT,rE,aE,Zb4,Zbg]
 ·simp (disch:=first|assumption|omega) only[S0,rA,rQ,rB,rT,rE,nT,gW,aE]
theorem Kao (n:Int)(rows:List (List bR))(hs:∀ l∈rows,l.length<=6)(hl:rows.length<=100):Fun T 129 [i64 n,rL rows,.rows 1 []]=some [rL (bU rows)]:=by
 rw[aO (t:=Ebm) rfl];unfold Ebm;unfold bU
 simp (disch:=first|assumption|omega) only[S0,rA,rQ,rB,rT,rE];rw[jN rows.length (fun k=>[i64 k,rL (Ga1 rows k)]) (.yield 1,[rL (Ga1 rows rows.length)]) rfl (by simp)]
 ·simp (disch:=first|assumption|omega) only[S0,rA,rQ,rB,rT,rE]
 ·intro k hk hlt
  have hb:InB rows (k:Int):=aH.2 hk;have h6:=hs _ (at_mem hk);have hln:=nQ hs (m:=k) (by omega);simp (disch:=first|assumption|omega) only[S0,rA,rQ,rB,rT,rE,aJ,hlt];rw[jN (atI rows (k:Int)).length (fun i=>[i64 i,rL (Ga1 rows k++gU (atI rows (k:Int)) k i)]) (.yield 3,[rL (Ga1 rows (k+1))]) (by show [_,rL (Ga1 rows k)]=_;simp[gU,aL.val]) (by simp)]
  ·simp (disch:=first|assumption|omega) only[S0,rA,rQ,rB,rT,rE]
  ·intro i hi bb
   have gR:InB (atI rows (k:Int)) (i:Int):=aH.2 hi;have hlc:=uL (atI rows (k:Int)) k i
   have k8:(Ga1 rows k++gU (atI rows (k:Int)) k i).length<=10000000000:=by
    rw[Zbi];omega
   have e:=qO (atI rows (k:Int)) k i;simp (disch:=first|assumption|omega) only[S0,rA,rQ,rB,rT,rE,aJ,vK,bb,e,Zbm]
  ·intro bb
   rw[<- Dad];simp (disch:=first|assumption|omega) only[S0,rA,rQ,rB,rT,rE,bb]
 ·intro hlt
  simp (disch:=first|assumption|omega) only[S0,rA,rQ,rB,rT,rE,hlt]
theorem gZ (n:Int)(rows:List (List bR))(hs:∀ l∈rows,l.length<=6)(hl:rows.length<=100):Fun T 128 [i64 n,rL rows]=some [rL (bU rows)]:=by
 rw[aO (t:=Ebn) rfl];unfold Ebn
 have h0:(aU.mk 1 0).run []=some [.rows 1 []]:=rfl;simp (disch:=first|assumption|omega) only[S0,rA,rQ,rB,rT,rE,h0,Kao]
theorem fI (l:List (List Int))(x:List Int)(hl:l.length<=1099511627776)(hx:x.length<=1099511627776):Fun T 67 [rL l,rL x]=some [i64 (iV l x)]:=by
 rw[aO (t:=Pb0) rfl];unfold Pb0;unfold iV
 simp (disch:=first|assumption|omega) only[S0,rA,rQ,rB,rT,rE];rw[xG 1 l (fun y=>decide (x=y)) (fun i=>[i64 i])]
 ·cases h:l.any (fun y=>decide (x=y))
  ·have e:ixF (fun y=>decide (x=y)) l=-1:=by
    have h2:=dF (fun y=>decide (x=y)) l;rw[h]at h2;unfold ixF at h2 ⊢;split at h2<;>simp_all
   rw[e];simp (disch:=first|assumption|omega) only[S0,rA,rQ,rB,rT,rE]
  ·simp (disch:=first|assumption|omega) only[S0,rA,rQ,rB,rT,rE]
 ·intro i hi hb hlt hp
  simp (disch:=first|assumption|omega) only[S0,rA,rQ,rB,rT,rE,aJ,Aal,hlt,hp]
 ·intro i hi hb hlt hp
  simp (disch:=first|assumption|omega) only[S0,rA,rQ,rB,rT,rE,aJ,Aal,hlt,hp]
 ·intro hlt
  simp (disch:=first|assumption|omega) only[S0,rA,rQ,rB,rT,rE,hlt]
theorem qH (y x:List Int)(hx:x.length<=1099511627776):Fun T 147 [rL y,rL x]=some [.bool (decide (x=y))]:=by
 rw[aO (t:=Db4) rfl];unfold Db4
 simp (disch:=first|assumption|omega) only[S0,rA,rQ,rB,rT,rE,slices_Equal_int]
theorem Fa8 (x:List Int)(l8:x.length<=1099511627776)(xs:List (List Int))(hx:xs.length<=1099511627776):Fun T 146 [rL xs,rL x]=some [i64 (ixF (fun y=>decide (x=y)) xs)]:=by
 rw[aO (t:=Db5) rfl];unfold Db5
 simp (disch:=first|assumption|omega) only[S0,rA,rQ,rB,rT,rE,aJ, *];rw[xG 1 xs (fun y=>decide (x=y)) (fun i=>[i64 i])]
 ·cases h:xs.any (fun y=>decide (x=y))
  ·have e:ixF (fun y=>decide (x=y)) xs=-1:=by
    have h2:=dF (fun y=>decide (x=y)) xs;rw[h]at h2;unfold ixF at h2 ⊢;split at h2<;>simp_all
   rw[e];simp (disch:=first|assumption|omega) only[S0,rA,rQ,rB,rT,rE]
  ·simp (disch:=first|assumption|omega) only[S0,rA,rQ,rB,rT,rE]
 ·intro i hi hb hl hp
  (refine aD ?_;repeat' (refine aC ?_ ?_<;>intro _<;>try simp (disch:=first|assumption|omega) only[S0,rA,rQ,rB,rT,rE,aJ,qH, *]))
 ·intro i hi hb hl hp
  (refine aD ?_;repeat' (refine aC ?_ ?_<;>intro _<;>try simp (disch:=first|assumption|omega) only[S0,rA,rQ,rB,rT,rE,aJ,qH, *]))
 ·intro hl
  (refine aD ?_;repeat' (refine aC ?_ ?_<;>intro _<;>try simp (disch:=first|assumption|omega) only[S0,rA,rQ,rB,rT,rE, *]))
theorem Gag (x:List Int)(l8:x.length<=1099511627776)(xs:List (List Int))(hx:xs.length<=1099511627776):Fun T 145 [rL xs,rL x]=some [.bool (xs.any (fun y=>decide (x=y)))]:=by
 rw[aO (t:=Db6) rfl];unfold Db6
 (refine aD ?_;repeat' (refine aC ?_ ?_<;>intro _<;>try simp (disch:=first|assumption|omega) only[S0,rA,rQ,rB,rT,rE,Fa8,dF, *]))
theorem nC (l:List (List Int))(x:List Int)(hl:l.length<=1099511627776)(hx:x.length<=1099511627776):Fun T 144 [rL l,rL x]=some [.bool (l.any fun y=>decide (x=y))]:=by
 rw[aO (t:=Db7) rfl];unfold Db7
 simp (disch:=first|assumption|omega) only[S0,rA,rQ,rB,rT,rE,Gag]
theorem oP (y x:List Int)(hx:x.length<=1099511627776):Fun T 168 [rL y,rL x]=some [.bool (decide (x=y))]:=by
 rw[aO (t:=Dbm) rfl];unfold Dbm
 simp (disch:=first|assumption|omega) only[S0,rA,rQ,rB,rT,rE,slices_Equal_int]
theorem Eae (x:List Int)(l8:x.length<=1099511627776)(xs:List (List Int))(hx:xs.length<=1099511627776):Fun T 167 [rL xs,rL x]=some [i64 (ixF (fun y=>decide (x=y)) xs)]:=by
 rw[aO (t:=Dbn) rfl];unfold Dbn
 simp (disch:=first|assumption|omega) only[S0,rA,rQ,rB,rT,rE,aJ, *];rw[xG 1 xs (fun y=>decide (x=y)) (fun i=>[i64 i])]
 ·cases h:xs.any (fun y=>decide (x=y))
  ·have e:ixF (fun y=>decide (x=y)) xs=-1:=by
    have h2:=dF (fun y=>decide (x=y)) xs;rw[h]at h2;unfold ixF at h2 ⊢;split at h2<;>simp_all
   rw[e];simp (disch:=first|assumption|omega) only[S0,rA,rQ,rB,rT,rE]
  ·simp (disch:=first|assumption|omega) only[S0,rA,rQ,rB,rT,rE]
 ·intro i hi hb hl hp
  (refine aD ?_;repeat' (refine aC ?_ ?_<;>intro _<;>try simp (disch:=first|assumption|omega) only[S0,rA,rQ,rB,rT,rE,aJ,oP, *]))
 ·intro i hi hb hl hp
  (refine aD ?_;repeat' (refine aC ?_ ?_<;>intro _<;>try simp (disch:=first|assumption|omega) only[S0,rA,rQ,rB,rT,rE,aJ,oP, *]))
 ·intro hl
  (refine aD ?_;repeat' (refine aC ?_ ?_<;>intro _<;>try simp (disch:=first|assumption|omega) only[S0,rA,rQ,rB,rT,rE, *]))
theorem Eag (x:List Int)(l:List (List Int))(hl:l.length<=1099511627776)(hx:x.length<=1099511627776):Fun T 166 [rL x,rL l]=some [i64 (iV l x)]:=by
 rw[aO (t:=Dbo) rfl];unfold Dbo;unfold iV
 simp (disch:=first|assumption|omega) only[S0,rA,rQ,rB,rT,rE,Eae]
theorem Hao (n:Int)(rows:List (List bR))(rep no:Int)(ht:bG ⟨n,rows⟩=true)(hi:inst n rep no=true)(hs:mI rows):Fun T 66 [i64 n,rL rows,i64 rep,i64 no]=some [rL (Kap ⟨n,rows⟩ rep no)]:=by
 rw[aO (t:=Pb1) rfl];unfold Pb1;unfold Kap
 have hg:dG n=true:=bA ht;have hn:=aY hg;have hb:InB rows rep:=dL ht hi;have hr:=bJ hi;have hd:=eF ht hi;have h6:=nU (mW ht hi) hg;simp only at hd;simp (disch:=first|assumption|omega) only[S0,rA,rQ,rB,rT,rE,kI];generalize (fM ⟨n,rows⟩ rep no).attr.deps=deps at hd h6 ⊢;have pC:deps.length<=5:=by omega
 rw[jN deps.length (fun k=>[rL (Va3 deps rep no k),i64 k]) (.yield 1,[rL (Va3 deps rep no deps.length)]) rfl (by simp)]
 ·simp (disch:=first|assumption|omega) only[S0,rA,rQ,rB,rT,rE]
 ·intro k hk hlt
  have qa:InB deps (k:Int):=aH.2 hk;have hq:=h6 _ (at_mem hk);have hln:=Gaz (deps:=deps) (rep:=rep) (no:=no) (fun d hd=>(h6 d hd).2) (m:=k) (by omega);simp (disch:=first|assumption|omega) only[S0,rA,rQ,rB,rT,rE,aJ,hlt];rw[jN (atI deps (k:Int)).toNat (fun i=>[rL (Va3 deps rep no k++xK k rep no i),i64 ((i:Int)+1)]) (.yield 3,[rL (Va3 deps rep no (k+1))]) (by show [rL (Va3 deps rep no k),_]=_;simp[xK,aL.val]) (by simp)]
  ·simp (disch:=first|assumption|omega) only[S0,rA,rQ,rB,rT,rE]
  ·intro i oY bb
   have hlc:=Ean (k:Int) rep no i
   have k8:(Va3 deps rep no k++xK (k:Int) rep no i).length+([[(k:Int),(i:Int)+1]]:List (List Int)).length<=100000000000:=by
    rw[Zbi];simp only[Zbs,Zby];omega
   have hle:decide ((i:Int)+1<=atI deps (k:Int))=true:=by simp;omega
   have e:=Jag (k:Int) rep no i;cases h1:(k:Int)==rep
   ·rw[h1]at e
    simp only[Bool.not_false,Bool.true_or,if_true]at e;simp (disch:=first|assumption|omega) only[S0,rA,rQ,rB,rT,rE,nT,gW,hle,h1,e,<- Zbm]
   ·cases h2:(i:Int)+1==no
    ·rw[h1,h2]at e
     simp only[Bool.not_false,Cca,Cct,if_true]at e;simp (disch:=first|assumption|omega) only[S0,rA,rQ,rB,rT,rE,nT,gW,hle,h1,h2,e,<- Zbm]
    ·rw[h1,h2]at e
     simp only[Cca,Cci,Zbg,if_false,Zb4]at e;simp (disch:=first|assumption|omega) only[S0,rA,rQ,rB,rT,rE,nT,gW,hle,h1,h2,e]
  ·intro bb
   have hle:decide ((((atI deps (k:Int)).toNat:Nat):Int)+1<=atI deps (k:Int))=false:=by simp;omega
   rw[<- Rak];simp (disch:=first|assumption|omega) only[S0,rA,rQ,rB,rT,rE,hle]
 ·intro hlt
  simp (disch:=first|assumption|omega) only[S0,rA,rQ,rB,rT,rE,hlt]
theorem Pag (n:Int)(rows:List (List bR))(ht:bG ⟨n,rows⟩=true)(hs:mI rows):Fun T 69 [i64 n,rL rows]=some [rL (bU rows),rL (La7 ⟨n,rows⟩)]:=by
 rw[aO (t:=Pby) rfl];unfold Pby;unfold La7
 have hg:dG n=true:=bA ht;have hn:=aY hg;have hl:(rows.length:Int)=n:=dM ht;have h6:∀ l∈rows,l.length<=6:=fun l hl=>(dV ht hl).1
 have jh:rows.length<=100:=by omega
 have iz:(bU rows).length<=6*rows.length:=nQ h6 (Zbr _);have a6b:(bU rows).length<=1099511627776:=by omega
 simp (disch:=first|assumption|omega) only[S0,rA,rQ,rB,rT,rE,kM];rw[jN (bU rows).length (fun k=>[rL (oV ⟨n,rows⟩ k),i64 k]) (.yield 1,[rL (oV ⟨n,rows⟩ (bU rows).length)]) rfl (by simp)]
 ·simp (disch:=first|assumption|omega) only[S0,rA,rQ,rB,rT,rE]
 ·intro k hk hlt
  have hb:InB (bU rows) (k:Int):=aH.2 hk;have cY:=at_mem hk;obtain⟨x0,x1,l8,xi,-⟩:=iI ht cY;simp only at xi;have py:=Bba ht cY;simp only at py;have hgs:=Iay ⟨n,rows⟩ k;simp only at hgs;rw[<- py]at hgs;have hd6:=nU (mW ht xi) hg;have pC:=eF ht xi;simp only at pC
  have a4v:(Kap ⟨n,rows⟩ (atI (atI (bU rows) (k:Int)) 0) (atI (atI (bU rows) (k:Int)) 1)).length<=30:=by
   have:=Gaz (rep:=atI (atI (bU rows) (k:Int)) 0) (no:=atI (atI (bU rows) (k:Int)) 1) (fun d hd=>(hd6 d hd).2) (Zbr _);unfold Kap;omega
  have k8:(oV ⟨n,rows⟩ k).length+1<=100000000000:=by rw[La6];omega
  simp (disch:=first|assumption|omega) only[S0,rA,rQ,rB,rT,rE,aJ,Hao,hlt]
  have ma:∀ y∈Kap ⟨n,rows⟩ (atI (atI (bU rows) (k:Int)) 0) (atI (atI (bU rows) (k:Int)) 1),y.length<=1099511627776:=fun y hy=>by
   obtain⟨_,_,_,_,_,rfl⟩:=Gay.1 hy;simp
  generalize Kap ⟨n,rows⟩ (atI (atI (bU rows) (k:Int)) 0) (atI (atI (bU rows) (k:Int)) 1)=ys at a4v hgs py ma ⊢;rw[jN ys.length (fun i=>[rL (Ra5 (bU rows) ys i),i64 i]) (.yield 3,[rL (Ra5 (bU rows) ys ys.length)]) rfl (by simp)]
  ·have a18:(oV ⟨n,rows⟩ k).length+([Ra5 (bU rows) ys ys.length]:List (List Int)).length<=100000000000:=k8
   simp (disch:=first|assumption|omega) only[S0,rA,rQ,rB,rT,rE,nT,gW,hgs]
  ·intro i hi bb
   have zy:InB ys (i:Int):=aH.2 hi;have xq:=ma _ (at_mem hi);have ou:=Ua6 (bU rows) ys i;have hpl2:(Ra5 (bU rows) ys i).length<=10000000000:=by omega
   rw[Ba8];cases hf:decide (0<=iV (bU rows) (atI ys (i:Int)))
   ·simp (disch:=first|assumption|omega) only[S0,rA,rQ,rB,rT,rE,aJ,fI,bb,hf,Zbg]
   ·simp (disch:=first|assumption|omega) only[S0,rA,rQ,rB,rT,rE,aJ,fI,Da3,bb,hf]
  ·intro bb
   simp (disch:=first|assumption|omega) only[S0,rA,rQ,rB,rT,rE,bb]
 ·intro hlt
  simp (disch:=first|assumption|omega) only[S0,rA,rQ,rB,rT,rE,hlt]
theorem Gac (n:Int)(rows:List (List bR))(ht:bG ⟨n,rows⟩=true)(hs:mI rows):Fun T 149 [i64 n,rL rows]=some [rL (bU rows),rL (La7 ⟨n,rows⟩)]:=by
 rw[aO (t:=Db3) rfl];unfold Db3;unfold La7
 have hg:dG n=true:=bA ht;have hn:=aY hg;have hl:(rows.length:Int)=n:=dM ht;have h6:∀ l∈rows,l.length<=6:=fun l hl=>(dV ht hl).1
 have jh:rows.length<=100:=by omega
 have iz:(bU rows).length<=6*rows.length:=nQ h6 (Zbr _);have h0:(aU.mk 1 0).run []=some [.rows 1 []]:=rfl;simp (disch:=first|assumption|omega) only[S0,rA,rQ,rB,rT,rE,gZ,h0];rw[jN (bU rows).length (fun k=>[rL (oV ⟨n,rows⟩ k),i64 k]) (.yield 1,[rL (oV ⟨n,rows⟩ (bU rows).length)]) rfl (by simp)]
 ·simp (disch:=first|assumption|omega) only[S0,rA,rQ,rB,rT,rE]
 ·intro k hk hlt
  have hb:InB (bU rows) (k:Int):=aH.2 hk;have cY:=at_mem hk;obtain⟨x0,x1,l8,xi,-⟩:=iI ht cY;simp only at xi;have xr:=bJ xi;have xb:=dL ht xi;simp only at xb;have pS:(atI (bU rows) (k:Int)).length<=1099511627776:=by omega
  have hgs:=Iay ⟨n,rows⟩ k;simp only at hgs;have hd:=eF ht xi;simp only at hd;simp (disch:=first|assumption|omega) only[S0,rA,rQ,rB,rT,rE,aJ,bO,hlt,h0];rw[jN (bU rows).length (fun i=>[rL (xA (bU rows) (fM ⟨n,rows⟩ (atI (atI (bU rows) (k:Int)) 0) (atI (atI (bU rows) (k:Int)) 1)).attr.deps (atI (bU rows) (k:Int)) i),i64 i]) (.yield 3,[rL (xA (bU rows) (fM ⟨n,rows⟩ (atI (atI (bU rows) (k:Int)) 0) (atI (atI (bU rows) (k:Int)) 1)).attr.deps (atI (bU rows) (k:Int)) (bU rows).length)]) rfl (by simp)]
  ·have k8:(oV ⟨n,rows⟩ k).length+1<=100000000000:=by rw[La6];omega
   have a18:(oV ⟨n,rows⟩ k).length+([xA (bU rows) (fM ⟨n,rows⟩ (atI (atI (bU rows) (k:Int)) 0) (atI (atI (bU rows) (k:Int)) 1)).attr.deps (atI (bU rows) (k:Int)) (bU rows).length]:List (List Int)).length<=100000000000:=k8;simp (disch:=first|assumption|omega) only[S0,rA,rQ,rB,rT,rE,nT,gW,hgs]
  ·intro i hi bb
   have sY:InB (bU rows) (i:Int):=aH.2 hi;obtain⟨y0,y1,-,yi,-⟩:=iI ht (at_mem hi);simp only at yi;have yr:=bJ yi;have hbd:=Ibx ht xi yi;rw[Eah];unfold Xaw;generalize (fM ⟨n,rows⟩ (atI (atI (bU rows) (k:Int)) 0) (atI (atI (bU rows) (k:Int)) 1)).attr.deps=deps at hbd ⊢;have hhl:=Iaw (bU rows) deps (atI (bU rows) (k:Int)) i;have k8:(xA (bU rows) deps (atI (bU rows) (k:Int)) i).length+([(i:Int)]:List Int).length<=100000000000:=by simp only[Zbs,Zby];omega
   cases h1:decide (atI (bU rows) (k:Int)=atI (bU rows) (i:Int))
   ·cases h2:decide (atI (atI (bU rows) (i:Int)) 1<=atI deps (atI (atI (bU rows) (i:Int)) 0))
    ·simp (disch:=first|assumption|omega) only[S0,rA,rQ,rB,rT,rE,aJ,slices_Equal_int,bb,h1,h2,Zbg,Zb4]
    ·simp (disch:=first|assumption|omega) only[S0,rA,rQ,rB,rT,rE,aJ,nT,gW,slices_Equal_int,bb,h1,h2]
   ·simp (disch:=first|assumption|omega) only[S0,rA,rQ,rB,rT,rE,aJ,slices_Equal_int,bb,h1,Zbg,Zb4]
  ·intro bb
   simp (disch:=first|assumption|omega) only[S0,rA,rQ,rB,rT,rE,bb]
 ·intro hlt
  simp (disch:=first|assumption|omega) only[S0,rA,rQ,rB,rT,rE,hlt]
theorem vR (n:Int)(rows:List (List bR))(l:List (List Int))(hg:dG n=true)(hl:l.length<=10000000000)(hx:∀ x∈l,x.length<=10000000000):Fun T 77 [i64 n,rL rows,rL l]=some [.bool (qF n l)]:=by
 rw[aO (t:=Pbq) rfl];unfold Pbq;unfold qF
 simp (disch:=first|assumption|omega) only[S0,rA,rQ,rB,rT,rE];rw[Bau 1 l.length (Qar n l) [.bool false]]
 ·(refine aD ?_;repeat' (refine aC ?_ ?_<;>intro _<;>try simp (disch:=first|assumption|omega) only[S0,rA,rQ,rB,rT,rE, *]))
 ·intro i hi hlt
  have hb:InB l (i:Int):=aH.2 hi;have hq:=hx _ (at_mem hi);have ht:(l.take i).length<=1099511627776:=by rw[Zb1];omega
  have km:(atI l (i:Int)).length<=1099511627776:=by omega
  unfold Qar;cases h2:((atI l (i:Int)).length:Int)==2
  ·simp (disch:=first|assumption|omega) only[S0,rA,rQ,rB,rT,rE,aJ,hlt,h2]
  ·have uz:((atI l (i:Int)).length:Int)=2:=by simpa using h2
   have b0:InB (atI l (i:Int)) 0:=by unfold InB;omega
   have b1:InB (atI l (i:Int)) 1:=by unfold InB;omega
   have e:(l.take i).any (fun y=>decide (atI l (i:Int)=y))=decide (0<=iV (l.take i) (atI l (i:Int))):=(dF _ _).symm;cases h3:inst n (atI (atI l (i:Int)) 0) (atI (atI l (i:Int)) 1)
   ·simp (disch:=first|assumption|omega) only[S0,rA,rQ,rB,rT,rE,aJ,dH,hlt,h2,h3]
   ·cases h4:decide (0<=iV (l.take i) (atI l (i:Int)))
    ·simp (disch:=first|assumption|omega) only[S0,rA,rQ,rB,rT,rE,aJ,vM,dH,fI,hlt,h2,h3,h4,e,Zb7,Bcf,Bcl]
    ·simp (disch:=first|assumption|omega) only[S0,rA,rQ,rB,rT,rE,aJ,vM,dH,fI,hlt,h2,h3,h4,e,Zb7,Bcf,Bcl]
 ·intro hlt
  simp (disch:=first|assumption|omega) only[S0,rA,rQ,rB,rT,rE,hlt]
theorem wW (n:Int)(rows:List (List bR))(a b:List (List Int))(ht:bG ⟨n,rows⟩=true)(ha:qF n a=true)(hs:mI rows)(hla:a.length<=10000000000)(hlb:b.length<=10000000000):Fun T 160 [i64 n,rL rows,rL a,rL b]=some [.bool (Xac ⟨n,rows⟩ a b)]:=by
 rw[aO (t:=Dbu) rfl];unfold Dbu;unfold Xac
 have hg:dG n=true:=bA ht;have a5l:b.length<=1099511627776:=by omega
 simp (disch:=first|assumption|omega) only[S0,rA,rQ,rB,rT,rE];rw[Bau 1 a.length (fun i=>(a.take i).all fun y=>!Jbr ⟨n,rows⟩ b (atI a (i:Int)) y) [.bool false]]
 ·(refine aD ?_;repeat' (refine aC ?_ ?_<;>intro _<;>try simp (disch:=first|assumption|omega) only[S0,rA,rQ,rB,rT,rE, *]))
 ·intro i hi hlt
  have hb:InB a (i:Int):=aH.2 hi;obtain⟨xl,xi⟩:=uA ha (at_mem hi);have x0:InB (atI a (i:Int)) 0:=by unfold InB;omega
  have x1:InB (atI a (i:Int)) 1:=by unfold InB;omega
  have xr:=bJ xi;have xb:=dL (t:=⟨n,rows⟩) ht xi;simp only at xb;have xl2:(atI a (i:Int)).length<=1099511627776:=by omega
  simp (disch:=first|assumption|omega) only[S0,rA,rQ,rB,rT,rE,aJ,vM,hlt,Zb7,Bcf,Bcl];rw[Yap 3 (a.take i) (fun y=>!Jbr ⟨n,rows⟩ b (atI a (i:Int)) y) [.bool false]]
  ·(refine aD ?_;repeat' (refine aC ?_ ?_<;>intro _<;>try simp (disch:=first|assumption|omega) only[S0,rA,rQ,rB,rT,rE, *]))
  ·intro j hj gR bb hm
   have yh:j<10000000000:=by rw[Zb1]at hj;omega
   obtain⟨yl,yi⟩:=uA ha (Ac9 hm);have y0:InB (atI (a.take i) (j:Int)) 0:=by unfold InB;omega
   have y1:InB (atI (a.take i) (j:Int)) 1:=by unfold InB;omega
   have yr:=bJ yi;have yb:=dL (t:=⟨n,rows⟩) ht yi;simp only at yb;have yl2:(atI (a.take i) (j:Int)).length<=1099511627776:=by omega
   unfold Jbr;generalize h1:zY (fM ⟨n,rows⟩ (atI (atI a (i:Int)) 0) (atI (atI a (i:Int)) 1)).cmd (fM ⟨n,rows⟩ (atI (atI (a.take i) (j:Int)) 0) (atI (atI (a.take i) (j:Int)) 1)).cmd=q;simp (disch:=first|assumption|omega) only[S0,rA,rQ,rB,rT,rE,aJ,bO,Kal,bb,h1]<;>repeat' (refine aC (fun _=>?_) (fun _=>?_)<;>try simp (disch:=first|assumption|omega) only[S0,rA,rQ,rB,rT,rE,aJ,Eag, *])
  ·intro bb
   simp (disch:=first|assumption|omega) only[S0,rA,rQ,rB,rT,rE,bb]
 ·intro hlt
  simp (disch:=first|assumption|omega) only[S0,rA,rQ,rB,rT,rE,hlt]
theorem Haq (a b:List (List Int))(n:Int)(rows:List (List bR))(hs:mI rows)(hla:a.length<=10000000000)(hlb:b.length<=10000000000)(hxa:∀ x∈a,x.length<=10000000000)(hxb:∀ x∈b,x.length<=10000000000) :
  Fun T 76 [rL a,rL b,i64 n,rL rows]=some [.bool (Jbq a b ⟨n,rows⟩).1,.bool (Jbq a b ⟨n,rows⟩).2]:=by
 rw[aO (t:=Pbr) rfl];unfold Pbr;unfold Jbq
 have a5l:b.length<=1099511627776:=by omega
 cases ht:bG ⟨n,rows⟩
 ·simp (disch:=first|assumption|omega) only[S0,rA,rQ,rB,rT,rE,gQ,ht,Zbg]
 have hg:dG n=true:=bA ht;cases ha:qF n a
 ·simp (disch:=first|assumption|omega) only[S0,rA,rQ,rB,rT,rE,gQ,vR,ht,ha,Zbg]
 cases hb:qF n b
 ·simp (disch:=first|assumption|omega) only[S0,rA,rQ,rB,rT,rE,gQ,vR,ht,ha,hb,Zbg]
 simp (disch:=first|assumption|omega) only[S0,rA,rQ,rB,rT,rE,gQ,vR,ht,ha,hb];unfold Xac;rw[Bau 1 a.length (fun i=>(a.take i).all fun y=>!Jbr ⟨n,rows⟩ b (atI a (i:Int)) y) [.bool false,.bool true]]
 ·(refine aD ?_;repeat' (refine aC ?_ ?_<;>intro _<;>try simp (disch:=first|assumption|omega) only[S0,rA,rQ,rB,rT,rE, *]))
 ·intro i hi hlt
  have sY:InB a (i:Int):=aH.2 hi;obtain⟨xl,xi⟩:=uA ha (at_mem hi);have x0:InB (atI a (i:Int)) 0:=by unfold InB;omega
  have x1:InB (atI a (i:Int)) 1:=by unfold InB;omega
  have xr:=bJ xi;have xb:=dL (t:=⟨n,rows⟩) ht xi;simp only at xb;have xc:qY (fM ⟨n,rows⟩ (atI (atI a (i:Int)) 0) (atI (atI a (i:Int)) 1)).cmd=true:=Pax (mW (t:=⟨n,rows⟩) ht xi);have xl2:(atI a (i:Int)).length<=1099511627776:=by omega
  simp (disch:=first|assumption|omega) only[S0,rA,rQ,rB,rT,rE,aJ,vM,hlt,Zb7,Bcf,Bcl];rw[Yap 3 (a.take i) (fun y=>!Jbr ⟨n,rows⟩ b (atI a (i:Int)) y) [.bool false,.bool true]]
  ·(refine aD ?_;repeat' (refine aC ?_ ?_<;>intro _<;>try simp (disch:=first|assumption|omega) only[S0,rA,rQ,rB,rT,rE, *]))
  ·intro j hj gR bb hm
   have yh:j<10000000000:=by rw[Zb1]at hj;omega
   obtain⟨yl,yi⟩:=uA ha (Ac9 hm);have y0:InB (atI (a.take i) (j:Int)) 0:=by unfold InB;omega
   have y1:InB (atI (a.take i) (j:Int)) 1:=by unfold InB;omega
   have yr:=bJ yi;have yb:=dL (t:=⟨n,rows⟩) ht yi;simp only at yb;have yc:qY (fM ⟨n,rows⟩ (atI (atI (a.take i) (j:Int)) 0) (atI (atI (a.take i) (j:Int)) 1)).cmd=true:=Pax (mW (t:=⟨n,rows⟩) ht yi);have yl2:(atI (a.take i) (j:Int)).length<=1099511627776:=by omega
   unfold Jbr;rw[Tah];generalize h1:zY (fM ⟨n,rows⟩ (atI (atI (a.take i) (j:Int)) 0) (atI (atI (a.take i) (j:Int)) 1)).cmd (fM ⟨n,rows⟩ (atI (atI a (i:Int)) 0) (atI (atI a (i:Int)) 1)).cmd=q;simp (disch:=first|assumption|omega) only[S0,rA,rQ,rB,rT,rE,aJ,fI,bb]<;>repeat' (refine aC (fun _=>?_) (fun _=>?_)<;>try simp (disch:=first|assumption|omega) only[S0,rA,rQ,rB,rT,rE,aJ,kI,Fa3,h1, *])
  ·intro bb
   simp (disch:=first|assumption|omega) only[S0,rA,rQ,rB,rT,rE,bb]
 ·intro hlt
  simp (disch:=first|assumption|omega) only[S0,rA,rQ,rB,rT,rE,hlt]
theorem Jaq (a:Int):Fun T 123 [i64 a]=some [.bool false]:=by
 rw[aO (t:=Ebs) rfl];unfold Ebs
 simp (disch:=first|assumption|omega) only[S0,rA,rQ,rB,rT,rE]
theorem Aa4 (a b:Int):Fun T 122 [i64 a,i64 b]=some [i64 (Kbh a b)]:=by
 rw[aO (t:=Ebt) rfl];unfold Ebt;unfold Kbh
 by_cases h:a<b
 ·simp (disch:=first|assumption|omega) only[S0,rA,rQ,rB,rT,rE,Jaq,h]
 ·by_cases h2:b<a
  ·simp (disch:=first|assumption|omega) only[S0,rA,rQ,rB,rT,rE,Jaq,h,h2]
  ·simp (disch:=first|assumption|omega) only[S0,rA,rQ,rB,rT,rE,Jaq,h,h2]
theorem Bar (xs ys:List Int)(hx:xs.length<=1099511627776)(hy:ys.length<=1099511627776):Fun T 121 [rL xs,rL ys]=some [i64 (Rbs xs ys)]:=by
 rw[aO (t:=Ebu) rfl];unfold Ebu;unfold Rbs
 simp (disch:=first|assumption|omega) only[S0,rA,rQ,rB,rT,rE];rw[Ga7 (T:=T) (match Yal xs ys with|some c=>(.ret,[i64 c])|none=>(.yield 1,[])) (fun i:Nat=>xs.length-i) (fun i=>i<=xs.length/\Yal (xs.drop i) (ys.drop i)=Yal xs ys) (fun i=>[i64 i]) 0 rfl ⟨by omega,by simp⟩ (by split<;>simp)]
 ·cases Yal xs ys with
  |some c=>simp (disch:=first|assumption|omega) only[S0,rA,rQ,rB,rT,rE]
  | none =>
   cases h:decide ((xs.length:Int)<ys.length)
   ·simp (disch:=first|assumption|omega) only[S0,rA,rQ,rB,rT,rE,h,Zbg]
   ·simp (disch:=first|assumption|omega) only[S0,rA,rQ,rB,rT,rE,h]
 ·rintro i ⟨hi,he⟩
  rcases Zbz i xs.length with hlt|mj
  ·have h1:decide ((i:Int)<xs.length)=true:=by simp;omega
   have hb:InB xs (i:Int):=aH.2 hlt
   rcases Zbz i ys.length with bb|hge2
   ·have h2:decide ((ys.length:Int)<=i)=false:=by simp;omega
    have gR:InB ys (i:Int):=aH.2 bb;rw[Cbb hlt bb]at he;by_cases h3:atI xs (i:Int)<atI ys (i:Int)
    ·rw[if_pos h3]at he
     have e:Kbh (atI xs (i:Int)) (atI ys (i:Int))=-1:=if_pos h3;rw[<- he];refine .inr ?_;simp (disch:=first|assumption|omega) only[S0,rA,rQ,rB,rT,rE,aJ,Aa4,h1,h2,e]
    ·rw[if_neg h3]at he
     by_cases h4:atI ys (i:Int)<atI xs (i:Int)
     ·rw[if_pos h4]at he
      have e:Kbh (atI xs (i:Int)) (atI ys (i:Int))=1:=by unfold Kbh;rw[if_neg h3,if_pos h4]
      rw[<- he];refine .inr ?_;simp (disch:=first|assumption|omega) only[S0,rA,rQ,rB,rT,rE,aJ,Aa4,h1,h2,e]
     ·rw[if_neg h4]at he
      have e:Kbh (atI xs (i:Int)) (atI ys (i:Int))=0:=by unfold Kbh;rw[if_neg h3,if_neg h4]
      refine .inl ⟨i+1,?_,⟨by omega,he⟩,by omega⟩;simp (disch:=first|assumption|omega) only[S0,rA,rQ,rB,rT,rE,aJ,Aa4,h1,h2,e]
   ·have h2:decide ((ys.length:Int)<=i)=true:=by simp;omega
    rw[Hbe hlt hge2]at he;rw[<- he];refine .inr ?_;simp (disch:=first|assumption|omega) only[S0,rA,rQ,rB,rT,rE,aJ,h1,h2]
  ·have h1:decide ((i:Int)<xs.length)=false:=by simp;omega
   rw[List.drop_eq_nil_of_le mj]at he;have he':Yal xs ys=none:=by rw[<- he];rfl
   rw[he'];refine .inr ?_;simp (disch:=first|assumption|omega) only[S0,rA,rQ,rB,rT,rE,h1]
theorem lK (xs:List Int)(lo up:Int)(hx:xs.length<=10000000000):Fun T 49 [rL xs,i64 lo,i64 up]=some [.bool (Jbi xs lo up)]:=by
 rw[aO (t:=Qbi) rfl];unfold Qbi;unfold Jbi
 simp (disch:=first|assumption|omega) only[S0,rA,rQ,rB,rT,rE];rw[Bau 1 xs.length (fun i=>inR (atI xs (i:Int)) lo up&&Saz xs i) [.bool false]]
 ·(refine aD ?_;repeat' (refine aC ?_ ?_<;>intro _<;>try simp (disch:=first|assumption|omega) only[S0,rA,rQ,rB,rT,rE, *]))
 ·intro i hi hlt
  have hb:InB xs (i:Int):=aH.2 hi;unfold Saz;cases h1:inR (atI xs (i:Int)) lo up
  ·simp (disch:=first|assumption|omega) only[S0,rA,rQ,rB,rT,rE,aJ,dJ,hlt,h1]
  ·cases i with
   | zero =>
    have a4s:decide ((0:Int)<xs.length)=true:=hlt;have hb0:InB xs 0:=hb;have cL:inR (atI xs 0) lo up=true:=h1;have d0:decide ((0:Int)<0)=false:=rfl;have d1:decide ((0:Nat)<0)=false:=rfl;simp (disch:=first|assumption|omega) only[S0,rA,rQ,rB,rT,rE,aJ,dJ,a4s,cL,d0,d1,Int.natCast_zero,Nat.lt_irrefl,Int.cast_ofNat_Int]
   | succ i =>
    have gR:InB xs ((i:Int)+1-1):=by unfold InB;omega
    have d1:decide ((0:Int)<(i:Int)+1)=true:=decide_eq_true (by omega);have d2:decide (0<i+1)=true:=decide_eq_true (by omega);have tq:InB xs ((i:Int)+1):=hb;have rk:decide ((i:Int)+1<xs.length)=true:=hlt;have jd:inR (atI xs ((i:Int)+1)) lo up=true:=h1;cases h2:decide (atI xs ((i:Int)+1)<=atI xs ((i:Int)+1-1))
    ·simp (disch:=first|assumption|omega) only[S0,rA,rQ,rB,rT,rE,aJ,dJ,rk,jd,d1,d2,h2]
    ·simp (disch:=first|assumption|omega) only[S0,rA,rQ,rB,rT,rE,aJ,dJ,rk,jd,d1,d2,h2]
 ·intro hlt
  simp (disch:=first|assumption|omega) only[S0,rA,rQ,rB,rT,rE,hlt]
theorem Qas (xs:List Int)(hx:xs.length<=10000000000):Fun T 112 [rL xs]=some [.bool (sU (Saz xs) xs.length)]:=by
 rw[aO (t:=Eb3) rfl];unfold Eb3
 have e:sU (Saz xs) xs.length=sU (fun i=>decide (i<1)||!decide (atI xs (i:Int)<=atI xs ((i:Int)-1))) xs.length:=by
  refine Mag fun i hi=>?_
  unfold Saz
  cases i with
  |zero=>rfl
  |succ i=>simp
 rw[e];simp (disch:=first|assumption|omega) only[S0,rA,rQ,rB,rT,rE];have h1:(D.int .i64 1)=i64 ((1:Nat):Int):=rfl;rw[h1,Sba 1 1 xs.length (fun i=>!decide (atI xs (i:Int)<=atI xs ((i:Int)-1))) [.bool false]]
 ·(refine aD ?_;repeat' (refine aC ?_ ?_<;>intro _<;>try simp (disch:=first|assumption|omega) only[S0,rA,rQ,rB,rT,rE, *]))
 ·intro i hs hi hlt
  have hb:InB xs (i:Int):=aH.2 hi;have gR:InB xs ((i:Int)-1):=by unfold InB;omega
  have hz:((0:Nat):Int)+1=1:=rfl;cases hq:decide (atI xs (i:Int)<=atI xs ((i:Int)-1))<;>simp (disch:=first|assumption|omega) only[S0,rA,rQ,rB,rT,rE,aJ,hlt,hz,hq]
 ·intro i hi hlt
  simp (disch:=first|assumption|omega) only[S0,rA,rQ,rB,rT,rE,hlt]
theorem sG (x n:Int)(hg:Fai n):Fun T 115 [i64 x,i64 n]=some [.bool (!inR x 0 (n-1))]:=by
 rw[aO (t:=Eb0) rfl];unfold Eb0
 unfold Fai at hg;simp (disch:=first|assumption|omega) only[S0,rA,rQ,rB,rT,rE,bV]
theorem Iao (n:Int)(hg:Fai n)(xs:List Int)(hx:xs.length<=1099511627776):Fun T 114 [rL xs,i64 n]=some [i64 (ixF (fun x=>!inR x 0 (n-1)) xs)]:=by
 rw[aO (t:=Eb1) rfl];unfold Eb1
 simp (disch:=first|assumption|omega) only[S0,rA,rQ,rB,rT,rE,aJ, *];rw[xG 1 xs (fun x=>!inR x 0 (n-1)) (fun i=>[i64 i])]
 ·cases h:xs.any (fun x=>!inR x 0 (n-1))
  ·have e:ixF (fun x=>!inR x 0 (n-1)) xs=-1:=by
    have h2:=dF (fun x=>!inR x 0 (n-1)) xs;rw[h]at h2;unfold ixF at h2 ⊢;split at h2<;>simp_all
   rw[e];simp (disch:=first|assumption|omega) only[S0,rA,rQ,rB,rT,rE]
  ·simp (disch:=first|assumption|omega) only[S0,rA,rQ,rB,rT,rE]
 ·intro i hi hb hl hp
  (refine aD ?_;repeat' (refine aC ?_ ?_<;>intro _<;>try simp (disch:=first|assumption|omega) only[S0,rA,rQ,rB,rT,rE,aJ,sG, *]))
 ·intro i hi hb hl hp
  (refine aD ?_;repeat' (refine aC ?_ ?_<;>intro _<;>try simp (disch:=first|assumption|omega) only[S0,rA,rQ,rB,rT,rE,aJ,sG, *]))
 ·intro hl
  (refine aD ?_;repeat' (refine aC ?_ ?_<;>intro _<;>try simp (disch:=first|assumption|omega) only[S0,rA,rQ,rB,rT,rE, *]))
theorem Jak (n:Int)(hg:Fai n)(xs:List Int)(hx:xs.length<=1099511627776):Fun T 113 [rL xs,i64 n]=some [.bool (xs.any (fun x=>!inR x 0 (n-1)))]:=by
 rw[aO (t:=Eb2) rfl];unfold Eb2
 (refine aD ?_;repeat' (refine aC ?_ ?_<;>intro _<;>try simp (disch:=first|assumption|omega) only[S0,rA,rQ,rB,rT,rE,Iao,dF, *]))
theorem jP (n:Int)(xs:List Int)(hg:Fai n)(hx:xs.length<=10000000000):Fun T 111 [i64 n,rL xs]=some [.bool (Jbi xs 0 (n-1))]:=by
 rw[aO (t:=Eb4) rfl];unfold Eb4;unfold Jbi
 have qj:xs.length<=1099511627776:=by omega
 have e:xs.any (fun x=>!inR x 0 (n-1))=!xs.all fun x=>inR x 0 (n-1):=by rw[Bcg]
 rw[Waa,Wab xs (fun x=>inR x 0 (n-1)),Bool.and_comm];cases h:sU (Saz xs) xs.length
 ·simp (disch:=first|assumption|omega) only[S0,rA,rQ,rB,rT,rE,Qas,h]
 ·simp (disch:=first|assumption|omega) only[S0,rA,rQ,rB,rT,rE,Qas,Jak,h,e,Bool.not_not]
theorem tK (n me:Int)(ko nF fg fx dj eR eo ew et bq:Int)(ba:(List Int))(b5:Int)(bh:(List Int))(ig:Bool)(gC:(List Int))(dm:(List bR))(hg:dG n=true)(hs:Uaw ⟨ko,nF,fg,fx,⟨dj,eR,eo,ew,et⟩,⟨bq,ba⟩,⟨b5,bh⟩,ig,gC,dm⟩):Fun T 48 [i64 n,i64 me,i64 ko,i64 nF,i64 fg,i64 fx,i64 dj,i64 eR,i64 eo,i64 ew,i64 et,i64 bq,rL ba,i64 b5,rL bh,.bool ig,rL gC,rL dm]=some [.bool (Iak n me ⟨ko,nF,fg,fx,⟨dj,eR,eo,ew,et⟩,⟨bq,ba⟩,⟨b5,bh⟩,ig,gC,dm⟩)]:=by
 rw[aO (t:=Qbj) rfl];unfold Qbj
 have hn:=aY hg;obtain⟨h1,h2,h3,h4,h5⟩:=hs;simp only at h1 h2 h3 h4 h5;have vn:ba.length<=1099511627776:=by omega
 have uz:bh.length<=1099511627776:=by omega
 have h3':gC.length<=1099511627776:=by omega
 have ea:decide ((⟨bq,ba⟩:fP)=none0 n)=decide ((⟨bq,ba⟩:fP)=⟨(none0 n).seq,(none0 n).deps⟩):=rfl;have eb:decide ((⟨b5,bh⟩:fP)=none0 n)=decide ((⟨b5,bh⟩:fP)=⟨(none0 n).seq,(none0 n).deps⟩):=rfl;unfold Iak;cases c1:inst n ko nF
 ·simp (disch:=first|assumption|omega) only[S0,rA,rQ,rB,rT,rE,dH,c1]
 cases c2:inR fg 0 9999
 ·simp (disch:=first|assumption|omega) only[S0,rA,rQ,rB,rT,rE,dH,dJ,c1,c2]
 cases c3:Jbi gC 0 (n-1)
 ·simp (disch:=first|assumption|omega) only[S0,rA,rQ,rB,rT,rE,dH,dJ,lK,c1,c2,c3]
 cases c4:lF gC me
 ·simp (disch:=first|assumption|omega) only[S0,rA,rQ,rB,rT,rE,dH,dJ,lK,iC,c1,c2,c3,c4]
 cases c5:lY n ⟨bq,ba⟩
 ·simp (disch:=first|assumption|omega) only[S0,rA,rQ,rB,rT,rE,dH,dJ,lK,iC,oF,c1,c2,c3,c4,c5]
 cases c6:lY n ⟨b5,bh⟩
 ·simp (disch:=first|assumption|omega) only[S0,rA,rQ,rB,rT,rE,dH,dJ,lK,iC,oF,c1,c2,c3,c4,c5,c6]
 simp (disch:=first|assumption|omega) only[S0,rA,rQ,rB,rT,rE,dH,dJ,lK,iC,oF,c1,c2,c3,c4,c5,c6];rw[Yap 1 dm (fun r=>rowOk n r&&!(r.state==3)) [.bool false]]
 ·have e0:((dm.length:Int)==0)=true->(dm.all fun r=>rowOk n r&&!(r.state==3))=true:=fun h=>by
   have:dm=[]:=List.length_eq_zero_iff.1 (by simpa using h);rw[this];rfl
  cases c7:dm.all fun r=>rowOk n r&&!(r.state==3)
  ·have e1:((dm.length:Int)==0)=false:=by
    cases h:((dm.length:Int)==0) with
    |false=>rfl
    |true=>rw[e0 h]at c7;cases c7
   rcases Zax fx with rfl|rfl|rfl|⟨p1,p2,p3⟩
   ·simp (disch:=first|assumption|omega) only[S0,rA,rQ,rB,rT,rE,e1]
   ·simp (disch:=first|assumption|omega) only[S0,rA,rQ,rB,rT,rE,e1]
   ·simp (disch:=first|assumption|omega) only[S0,rA,rQ,rB,rT,rE]
   ·simp (disch:=first|assumption|omega) only[S0,rA,rQ,rB,rT,rE,p1,p2,p3,Zbg]
  ·clear e0
   rcases Zax fx with rfl|rfl|rfl|⟨p1,p2,p3⟩
   ·simp (disch:=first|assumption|omega) only[S0,rA,rQ,rB,rT,rE,gB]<;>repeat' (refine aC (fun _=>?_) (fun _=>?_)<;>try simp (disch:=first|assumption|omega) only[S0,rA,rQ,rB,rT,rE,gB, *])
   ·simp (disch:=first|assumption|omega) only[S0,rA,rQ,rB,rT,rE,gB]<;>repeat' (refine aC (fun _=>?_) (fun _=>?_)<;>try simp (disch:=first|assumption|omega) only[S0,rA,rQ,rB,rT,rE,gB,jX, *])
   ·cases k0:decide (({ kind:=dj,id:=eR,src:=eo,dst:=ew,amt:=et }:Baa)={ kind:=0,id:=0,src:=0,dst:=0,amt:=0 })<;>cases k1:decide (({ seq:=bq,deps:=ba }:fP)=fP.mk (none0 n).seq (none0 n).deps)<;>cases k2:decide (({ seq:=b5,deps:=bh }:fP)=fP.mk (none0 n).seq (none0 n).deps)
    all_goals (have k1':=ea.trans k1;have k2':=eb.trans k2;simp (disch:=first|assumption|omega) only[S0,rA,rQ,rB,rT,rE,mH,jX,rD,k0,k1,k2,k1',k2'])
    all_goals (cases ig<;>simp (disch:=first|assumption|omega) only[S0,rA,rQ,rB,rT,rE])
   ·simp (disch:=first|assumption|omega) only[S0,rA,rQ,rB,rT,rE,p1,p2,p3,Zbg]
 ·intro i hi hb hlt hm
  have hq:=h5 _ hm;have kA:(atI dm (i:Int)).attr.deps.length<=1099511627776:=by omega
  simp (disch:=first|assumption|omega) only[S0,rA,rQ,rB,rT,rE,aJ,yF,hlt]<;>repeat' (refine aC (fun _=>?_) (fun _=>?_)<;>try simp (disch:=first|assumption|omega) only[S0,rA,rQ,rB,rT,rE,aJ,yF, *])
 ·intro hlt
  simp (disch:=first|assumption|omega) only[S0,rA,rQ,rB,rT,rE,hlt]
theorem wV (b8 dq cm bg b7 bn bp bo bf:Int)(av:(List Int))(n:Int)(hg:dG n=true)(hx:av.length<=1099511627776):Fun T 120 [i64 b8,i64 dq,i64 cm,i64 bg,i64 b7,i64 bn,i64 bp,i64 bo,i64 bf,rL av,i64 n]=some [.bool (!(rowOk n ⟨b8,dq,cm,⟨bg,b7,bn,bp,bo⟩,⟨bf,av⟩⟩&&!(cm==3)))]:=by
 rw[aO (t:=Ebv) rfl];unfold Ebv
 (refine aD ?_;repeat' (refine aC ?_ ?_<;>intro _<;>try simp (disch:=first|assumption|omega) only[S0,rA,rQ,rB,rT,rE,wU,Bool.not_not, *]))
theorem Naq (n:Int)(hg:dG n=true)(xs:List bR)(hx:xs.length<=1099511627776)(hq:∀ x∈xs,x.attr.deps.length<=1099511627776):Fun T 119 [rL xs,i64 n]=some [i64 (ixF (fun r=>!(rowOk n r&&!(r.state==3))) xs)]:=by
 rw[aO (t:=Ebw) rfl];unfold Ebw
 simp (disch:=first|assumption|omega) only[S0,rA,rQ,rB,rT,rE,aJ, *];rw[xG 1 xs (fun r=>!(rowOk n r&&!(r.state==3))) (fun i=>[i64 i])]
 ·cases h:xs.any (fun r=>!(rowOk n r&&!(r.state==3)))
  ·have e:ixF (fun r=>!(rowOk n r&&!(r.state==3))) xs=-1:=by
    have h2:=dF (fun r=>!(rowOk n r&&!(r.state==3))) xs;rw[h]at h2;unfold ixF at h2 ⊢;split at h2<;>simp_all
   rw[e];simp (disch:=first|assumption|omega) only[S0,rA,rQ,rB,rT,rE]
  ·simp (disch:=first|assumption|omega) only[S0,rA,rQ,rB,rT,rE]
 ·intro i hi hb hl hp
  have kA:=hq _ (at_mem hi)
  try simp only at kA hp
  (refine aD ?_;repeat' (refine aC ?_ ?_<;>intro _<;>try simp (disch:=first|assumption|omega) only[S0,rA,rQ,rB,rT,rE,aJ,wV, *]))
 ·intro i hi hb hl hp
  have kA:=hq _ (at_mem hi)
  try simp only at kA hp
  (refine aD ?_;repeat' (refine aC ?_ ?_<;>intro _<;>try simp (disch:=first|assumption|omega) only[S0,rA,rQ,rB,rT,rE,aJ,wV, *]))
 ·intro hl
  (refine aD ?_;repeat' (refine aC ?_ ?_<;>intro _<;>try simp (disch:=first|assumption|omega) only[S0,rA,rQ,rB,rT,rE, *]))
theorem Na6 (n:Int)(hg:dG n=true)(xs:List bR)(hx:xs.length<=1099511627776)(hq:∀ x∈xs,x.attr.deps.length<=1099511627776):Fun T 118 [rL xs,i64 n]=some [.bool (xs.any (fun r=>!(rowOk n r&&!(r.state==3))))]:=by
 rw[aO (t:=Ebx) rfl];unfold Ebx
 (refine aD ?_;repeat' (refine aC ?_ ?_<;>intro _<;>try simp (disch:=first|assumption|omega) only[S0,rA,rQ,rB,rT,rE,Naq,dF, *]))
theorem uC (n me:Int)(ko nF fg fx dj eR eo ew et bq:Int)(ba:(List Int))(b5:Int)(bh:(List Int))(ig:Bool)(gC:(List Int))(dm:(List bR))(hg:dG n=true)(hs:Uaw ⟨ko,nF,fg,fx,⟨dj,eR,eo,ew,et⟩,⟨bq,ba⟩,⟨b5,bh⟩,ig,gC,dm⟩):Fun T 110 [i64 n,i64 me,i64 ko,i64 nF,i64 fg,i64 fx,i64 dj,i64 eR,i64 eo,i64 ew,i64 et,i64 bq,rL ba,i64 b5,rL bh,.bool ig,rL gC,rL dm]=some [.bool (Iak n me ⟨ko,nF,fg,fx,⟨dj,eR,eo,ew,et⟩,⟨bq,ba⟩,⟨b5,bh⟩,ig,gC,dm⟩)]:=by
 rw[aO (t:=Eb5) rfl];unfold Eb5
 have hn:=aY hg;have hgn:Fai n:=Aby hg;obtain⟨h1,h2,h3,h4,h5⟩:=hs;simp only at h1 h2 h3 h4 h5;have vn:ba.length<=1099511627776:=by omega
 have uz:bh.length<=1099511627776:=by omega
 have h3':gC.length<=1099511627776:=by omega
 have ve:dm.length<=1099511627776:=by omega
 have u5:∀ x∈dm,x.attr.deps.length<=1099511627776:=fun x hx=>by have:=h5 x hx;omega
 have ea:decide ((⟨bq,ba⟩:fP)=none0 n)=decide ((⟨bq,ba⟩:fP)=⟨(none0 n).seq,(none0 n).deps⟩):=rfl;have eb:decide ((⟨b5,bh⟩:fP)=none0 n)=decide ((⟨b5,bh⟩:fP)=⟨(none0 n).seq,(none0 n).deps⟩):=rfl;have e3:(dm.any fun r=>!(rowOk n r&&!(r.state==3)))=!dm.all fun r=>rowOk n r&&!(r.state==3):=by rw[Bcg]
 unfold Iak;cases c1:inst n ko nF
 ·simp (disch:=first|assumption|omega) only[S0,rA,rQ,rB,rT,rE,bK,hg,c1]
 cases c2:inR fg 0 9999
 ·simp (disch:=first|assumption|omega) only[S0,rA,rQ,rB,rT,rE,bK,bV,hg,c1,c2]
 cases c3:Jbi gC 0 (n-1)
 ·simp (disch:=first|assumption|omega) only[S0,rA,rQ,rB,rT,rE,bK,bV,jP,hg,c1,c2,c3]
 cases c4:lF gC me
 ·simp (disch:=first|assumption|omega) only[S0,rA,rQ,rB,rT,rE,bK,bV,jP,slices_Contains_int,hg,c1,c2,c3,c4]
 cases c5:lY n ⟨bq,ba⟩
 ·simp (disch:=first|assumption|omega) only[S0,rA,rQ,rB,rT,rE,bK,bV,jP,slices_Contains_int,lU,hg,c1,c2,c3,c4,c5]
 cases c6:lY n ⟨b5,bh⟩
 ·simp (disch:=first|assumption|omega) only[S0,rA,rQ,rB,rT,rE,bK,bV,jP,slices_Contains_int,lU,hg,c1,c2,c3,c4,c5,c6]
 simp (disch:=first|assumption|omega) only[S0,rA,rQ,rB,rT,rE,bK,bV,jP,slices_Contains_int,lU,hg,c1,c2,c3,c4,c5,c6]
 rcases Zax fx with rfl|rfl|rfl|⟨p1,p2,p3⟩
 ·simp (disch:=first|assumption|omega) only[S0,rA,rQ,rB,rT,rE,fH]<;>repeat' (refine aC (fun _=>?_) (fun _=>?_)<;>try simp (disch:=first|assumption|omega) only[S0,rA,rQ,rB,rT,rE,fH, *])
 ·cases c7:qY ⟨dj,eR,eo,ew,et⟩
  ·simp (disch:=first|assumption|omega) only[S0,rA,rQ,rB,rT,rE,fH,c7]
  cases c8:(dm.length:Int)==0
  ·simp (disch:=first|assumption|omega) only[S0,rA,rQ,rB,rT,rE,fH,c7,c8]
  cases c9:decide ((⟨bq,ba⟩:fP)=⟨b5,bh⟩)<;>cases c10:ig<;>simp (disch:=first|assumption|omega) only[S0,rA,rQ,rB,rT,rE,fH,eB,c7,c8,c9,c10]
 ·cases c7:decide ((⟨dj,eR,eo,ew,et⟩:Baa)=⟨0,0,0,0,0⟩)
  ·simp (disch:=first|assumption|omega) only[S0,rA,rQ,rB,rT,rE,dZ,rD,c7]
  cases c8:decide ((⟨bq,ba⟩:fP)=none0 n)
  ·simp (disch:=first|assumption|omega) only[S0,rA,rQ,rB,rT,rE,dZ,eB,rD,c7,c8]
  cases c9:decide ((⟨b5,bh⟩:fP)=none0 n)
  ·simp (disch:=first|assumption|omega) only[S0,rA,rQ,rB,rT,rE,dZ,eB,rD,c7,c8,c9]
  cases c10:ig
  rotate_left
  ·simp (disch:=first|assumption|omega) only[S0,rA,rQ,rB,rT,rE,dZ,eB,rD,c7,c8,c9,c10]
  cases c11:(dm.length:Int)==(gC.length:Int)
  ·simp (disch:=first|assumption|omega) only[S0,rA,rQ,rB,rT,rE,dZ,eB,rD,c7,c8,c9,c10,c11]
  simp (disch:=first|assumption|omega) only[S0,rA,rQ,rB,rT,rE,dZ,eB,rD,c7,c8,c9,c10,c11,Na6,e3,Bool.not_not]
 ·simp (disch:=first|assumption|omega) only[S0,rA,rQ,rB,rT,rE,p1,p2,p3,Zbg]
theorem Fa5 (me n:Int)(rows:List (List bR))(leads:List gY)(hs:mI rows)(ll:Ma4 leads):Fun T 40 [i64 me,i64 n,rL rows,rL leads]=some [.bool (Sa1 ⟨me,⟨n,rows⟩,leads⟩)]:=by
 rw[aO (t:=Qbr) rfl];unfold Qbr;unfold Sa1
 obtain⟨hs3,hs4⟩:=ll;cases ht:bG ⟨n,rows⟩
 ·simp (disch:=first|assumption|omega) only[S0,rA,rQ,rB,rT,rE,gQ,ht]
 have hg:dG n=true:=bA ht;have hn:=aY hg;cases hm:inR me 0 (n-1)
 ·simp (disch:=first|assumption|omega) only[S0,rA,rQ,rB,rT,rE,gQ,dJ,ht,hm]
 simp (disch:=first|assumption|omega) only[S0,rA,rQ,rB,rT,rE,gQ,dJ,ht,hm];rw[Bau 1 leads.length (Qah n me leads) [.bool false]]
 ·(refine aD ?_;repeat' (refine aC ?_ ?_<;>intro _<;>try simp (disch:=first|assumption|omega) only[S0,rA,rQ,rB,rT,rE, *]))
 ·intro i hi hlt
  have hb:InB leads (i:Int):=aH.2 hi;have hq:=hs4 _ (at_mem hi);unfold Qah Abk;cases c1:Iak n me (atI leads (i:Int))
  ·simp (disch:=first|assumption|omega) only[S0,rA,rQ,rB,rT,rE,aJ,tK,hlt,c1]
  by_cases h0:0<(i:Int)
  ·have d0:decide (0<(i:Int))=true:=by simpa using h0
   have gR:InB leads ((i:Int)-1):=by unfold InB;omega
   simp (disch:=first|assumption|omega) only[S0,rA,rQ,rB,rT,rE,aJ,tK,hlt,c1,d0]<;>repeat' (refine aC (fun _=>?_) (fun _=>?_)<;>try simp (disch:=first|assumption|omega) only[S0,rA,rQ,rB,rT,rE,aJ,tK, *])
  ·have d0:decide (0<(i:Int))=false:=by simpa using h0
   simp (disch:=first|assumption|omega) only[S0,rA,rQ,rB,rT,rE,aJ,tK,hlt,c1,d0]
 ·intro hlt
  simp (disch:=first|assumption|omega) only[S0,rA,rQ,rB,rT,rE,hlt]
theorem Gaf (me n:Int)(rows:List (List bR))(leads:List gY)(hs:mI rows)(ll:Ma4 leads):Fun T 102 [i64 me,i64 n,rL rows,rL leads]=some [.bool (Sa1 ⟨me,⟨n,rows⟩,leads⟩)]:=by
 rw[aO (t:=Fbd) rfl];unfold Fbd;unfold Sa1
 obtain⟨hs3,hs4⟩:=ll;cases ht:bG ⟨n,rows⟩
 ·simp (disch:=first|assumption|omega) only[S0,rA,rQ,rB,rT,rE,qX,ht]
 have hg:dG n=true:=bA ht;have hn:=aY hg;cases hm:inR me 0 (n-1)
 ·simp (disch:=first|assumption|omega) only[S0,rA,rQ,rB,rT,rE,qX,bV,ht,hm]
 simp (disch:=first|assumption|omega) only[S0,rA,rQ,rB,rT,rE,qX,bV,ht,hm];rw[Bau 1 leads.length (Qah n me leads) [.bool false]]
 ·(refine aD ?_;repeat' (refine aC ?_ ?_<;>intro _<;>try simp (disch:=first|assumption|omega) only[S0,rA,rQ,rB,rT,rE, *]))
 ·intro i hi hlt
  have hb:InB leads (i:Int):=aH.2 hi;have hq:=hs4 _ (at_mem hi);unfold Qah Abk;cases c1:Iak n me (atI leads (i:Int))
  ·simp (disch:=first|assumption|omega) only[S0,rA,rQ,rB,rT,rE,aJ,uC,hlt,c1]
  by_cases h0:0<(i:Int)
  ·have d0:decide (0<(i:Int))=true:=by simpa using h0
   have gR:InB leads ((i:Int)-1):=by unfold InB;omega
   have hc:=Yb8 (atI leads (i:Int)).rep (atI leads (i:Int)).no (atI leads ((i:Int)-1)).rep (atI leads ((i:Int)-1)).no;have l1:([(atI leads (i:Int)).rep,(atI leads (i:Int)).no]:List Int).length<=1099511627776:=by simp
   have l2:([(atI leads ((i:Int)-1)).rep,(atI leads ((i:Int)-1)).no]:List Int).length<=1099511627776:=by simp
   generalize hz:(decide ((atI leads (i:Int)).rep<(atI leads ((i:Int)-1)).rep)||((atI leads ((i:Int)-1)).rep==(atI leads (i:Int)).rep&&decide ((atI leads (i:Int)).no<=(atI leads ((i:Int)-1)).no)))=z at hc ⊢;cases z<;>simp (disch:=first|assumption|omega) only[S0,rA,rQ,rB,rT,rE,aJ,nT,uC,Bar,hlt,c1,d0,hc]
  ·have d0:decide (0<(i:Int))=false:=by simpa using h0
   simp (disch:=first|assumption|omega) only[S0,rA,rQ,rB,rT,rE,aJ,uC,hlt,c1,d0]
 ·intro hlt
  simp (disch:=first|assumption|omega) only[S0,rA,rQ,rB,rT,rE,hlt]
theorem Ea8 (n:Int)(l:List dD)(hg:dG n=true)(hl:l.length<=10000000000):Fun T 34 [i64 n,rL l]=some [.bool (Ra2 n l)]:=by
 rw[aO (t:=Qbx) rfl];unfold Qbx;unfold Ra2
 have hn:=aY hg;simp (disch:=first|assumption|omega) only[S0,rA,rQ,rB,rT,rE];rw[Bau 1 l.length (Ja1 n l) [.bool false]]
 ·(refine aD ?_;repeat' (refine aC ?_ ?_<;>intro _<;>try simp (disch:=first|assumption|omega) only[S0,rA,rQ,rB,rT,rE, *]))
 ·intro i hi hlt
  have hb:InB l (i:Int):=aH.2 hi;unfold Ja1;cases c1:inst n (atI l (i:Int)).rep (atI l (i:Int)).no
  ·simp (disch:=first|assumption|omega) only[S0,rA,rQ,rB,rT,rE,aJ,dH,hlt,c1]
  cases c2:qY (atI l (i:Int)).cmd
  ·simp (disch:=first|assumption|omega) only[S0,rA,rQ,rB,rT,rE,aJ,dH,gB,hlt,c1,c2]
  cases c3:(atI l (i:Int)).cmd.kind==0
  rotate_left
  ·simp (disch:=first|assumption|omega) only[S0,rA,rQ,rB,rT,rE,aJ,dH,gB,hlt,c1,c2,c3]
  simp (disch:=first|assumption|omega) only[S0,rA,rQ,rB,rT,rE,aJ,vM,dH,gB,hlt,c1,c2,c3,Zb7,Bcf,Bcl];have e:(l.take i).any (fun b=>b.rep==(atI l (i:Int)).rep&&b.no==(atI l (i:Int)).no)=!(l.take i).all fun b=>!(b.rep==(atI l (i:Int)).rep&&b.no==(atI l (i:Int)).no):=by rw[Bcg];simp only[Bool.not_not]
  rw[e,Yap 3 (l.take i) (fun b=>!(b.rep==(atI l (i:Int)).rep&&b.no==(atI l (i:Int)).no)) [.bool false]]
  ·(refine aD ?_;repeat' (refine aC ?_ ?_<;>intro _<;>try simp (disch:=first|assumption|omega) only[S0,rA,rQ,rB,rT,rE, *]))
  ·intro j hj gR bb hm
   have yh:j<10000000000:=by rw[Zb1]at hj;omega
   have s1:((atI l (i:Int)).rep==(atI (l.take i) (j:Int)).rep)=((atI (l.take i) (j:Int)).rep==(atI l (i:Int)).rep):=by rw[Bcx,beq_iff_eq,beq_iff_eq];exact eq_comm
   have s2:((atI l (i:Int)).no==(atI (l.take i) (j:Int)).no)=((atI (l.take i) (j:Int)).no==(atI l (i:Int)).no):=by rw[Bcx,beq_iff_eq,beq_iff_eq];exact eq_comm
   generalize h1:((atI (l.take i) (j:Int)).rep==(atI l (i:Int)).rep)=q1 at s1;generalize h2:((atI (l.take i) (j:Int)).no==(atI l (i:Int)).no)=q2 at s2;cases q1<;>cases q2<;>simp (disch:=first|assumption|omega) only[S0,rA,rQ,rB,rT,rE,aJ,bb,h1,h2,s1,s2]
  ·intro bb
   simp (disch:=first|assumption|omega) only[S0,rA,rQ,rB,rT,rE,bb]
 ·intro hlt
  simp (disch:=first|assumption|omega) only[S0,rA,rQ,rB,rT,rE,hlt]
theorem Fak (wy a3e pZ uh rz rq rm:Int)(rep no:Int):Fun T 126 [i64 wy,i64 a3e,i64 pZ,i64 uh,i64 rz,i64 rq,i64 rm,i64 rep,i64 no]=some [.bool (wy==rep&&a3e==no)]:=by
 rw[aO (t:=Ebp) rfl];unfold Ebp
 (refine aD ?_;repeat' (refine aC ?_ ?_<;>intro _<;>try simp (disch:=first|assumption|omega) only[S0,rA,rQ,rB,rT,rE, *]))
theorem Xar (rep no:Int)(xs:List dD)(hx:xs.length<=1099511627776):Fun T 125 [rL xs,i64 rep,i64 no]=some [i64 (ixF (fun b=>b.rep==rep&&b.no==no) xs)]:=by
 rw[aO (t:=Ebq) rfl];unfold Ebq
 simp (disch:=first|assumption|omega) only[S0,rA,rQ,rB,rT,rE,aJ, *];rw[xG 1 xs (fun b=>b.rep==rep&&b.no==no) (fun i=>[i64 i])]
 ·cases h:xs.any (fun b=>b.rep==rep&&b.no==no)
  ·have e:ixF (fun b=>b.rep==rep&&b.no==no) xs=-1:=by
    have h2:=dF (fun b=>b.rep==rep&&b.no==no) xs;rw[h]at h2;unfold ixF at h2 ⊢;split at h2<;>simp_all
   rw[e];simp (disch:=first|assumption|omega) only[S0,rA,rQ,rB,rT,rE]
  ·simp (disch:=first|assumption|omega) only[S0,rA,rQ,rB,rT,rE]
 ·intro i hi hb hl hp
  (refine aD ?_;repeat' (refine aC ?_ ?_<;>intro _<;>try simp (disch:=first|assumption|omega) only[S0,rA,rQ,rB,rT,rE,aJ,Fak, *]))
 ·intro i hi hb hl hp
  (refine aD ?_;repeat' (refine aC ?_ ?_<;>intro _<;>try simp (disch:=first|assumption|omega) only[S0,rA,rQ,rB,rT,rE,aJ,Fak, *]))
 ·intro hl
  (refine aD ?_;repeat' (refine aC ?_ ?_<;>intro _<;>try simp (disch:=first|assumption|omega) only[S0,rA,rQ,rB,rT,rE, *]))
theorem Kam (reps:List nY)(bag:List pO)(l:List dD)(k:Nat)(rep no:Int)(hk:k<=l.length)(hl:l.length<=10000000000):Fun T 124 [rL reps,rL bag,rL l,i64 k,i64 rep,i64 no]=some [i64 (ixF (fun b=>b.rep==rep&&b.no==no) (l.take k))]:=by
 rw[aO (t:=Ebr) rfl];unfold Ebr
 have ht:(l.take k).length<=1099511627776:=by rw[Zb1];omega
 simp (disch:=first|assumption|omega) only[S0,rA,rQ,rB,rT,rE,vM,Xar,Zb7,Bcf,Bcl]
theorem vT (reps:List nY)(bag:List pO)(asked:List dD)(h1:uX reps)(h2:Lab bag)(h3:asked.length<=10000000000):Fun T 32 [rL reps,rL bag,rL asked]=some [.bool (vI ⟨reps,bag,asked⟩)]:=by
 rw[aO (t:=Qbz) rfl];unfold Qbz;unfold vI
 obtain⟨h4,h5⟩:=h1;obtain⟨h6,h7⟩:=h2;cases hg:dG (reps.length:Int)
 ·simp (disch:=first|assumption|omega) only[S0,rA,rQ,rB,rT,rE,fZ,hg]
 cases hb:decide (80<(bag.length:Int))
 rotate_left
 ·simp (disch:=first|assumption|omega) only[S0,rA,rQ,rB,rT,rE,fZ,hg,hb]
 cases ha:Ra2 (reps.length:Int) asked
 ·simp (disch:=first|assumption|omega) only[S0,rA,rQ,rB,rT,rE,fZ,Ea8,hg,hb,ha]
 simp (disch:=first|assumption|omega) only[S0,rA,rQ,rB,rT,rE,fZ,Ea8,hg,hb,ha];rw[Bau 1 reps.length (Pa2 reps.length reps) [.bool false]]
 ·cases hr:sU (Pa2 reps.length reps) reps.length
  ·simp (disch:=first|assumption|omega) only[S0,rA,rQ,rB,rT,rE]
  ·simp (disch:=first|assumption|omega) only[S0,rA,rQ,rB,rT,rE]
   rw[Yap 3 bag (fun m=>zD reps.length m) [.bool false]]
   ·(refine aD ?_;repeat' (refine aC ?_ ?_<;>intro _<;>try simp (disch:=first|assumption|omega) only[S0,rA,rQ,rB,rT,rE, *]))
   ·intro i hi sY hlt hm
    have hq:=h7 _ hm;simp (disch:=first|assumption|omega) only[S0,rA,rQ,rB,rT,rE,aJ,Paj,hlt]<;>repeat' (refine aC (fun _=>?_) (fun _=>?_)<;>try simp (disch:=first|assumption|omega) only[S0,rA,rQ,rB,rT,rE, *])
   ·intro hlt
    simp (disch:=first|assumption|omega) only[S0,rA,rQ,rB,rT,rE,hlt]
 ·intro i hi hlt
  have sY:InB reps (i:Int):=aH.2 hi;obtain⟨lE,km⟩:=h5 _ (at_mem hi);unfold Pa2;simp (disch:=first|assumption|omega) only[S0,rA,rQ,rB,rT,rE,aJ,Fa5,hlt]<;>repeat' (refine aC (fun _=>?_) (fun _=>?_)<;>try simp (disch:=first|assumption|omega) only[S0,rA,rQ,rB,rT,rE, *])
 ·intro hlt
  simp (disch:=first|assumption|omega) only[S0,rA,rQ,rB,rT,rE,hlt]
theorem Aab (fq jx jw jz nq eM gl fe cV eN ec dT dz cN:Int)(bk:(List Int))(n:Int)(hx:bk.length<=10000000000):Fun T 85 [i64 fq,i64 jx,i64 jw,i64 jz,i64 nq,i64 eM,i64 gl,i64 fe,i64 cV,i64 eN,i64 ec,i64 dT,i64 dz,i64 cN,rL bk,i64 n]=some [.bool (!zD n ⟨fq,jx,jw,jz,nq,eM,gl,fe,⟨cV,eN,ec,dT,dz⟩,⟨cN,bk⟩⟩)]:=by
 rw[aO (t:=Pbi) rfl];unfold Pbi
 simp (disch:=first|assumption|omega) only[S0,rA,rQ,rB,rT,rE,Qav]
theorem Qao (n:Int)(xs:List pO)(hx:xs.length<=1099511627776)(hq:∀ x∈xs,x.attr.deps.length<=10000000000):Fun T 84 [rL xs,i64 n]=some [i64 (ixF (fun m=>!zD n m) xs)]:=by
 rw[aO (t:=Pbj) rfl];unfold Pbj
 simp (disch:=first|assumption|omega) only[S0,rA,rQ,rB,rT,rE,aJ, *];rw[xG 1 xs (fun m=>!zD n m) (fun i=>[i64 i])]
 ·cases h:xs.any (fun m=>!zD n m)
  ·have e:ixF (fun m=>!zD n m) xs=-1:=by
    have h2:=dF (fun m=>!zD n m) xs;rw[h]at h2;unfold ixF at h2 ⊢;split at h2<;>simp_all
   rw[e];simp (disch:=first|assumption|omega) only[S0,rA,rQ,rB,rT,rE]
  ·simp (disch:=first|assumption|omega) only[S0,rA,rQ,rB,rT,rE]
 ·intro i hi hb hl hp
  have kA:=hq _ (at_mem hi)
  try simp only at kA hp
  (refine aD ?_;repeat' (refine aC ?_ ?_<;>intro _<;>try simp (disch:=first|assumption|omega) only[S0,rA,rQ,rB,rT,rE,aJ,Aab, *]))
 ·intro i hi hb hl hp
  have kA:=hq _ (at_mem hi)
  try simp only at kA hp
  (refine aD ?_;repeat' (refine aC ?_ ?_<;>intro _<;>try simp (disch:=first|assumption|omega) only[S0,rA,rQ,rB,rT,rE,aJ,Aab, *]))
 ·intro hl
  (refine aD ?_;repeat' (refine aC ?_ ?_<;>intro _<;>try simp (disch:=first|assumption|omega) only[S0,rA,rQ,rB,rT,rE, *]))
theorem Fax (n:Int)(xs:List pO)(hx:xs.length<=1099511627776)(hq:∀ x∈xs,x.attr.deps.length<=10000000000):Fun T 83 [rL xs,i64 n]=some [.bool (xs.any (fun m=>!zD n m))]:=by
 rw[aO (t:=Pbk) rfl];unfold Pbk
 (refine aD ?_;repeat' (refine aC ?_ ?_<;>intro _<;>try simp (disch:=first|assumption|omega) only[S0,rA,rQ,rB,rT,rE,Qao,dF, *]))
theorem wY (reps:List nY)(bag:List pO)(asked:List dD)(h1:uX reps)(h2:Lab bag)(h3:asked.length<=10000000000):Fun T 81 [rL reps,rL bag,rL asked]=some [.bool (vI ⟨reps,bag,asked⟩)]:=by
 rw[aO (t:=Pbm) rfl];unfold Pbm;unfold vI
 obtain⟨h4,h5⟩:=h1;obtain⟨h6,h7⟩:=h2;have h6':bag.length<=1099511627776:=by omega
 have e:(bag.any fun m=>!zD reps.length m)=!bag.all fun m=>zD reps.length m:=by rw[Bcg]
 cases hg:dG (reps.length:Int)
 ·simp (disch:=first|assumption|omega) only[S0,rA,rQ,rB,rT,rE,iO,hg]
 have hn:=aY hg;cases hb:decide (80<(bag.length:Int))
 rotate_left
 ·simp (disch:=first|assumption|omega) only[S0,rA,rQ,rB,rT,rE,iO,hg,hb]
 cases hm:bag.all fun m=>zD reps.length m
 ·simp (disch:=first|assumption|omega) only[S0,rA,rQ,rB,rT,rE,iO,Fax,hg,hb,e,hm]
 simp (disch:=first|assumption|omega) only[S0,rA,rQ,rB,rT,rE,iO,Fax,hg,hb,e,hm];rw[Bau 1 reps.length (Pa2 reps.length reps) [.bool false]]
 ·cases hr:sU (Pa2 reps.length reps) reps.length
  ·simp (disch:=first|assumption|omega) only[S0,rA,rQ,rB,rT,rE]
  ·simp (disch:=first|assumption|omega) only[S0,rA,rQ,rB,rT,rE]
   unfold Ra2;rw[Bau 3 asked.length (Ja1 reps.length asked) [.bool false]]
   ·(refine aD ?_;repeat' (refine aC ?_ ?_<;>intro _<;>try simp (disch:=first|assumption|omega) only[S0,rA,rQ,rB,rT,rE, *]))
   ·intro i hi hlt
    have sY:InB asked (i:Int):=aH.2 hi;have hle:i<=asked.length:=by omega
    unfold Ja1;cases c1:inst (reps.length:Int) (atI asked (i:Int)).rep (atI asked (i:Int)).no
    ·simp (disch:=first|assumption|omega) only[S0,rA,rQ,rB,rT,rE,aJ,bK,hlt,c1,hg]
    cases c2:qY (atI asked (i:Int)).cmd
    ·simp (disch:=first|assumption|omega) only[S0,rA,rQ,rB,rT,rE,aJ,bK,fH,hlt,c1,c2,hg]
    cases c3:(atI asked (i:Int)).cmd.kind==0
    rotate_left
    ·simp (disch:=first|assumption|omega) only[S0,rA,rQ,rB,rT,rE,aJ,bK,fH,hlt,c1,c2,c3,hg]
    rw[<- dF];cases c4:decide (0<=ixF (fun b:dD=>b.rep==(atI asked (i:Int)).rep&&b.no==(atI asked (i:Int)).no) (List.take i asked))<;>simp (disch:=first|assumption|omega) only[S0,rA,rQ,rB,rT,rE,aJ,bK,fH,Kam,hlt,c1,c2,c3,c4,hg]
   ·intro hlt
    simp (disch:=first|assumption|omega) only[S0,rA,rQ,rB,rT,rE,hlt]
 ·intro i hi hlt
  have sY:InB reps (i:Int):=aH.2 hi;obtain⟨lE,km⟩:=h5 _ (at_mem hi);unfold Pa2;generalize hz:Sa1 (atI reps (i:Int))=z;cases k1:(atI reps (i:Int)).me==(i:Int)
  ·simp (disch:=first|assumption|omega) only[S0,rA,rQ,rB,rT,rE,aJ,hlt,k1]
  cases k2:(atI reps (i:Int)).table.n==(reps.length:Int)
  ·simp (disch:=first|assumption|omega) only[S0,rA,rQ,rB,rT,rE,aJ,hlt,k1,k2]
  cases z<;>simp (disch:=first|assumption|omega) only[S0,rA,rQ,rB,rT,rE,aJ,Gaf,hlt,k1,k2,hz]
 ·intro hlt
  simp (disch:=first|assumption|omega) only[S0,rA,rQ,rB,rT,rE,hlt]
theorem Bao (reps:List nY)(bag:List pO)(asked:List dD)(h1:uX reps)(hn:vI ⟨reps,bag,asked⟩=true):Fun T 52 [rL reps,rL bag,rL asked]=some [.bool (Kbo ⟨reps,bag,asked⟩)]:=by
 rw[aO (t:=Qbf) rfl];unfold Qbf;unfold Kbo
 obtain⟨h4,h5⟩:=h1;have hg:=oJ hn;have py:=aY hg;simp only at hg py;simp (disch:=first|assumption|omega) only[S0,rA,rQ,rB,rT,rE];rw[Bau 1 reps.length (fun i=>(bU (atI reps (i:Int)).table.rows).all fun x=>(reps.take i).all fun b=>Oah (atI reps (i:Int)).table b.table x) [.bool false]]
 ·(refine aD ?_;repeat' (refine aC ?_ ?_<;>intro _<;>try simp (disch:=first|assumption|omega) only[S0,rA,rQ,rB,rT,rE, *]))
 ·intro i hi hlt
  have sY:InB reps (i:Int):=aH.2 hi;have hle:i<=reps.length:=by omega
  obtain⟨ht,hN,-⟩:=jM hn (i:=i) hi;obtain⟨lE,km⟩:=h5 _ (at_mem hi);simp only at ht hN;rw[Hbq];generalize hR:atI reps (i:Int)=R at ht hN lE km ⊢;have h6:∀ l∈R.table.rows,l.length<=6:=fun l hl=>(dV ht hl).1
  have hl:=dM ht;have jh:R.table.rows.length<=100:=by omega
  have iz:(bU R.table.rows).length<=6*R.table.rows.length:=nQ h6 (Zbr _);have uk:=bA ht;have htl:(reps.take i).length<=1099511627776:=by rw[Zb1];omega
  simp (disch:=first|assumption|omega) only[S0,rA,rQ,rB,rT,rE,aJ,vM,hlt,hR,Zb7,Bcf,Bcl];rw[Yap 3 (reps.take i) (fun b=>(bU R.table.rows).all fun x=>Oah R.table b.table x) [.bool false]]
  ·(refine aD ?_;repeat' (refine aC ?_ ?_<;>intro _<;>try simp (disch:=first|assumption|omega) only[S0,rA,rQ,rB,rT,rE, *]))
  ·intro k hk qa jb yz
   have qi:=Ac9 yz;obtain⟨qn,sL⟩:=h5 _ qi;obtain⟨k2,ox,ek⟩:=Bcm qi;obtain⟨lf,og,-⟩:=jM hn (i:=k2) ox;simp only at lf og;rw[bC ox,ek]at lf og;generalize hU:atI (reps.take i) (k:Int)=U at lf og qn sL ⊢;have hgu:=bA lf;simp (disch:=first|assumption|omega) only[S0,rA,rQ,rB,rT,rE,aJ,kM,jb,hU];rw[Yap 5 (bU R.table.rows) (fun x=>Oah R.table U.table x) [.bool false]]
   ·(refine aD ?_;repeat' (refine aC ?_ ?_<;>intro _<;>try simp (disch:=first|assumption|omega) only[S0,rA,rQ,rB,rT,rE, *]))
   ·intro j hj vu ja hm
    obtain⟨x0,x1,-,xi,-⟩:=iI ht hm;have xr:=bJ xi;have xb:=dL ht xi;have xi2:inst U.table.n (atI (atI (bU R.table.rows) (j:Int)) 0) (atI (atI (bU R.table.rows) (j:Int)) 1)=true:=by rw[og,<- hN];exact xi
    have xb2:=dL lf xi2;have yd:=eF ht xi;have yd2:=eF lf xi2;unfold Oah;generalize hw:fM R.table (atI (atI (bU R.table.rows) (j:Int)) 0) (atI (atI (bU R.table.rows) (j:Int)) 1)=w at yd ⊢;generalize hv:fM U.table (atI (atI (bU R.table.rows) (j:Int)) 0) (atI (atI (bU R.table.rows) (j:Int)) 1)=v at yd2 ⊢;cases k1:v.state==3
    ·simp (disch:=first|assumption|omega) only[S0,rA,rQ,rB,rT,rE,aJ,rD,kI,ja,hw,hv,k1]
    cases k2:decide (w.cmd=v.cmd)
    ·simp (disch:=first|assumption|omega) only[S0,rA,rQ,rB,rT,rE,aJ,rD,kI,ja,hw,hv,k1,k2]
    cases k3:decide (w.attr=v.attr)
    ·simp (disch:=first|assumption|omega) only[S0,rA,rQ,rB,rT,rE,aJ,rD,kI,jX,ja,hw,hv,k1,k2,k3]
    simp (disch:=first|assumption|omega) only[S0,rA,rQ,rB,rT,rE,aJ,rD,kI,jX,ja,hw,hv,k1,k2,k3]
   ·intro ja
    simp (disch:=first|assumption|omega) only[S0,rA,rQ,rB,rT,rE,ja]
  ·intro jb
   simp (disch:=first|assumption|omega) only[S0,rA,rQ,rB,rT,rE,jb]
 ·intro hlt
  simp (disch:=first|assumption|omega) only[S0,rA,rQ,rB,rT,rE,hlt]
theorem Aaa (reps:List nY)(bag:List pO)(asked:List dD)(h1:uX reps)(hn:vI ⟨reps,bag,asked⟩=true):Fun T 127 [rL reps,rL bag,rL asked]=some [.bool (Kbo ⟨reps,bag,asked⟩)]:=by
 rw[aO (t:=Ebo) rfl];unfold Ebo;unfold Kbo
 obtain⟨h4,h5⟩:=h1;have hg:=oJ hn;have py:=aY hg;simp only at hg py;simp (disch:=first|assumption|omega) only[S0,rA,rQ,rB,rT,rE];rw[Bau 1 reps.length (fun i=>(bU (atI reps (i:Int)).table.rows).all fun x=>(reps.take i).all fun b=>Oah (atI reps (i:Int)).table b.table x) [.bool false]]
 ·(refine aD ?_;repeat' (refine aC ?_ ?_<;>intro _<;>try simp (disch:=first|assumption|omega) only[S0,rA,rQ,rB,rT,rE, *]))
 ·intro i hi hlt
  have sY:InB reps (i:Int):=aH.2 hi;have hle:i<=reps.length:=by omega
  obtain⟨ht,hN,-⟩:=jM hn (i:=i) hi;obtain⟨lE,km⟩:=h5 _ (at_mem hi);simp only at ht hN;generalize hR:atI reps (i:Int)=R at ht hN lE km ⊢;have h6:∀ l∈R.table.rows,l.length<=6:=fun l hl=>(dV ht hl).1
  have hl:=dM ht;have jh:R.table.rows.length<=100:=by omega
  have iz:(bU R.table.rows).length<=6*R.table.rows.length:=nQ h6 (Zbr _);have uk:=bA ht;have htl:(reps.take i).length<=1099511627776:=by rw[Zb1];omega
  simp (disch:=first|assumption|omega) only[S0,rA,rQ,rB,rT,rE,aJ,gZ,hlt,hR];rw[Yap 3 (bU R.table.rows) (fun x=>(reps.take i).all fun b=>Oah R.table b.table x) [.bool false]]
  ·(refine aD ?_;repeat' (refine aC ?_ ?_<;>intro _<;>try simp (disch:=first|assumption|omega) only[S0,rA,rQ,rB,rT,rE, *]))
  ·intro j hj vu ja hm
   obtain⟨x0,x1,-,xi,-⟩:=iI ht hm;have xr:=bJ xi;have xb:=dL ht xi;have yd:=eF ht xi;simp (disch:=first|assumption|omega) only[S0,rA,rQ,rB,rT,rE,aJ,vM,bO,ja,Zb7,Bcf,Bcl];rw[Yap 5 (reps.take i) (fun b=>Oah R.table b.table (atI (bU R.table.rows) (j:Int))) [.bool false]]
   ·(refine aD ?_;repeat' (refine aC ?_ ?_<;>intro _<;>try simp (disch:=first|assumption|omega) only[S0,rA,rQ,rB,rT,rE, *]))
   ·intro k hk qa jb yz
    have qi:=Ac9 yz;obtain⟨qn,sL⟩:=h5 _ qi;obtain⟨k2,ox,ek⟩:=Bcm qi;obtain⟨lf,og,-⟩:=jM hn (i:=k2) ox;simp only at lf og;rw[bC ox,ek]at lf og;generalize hU:atI (reps.take i) (k:Int)=U at lf og qn sL ⊢;have hgu:=bA lf;have xi2:inst U.table.n (atI (atI (bU R.table.rows) (j:Int)) 0) (atI (atI (bU R.table.rows) (j:Int)) 1)=true:=by rw[og,<- hN];exact xi
    have xb2:=dL lf xi2;have yd2:=eF lf xi2;unfold Oah;generalize hw:fM R.table (atI (atI (bU R.table.rows) (j:Int)) 0) (atI (atI (bU R.table.rows) (j:Int)) 1)=w at yd ⊢;generalize hv:fM U.table (atI (atI (bU R.table.rows) (j:Int)) 0) (atI (atI (bU R.table.rows) (j:Int)) 1)=v at yd2 ⊢;cases k1:v.state==3
    ·simp (disch:=first|assumption|omega) only[S0,rA,rQ,rB,rT,rE,aJ,rD,bO,jb,hU,hw,hv,k1]
    cases k2:decide (w.cmd=v.cmd)
    ·simp (disch:=first|assumption|omega) only[S0,rA,rQ,rB,rT,rE,aJ,rD,bO,jb,hU,hw,hv,k1,k2]
    cases k3:decide (w.attr=v.attr)
    ·simp (disch:=first|assumption|omega) only[S0,rA,rQ,rB,rT,rE,aJ,rD,bO,eB,jb,hU,hw,hv,k1,k2,k3]
    simp (disch:=first|assumption|omega) only[S0,rA,rQ,rB,rT,rE,aJ,rD,bO,eB,jb,hU,hw,hv,k1,k2,k3]
   ·intro jb
    simp (disch:=first|assumption|omega) only[S0,rA,rQ,rB,rT,rE,jb]
  ·intro ja
   simp (disch:=first|assumption|omega) only[S0,rA,rQ,rB,rT,rE,ja]
 ·intro hlt
  simp (disch:=first|assumption|omega) only[S0,rA,rQ,rB,rT,rE,hlt]
theorem Cav (n:Int)(hg:dG n=true):Fun T 135 [i64 n]=some [i64 n,rL (Zbq n.toNat ([]:List bR))]:=by
 rw[aO (t:=Ebg) rfl];unfold Ebg
 have hn:=aY hg;simp (disch:=first|assumption|omega) only[S0,rA,rQ,rB,rT,rE,xU]
theorem Hap (reps:List nY)(bag:List pO)(asked:List dD)(h1:uX reps)(hn:vI ⟨reps,bag,asked⟩=true):Fun T 59 [rL reps,rL bag,rL asked]=some [i64 (Zak ⟨reps,bag,asked⟩).n,rL (Zak ⟨reps,bag,asked⟩).rows]:=by
 rw[aO (t:=Pb8) rfl];unfold Pb8;unfold Zak
 obtain⟨h4,h5⟩:=h1;have hg:=oJ hn;have py:=aY hg;simp only at hg py;simp (disch:=first|assumption|omega) only[S0,rA,rQ,rB,rT,rE,Ka6];rw[(Na0 1 reps (fun i (s:aM)=>[i64 i,i64 s.n,rL s.rows]) ⟨reps.length,Zbq (reps.length:Int).toNat []⟩ (fun acc R=>Kb8 R.table acc) (fun _ s=>Yav reps.length s) (fun s=>[i64 s.n,rL s.rows]) rfl (Wae (by omega)) ?_ ?_).1]
 ·simp (disch:=first|assumption|omega) only[S0,rA,rQ,rB,rT,rE]
 ·intro i s hi hb hlt hv
  obtain⟨ht,hN,-⟩:=jM hn (i:=i) hi;obtain⟨lE,km⟩:=h5 _ (at_mem hi);simp only at ht hN;generalize hR:atI reps (i:Int)=R at ht hN lE km ⊢;refine⟨?_,Ua0 ht hN (by omega) hv⟩;have h6:∀ l∈R.table.rows,l.length<=6:=fun l hl=>(dV ht hl).1
  have hl:=dM ht;have jh:R.table.rows.length<=100:=by omega
  have iz:(bU R.table.rows).length<=6*R.table.rows.length:=nQ h6 (Zbr _);have uk:=bA ht;unfold Kb8;simp (disch:=first|assumption|omega) only[S0,rA,rQ,rB,rT,rE,aJ,kM,hlt,hR];rw[(Na0 3 (bU R.table.rows) (fun j (s:aM)=>[i64 j,i64 s.n,rL s.rows]) s (Hb8 R.table) (fun _ s=>Yav reps.length s) (fun s=>[i64 s.n,rL s.rows]) rfl hv ?_ ?_).1]
  ·simp (disch:=first|assumption|omega) only[S0,rA,rQ,rB,rT,rE]
  ·intro j s2 hj vu ja qT
   have hm:=at_mem hj;obtain⟨x0,x1,-,xi,-⟩:=iI ht hm;have xr:=bJ xi;have xb:=dL ht xi;have yd:=eF ht xi;refine⟨?_,Ma5 ht hN (by omega) qT hm⟩;have hsm:=Cbr qT (by omega);obtain⟨v1,v2,-⟩:=qT;have xb2:InB s2.rows (atI (atI (bU R.table.rows) (j:Int)) 0):=by unfold InB;omega
   have vz:dG s2.n=true:=by rw[v1];exact hg
   unfold Hb8 setRow;simp (disch:=first|assumption|omega) only[S0,rA,rQ,rB,rT,rE,aJ,kI,Wa0,ja]
  ·intro s2 ja qT
   simp (disch:=first|assumption|omega) only[S0,rA,rQ,rB,rT,rE,ja]
 ·intro s hlt hv
  simp (disch:=first|assumption|omega) only[S0,rA,rQ,rB,rT,rE,hlt]
theorem Gae (reps:List nY)(bag:List pO)(asked:List dD)(h1:uX reps)(hn:vI ⟨reps,bag,asked⟩=true):Fun T 134 [rL reps,rL bag,rL asked]=some [i64 (Zak ⟨reps,bag,asked⟩).n,rL (Zak ⟨reps,bag,asked⟩).rows]:=by
 rw[aO (t:=Ebh) rfl];unfold Ebh;unfold Zak
 obtain⟨h4,h5⟩:=h1;have hg:=oJ hn;have py:=aY hg;simp only at hg py;simp (disch:=first|assumption|omega) only[S0,rA,rQ,rB,rT,rE,Cav];rw[(Na0 1 reps (fun i (s:aM)=>[i64 i,i64 s.n,rL s.rows]) ⟨reps.length,Zbq (reps.length:Int).toNat []⟩ (fun acc R=>Kb8 R.table acc) (fun _ s=>Yav reps.length s) (fun s=>[i64 s.n,rL s.rows]) rfl (Wae (by omega)) ?_ ?_).1]
 ·simp (disch:=first|assumption|omega) only[S0,rA,rQ,rB,rT,rE]
 ·intro i s hi hb hlt hv
  obtain⟨ht,hN,-⟩:=jM hn (i:=i) hi;obtain⟨lE,km⟩:=h5 _ (at_mem hi);simp only at ht hN;generalize hR:atI reps (i:Int)=R at ht hN lE km ⊢;refine⟨?_,Ua0 ht hN (by omega) hv⟩;have h6:∀ l∈R.table.rows,l.length<=6:=fun l hl=>(dV ht hl).1
  have hl:=dM ht;have jh:R.table.rows.length<=100:=by omega
  have iz:(bU R.table.rows).length<=6*R.table.rows.length:=nQ h6 (Zbr _);have uk:=bA ht;unfold Kb8;simp (disch:=first|assumption|omega) only[S0,rA,rQ,rB,rT,rE,aJ,gZ,hlt,hR];rw[(Na0 3 (bU R.table.rows) (fun j (s:aM)=>[i64 j,i64 s.n,rL s.rows]) s (Hb8 R.table) (fun _ s=>Yav reps.length s) (fun s=>[i64 s.n,rL s.rows]) rfl hv ?_ ?_).1]
  ·simp (disch:=first|assumption|omega) only[S0,rA,rQ,rB,rT,rE]
  ·intro j s2 hj vu ja qT
   have hm:=at_mem hj;obtain⟨x0,x1,-,xi,-⟩:=iI ht hm;have xr:=bJ xi;have xb:=dL ht xi;have yd:=eF ht xi;refine⟨?_,Ma5 ht hN (by omega) qT hm⟩;have hsm:=Cbr qT (by omega);obtain⟨v1,v2,-⟩:=qT;have xb2:InB s2.rows (atI (atI (bU R.table.rows) (j:Int)) 0):=by unfold InB;omega
   have vz:dG s2.n=true:=by rw[v1];exact hg
   unfold Hb8 setRow;simp (disch:=first|assumption|omega) only[S0,rA,rQ,rB,rT,rE,aJ,bO,zZ,ja]
  ·intro s2 ja qT
   simp (disch:=first|assumption|omega) only[S0,rA,rQ,rB,rT,rE,ja]
 ·intro s hlt hv
  simp (disch:=first|assumption|omega) only[S0,rA,rQ,rB,rT,rE,hlt]
theorem Ban (l:List (List Int))(x:List Int)(hl:l.length<=1000)(h2:∀ y∈l,y.length=2)(hx:x.length=2):Fun T 68 [rL l,rL x]=some [rL (Jb2 l x)]:=by
 rw[aO (t:=Pbz) rfl];unfold Pbz
 have x0:InB x 0:=by unfold InB;omega
 have x1:InB x 1:=by unfold InB;omega
 have hk:=Tai l x l.length;have qz:((pV l x l.length:Nat):Int)<=l.length:=by omega
 simp (disch:=first|assumption|omega) only[S0,rA,rQ,rB,rT,rE];rw[Ga7 (γ:=Nat) (.yield 1,[i64 ((pV l x l.length:Nat):Int)]) (fun k=>k) (fun k=>k<=l.length/\pV l x k=pV l x l.length) (fun k=>[i64 (k:Int)]) l.length rfl ⟨Zbr _,rfl⟩ (by simp)]
 ·have e0:(l.take (pV l x l.length)).drop 0=l.take (pV l x l.length):=rfl
  have e1:(l.take l.length).drop (pV l x l.length)=l.drop (pV l x l.length):=by rw[Acn]
  have t1:(l.take (pV l x l.length)).length<=1000:=by rw[Zb1];omega
  have t2:(l.drop (pV l x l.length)).length<=1000:=by rw[Acv];omega
  have t3:((l.take (pV l x l.length))++[x]).length<=1001:=by rw[Zbi];simp only[Zbs,Zby];omega
  have a1:([]:List (List Int)).length+(l.drop (pV l x l.length)).length<=100000000000:=by simp only[Zby];omega
  have a2:([]:List (List Int)).length+(l.take (pV l x l.length)).length<=100000000000:=by simp only[Zby];omega
  have a3:(l.take (pV l x l.length)).length+([x]:List (List Int)).length<=100000000000:=by simp only[Zbs,Zby];omega
  have a4:((l.take (pV l x l.length))++[x]).length+(l.drop (pV l x l.length)).length<=100000000000:=by omega
  have h0:(aU.mk 1 0).run []=some [rL ([]:List (List Int))]:=rfl;have b1:(0:Int)<=((pV l x l.length:Nat):Int):=by omega
  unfold Jb2;simp (disch:=first|assumption|omega) only[S0,rA,rQ,rB,rT,rE,nT,gW,vM,h0,e0,e1,Zb7,Bcf,Aco]
 ·intro k ⟨a7m,wg⟩
  cases k with
  | zero =>
   refine .inr ?_;have e:pV l x l.length=0:=by rw[<- wg];rfl
   have hd0:decide ((0:Int)<((0:Nat):Int))=false:=by decide
   rw[e];simp (disch:=first|assumption|omega) only[S0,rA,rQ,rB,rT,rE,aJ,hd0]
  | succ k =>
   have hb:InB l (k:Int):=aH.2 (by omega);have hy:=h2 _ (at_mem (show k<l.length by omega));have y0:InB (atI l (k:Int)) 0:=by unfold InB;omega
   have y1:InB (atI l (k:Int)) 1:=by unfold InB;omega
   have uk:decide (0<(k:Int)+1)=true:=decide_eq_true (by omega)
   have pr:(aU.bin .sub).run [i64 ((k:Int)+1),i64 1]=some [i64 (k:Int)]:=by
    have h:=Sax (a:=(k:Int)+1) (b:=1) (by omega) (by omega);rw[show (k:Int)+1-1=k by omega]at h;exact h
   cases hg:gtL (atI l (k:Int)) x
   ·refine .inr ?_
    have e:pV l x l.length=k+1:=by rw[<- wg];unfold pV;rw[hg];simp
    rw[e];have vz:=hg;unfold gtL at vz;cases c1:decide (atI x 0<atI (atI l (k:Int)) 0)<;>cases c2:(atI (atI l (k:Int)) 0==atI x 0)<;>cases c3:decide (atI x 1<atI (atI l (k:Int)) 1)<;>rw[c1,c2,c3]at vz<;>first|(cases vz;done)|skip
    all_goals simp (disch:=first|assumption|omega) only[S0,rA,rQ,rB,rT,rE,aJ,uk,pr,c1,c2,c3]
   ·refine .inl ⟨k,?_,⟨by omega,by rw[<- wg];conv=>rhs;unfold pV;rw[hg];simp⟩,by omega⟩
    have vz:=hg;unfold gtL at vz;cases c1:decide (atI x 0<atI (atI l (k:Int)) 0)<;>cases c2:(atI (atI l (k:Int)) 0==atI x 0)<;>cases c3:decide (atI x 1<atI (atI l (k:Int)) 1)<;>rw[c1,c2,c3]at vz<;>first|(cases vz;done)|skip
    all_goals simp (disch:=first|assumption|omega) only[S0,rA,rQ,rB,rT,rE,aJ,uk,pr,c1,c2,c3]
theorem Ab2 (q:Int)(deps:List Int)(hl:deps.length<=5)(h6:∀ d∈deps,0<=d/\d<=6):Fun T 143 [i64 q,rL deps]=some [rL (zJ deps deps.length)]:=by
 rw[aO (t:=Db8) rfl];unfold Db8
 have h0:(aU.mk 1 0).run []=some [rL ([]:List (List Int))]:=rfl;simp (disch:=first|assumption|omega) only[S0,rA,rQ,rB,rT,rE,h0];rw[jN deps.length (fun k=>[rL (zJ deps k),i64 k]) (.yield 1,[rL (zJ deps deps.length)]) rfl (by simp)]
 ·simp (disch:=first|assumption|omega) only[S0,rA,rQ,rB,rT,rE]
 ·intro k hk hlt
  have qa:InB deps (k:Int):=aH.2 hk;have hq:=h6 _ (at_mem hk);have hln:=Iau (deps:=deps) (fun d hd=>(h6 d hd).2) (m:=k) (by omega);simp (disch:=first|assumption|omega) only[S0,rA,rQ,rB,rT,rE,aJ,hlt];rw[jN (atI deps (k:Int)).toNat (fun i=>[rL (zJ deps k++oU k i),i64 ((i:Int)+1)]) (.yield 3,[rL (zJ deps (k+1))]) (by show [rL (zJ deps k),_]=_;simp[oU,aL.val]) (by simp)]
  ·simp (disch:=first|assumption|omega) only[S0,rA,rQ,rB,rT,rE]
  ·intro i oY bb
   have hlc:=Iat (k:Int) i
   have k8:(zJ deps k++oU (k:Int) i).length+([[(k:Int),(i:Int)+1]]:List (List Int)).length<=100000000000:=by
    rw[Zbi];simp only[Zbs,Zby];omega
   have hle:decide ((i:Int)+1<=atI deps (k:Int))=true:=by simp;omega
   have e:=Qay (k:Int) i;simp (disch:=first|assumption|omega) only[S0,rA,rQ,rB,rT,rE,nT,gW,hle,e,<- Zbm]
  ·intro bb
   have hle:decide ((((atI deps (k:Int)).toNat:Nat):Int)+1<=atI deps (k:Int))=false:=by simp;omega
   rw[La5];simp (disch:=first|assumption|omega) only[S0,rA,rQ,rB,rT,rE,hle]
 ·intro hlt
  simp (disch:=first|assumption|omega) only[S0,rA,rQ,rB,rT,rE,hlt]
theorem vS (n:Int)(rows:List (List bR))(rep no:Int)(ht:bG ⟨n,rows⟩=true)(hi:inst n rep no=true)(hc:zK ⟨n,rows⟩ [rep,no]=true)(hs:mI rows):Fun T 65 [i64 n,rL rows,i64 rep,i64 no]=some [rL (vG ⟨n,rows⟩ [rep,no])]:=by
 rw[aO (t:=Pb2) rfl];unfold Pb2
 have hx:fB n [rep,no]:=⟨rfl,hi⟩;simp (disch:=first|assumption|omega) only[S0,rA,rQ,rB,rT,rE,nT];generalize hE:Er T (Tm.loop _ _) _=E
 obtain⟨r,h1,s,h2,h3⟩:∃ r,E=some r/\∃ s,Cbs ⟨n,rows⟩ [rep,no] s.met.length s/\r=(.yield 1,[rL s.out]):=by
  rw[<- hE];refine Iag (γ:=Nat×SSt) (fun c=>31-c.1) (fun c=>Cbs ⟨n,rows⟩ [rep,no] c.1 c.2) (fun c=>[rL c.2.met,rL c.2.out,i64 (c.1:Int)]) (fun r=>∃ s,Cbs ⟨n,rows⟩ [rep,no] s.met.length s/\r=(.yield 1,[rL s.out])) (0,⟨[[rep,no]],[]⟩) ?_ (Cbs.start hc) ?_
  ·rfl
  rintro⟨i,s⟩ hinv
  dsimp only at hinv ⊢;have hlen:=hinv.toSPre.len ht hx
  rcases Zbz i s.met.length with hlt|mj
  ·refine .inl ⟨(i+1,Rbo ⟨n,rows⟩ s i),?_,hinv.step ht hx hlt,by dsimp only;omega⟩
   dsimp only;have hb:InB s.met (i:Int):=aH.2 hlt;have hd:decide ((i:Int)<s.met.length)=true:=by simp;omega
   obtain⟨sw,um⟩:=hinv.rch _ (at_mem hlt);obtain⟨po,zf⟩:=sw.inst ht hx;have z0:InB (atI s.met (i:Int)) 0:=by unfold InB;omega
   have z1:InB (atI s.met (i:Int)) 1:=by unfold InB;omega
   have ma:∀ y∈Kap ⟨n,rows⟩ (atI (atI s.met (i:Int)) 0) (atI (atI s.met (i:Int)) 1),Fa1 ⟨n,rows⟩ [rep,no] y:=fun y hy=>.step sw um ((Jah po).1 hy).1
   have xq:(Kap ⟨n,rows⟩ (atI (atI s.met (i:Int)) 0) (atI (atI s.met (i:Int)) 1)).length<=30:=by
    have hd6:=nU (mW ht zf) (bA ht);have pC:=eF ht zf;have hn:=aY (bA ht);simp only at pC hn;have:=Gaz (rep:=atI (atI s.met (i:Int)) 0) (no:=atI (atI s.met (i:Int)) 1) (fun d hd=>(hd6 d hd).2) (Zbr _);unfold Kap;omega
   simp (disch:=first|assumption|omega) only[S0,rA,rQ,rB,rT,rE,aJ,Hao,hd];unfold Rbo;generalize Kap ⟨n,rows⟩ (atI (atI s.met (i:Int)) 0) (atI (atI s.met (i:Int)) 1)=ys at ma xq ⊢;rw[(Na0 3 ys (fun i (s:SSt)=>[rL s.met,rL s.out,rL ys,i64 i]) s (Uau ⟨n,rows⟩) (fun _ s=>SPre ⟨n,rows⟩ [rep,no] s) (fun s=>[rL s.met,rL s.out]) rfl hinv.toSPre ?_ ?_).1]
   ·simp (disch:=first|assumption|omega) only[S0,rA,rQ,rB,rT,rE]
   ·intro j u hj vu bb hu
    have hul:=hu.len ht hx;have tW:=ma _ (at_mem hj);obtain⟨xe,zt⟩:=tW.inst ht hx;obtain⟨k2,-⟩:=Pak ht hx hu tW;refine⟨?_,k2⟩;have y0:InB (atI ys (j:Int)) 0:=by unfold InB;omega
    have y1:InB (atI ys (j:Int)) 1:=by unfold InB;omega
    have hg:dG n=true:=bA ht;have yb:InB rows (atI (atI ys (j:Int)) 0):=dL ht zt;have yr:=bJ zt;have ho2:∀ y∈u.out,y.length=2:=fun y hy=>((hu.och y hy).1.inst ht hx).1
    have e1:u.met.any (fun z=>decide (atI ys (j:Int)=z))=decide (0<=iV u.met (atI ys (j:Int))):=(dF _ _).symm;have e2:u.out.any (fun z=>decide (atI ys (j:Int)=z))=decide (0<=iV u.out (atI ys (j:Int))):=(dF _ _).symm;have a1:u.met.length+([atI ys (j:Int)]:List (List Int)).length<=100000000000:=by simp only[Zbs,Zby];omega
    have b1:u.met.length<=1099511627776:=by omega
    have b2:u.out.length<=1099511627776:=by omega
    have b3:(atI ys (j:Int)).length<=1099511627776:=by omega
    have b4:u.out.length<=1000:=by omega
    have hcd:((fM ⟨n,rows⟩ (atI (atI ys (j:Int)) 0) (atI (atI ys (j:Int)) 1)).state==3)=zK ⟨n,rows⟩ (atI ys (j:Int)):=rfl;unfold Uau;rw[e1,e2];cases c1:decide (0<=iV u.met (atI ys (j:Int)))
    ·cases c2:decide (0<=iV u.out (atI ys (j:Int)))
     ·cases c3:zK ⟨n,rows⟩ (atI ys (j:Int))
      ·simp (disch:=first|assumption|omega) only[S0,rA,rQ,rB,rT,rE,aJ,nT,gW,fI,kI,Ban,bb,c1,c2,hcd,c3,Cci,Zbg]
      ·simp (disch:=first|assumption|omega) only[S0,rA,rQ,rB,rT,rE,aJ,nT,gW,fI,kI,Ban,bb,c1,c2,hcd,c3,Cci,Zbg]
     ·simp (disch:=first|assumption|omega) only[S0,rA,rQ,rB,rT,rE,aJ,fI,bb,c1,c2,Cct]
    ·simp (disch:=first|assumption|omega) only[S0,rA,rQ,rB,rT,rE,aJ,fI,bb,c1,Bool.true_or]
   ·intro u bb hu
    simp (disch:=first|assumption|omega) only[S0,rA,rQ,rB,rT,rE,bb]
  ·obtain rfl:i=s.met.length:=by have:=hinv.le;omega
   have hd:decide (((s.met.length:Nat):Int)<s.met.length)=false:=by simp
   exact .inr ⟨(.yield 1,[rL s.out]),by simp (disch:=first|assumption|omega) only[S0,rA,rQ,rB,rT,rE,hd],by simp,s,hinv,rfl⟩
 subst h3;rw[h1,<- h2.done ht hx];simp (disch:=first|assumption|omega) only[S0,rA,rQ,rB,rT,rE]
theorem Ma3 (l:List (List Int))(h2:∀ y∈l,y.length=2)(hl:l.length<=1000000):Fun T 148 [rL l]=some [rL ((lL id (l.map prL)).map toL)]:=by
 rw[Oak (e:=Hay) rfl];exact Kbr h2 hl
theorem Aau (n:Int)(rows:List (List bR))(x:List Int)(ht:bG ⟨n,rows⟩=true)(hx:fB n x)(hc:zK ⟨n,rows⟩ x=true)(hs:mI rows):Fun T 142 [i64 n,rL rows,rL x]=some [rL (vG ⟨n,rows⟩ x)]:=by
 rw[aO (t:=Db9) rfl];unfold Db9
 have h0:(aU.mk 1 0).run []=some [rL ([]:List (List Int))]:=rfl;simp (disch:=first|assumption|omega) only[S0,rA,rQ,rB,rT,rE,nT,h0];generalize hE:Er T (Tm.loop _ _) _=E
 obtain⟨r,h1,s,h2,h3,h4⟩:∃ r,E=some r/\∃ s,BInv ⟨n,rows⟩ x s/\s.wait=[]/\r=(.yield 1,[rL s.out]):=by
  rw[<- hE];refine Iag (γ:=BSt) (fun s=>31+s.wait.length-s.met.length) (fun s=>BInv ⟨n,rows⟩ x s/\s.wait.length<=s.met.length) (fun s=>[rL s.met,rL s.out,rL s.wait]) (fun r=>∃ s,BInv ⟨n,rows⟩ x s/\s.wait=[]/\r=(.yield 1,[rL s.out])) ⟨[x],[],[x]⟩ ?_ ⟨BInv.start hc,by simp⟩ ?_
  ·rfl
  rintro s ⟨hinv,hwl⟩
  have hlen:=hinv.toBPre.len ht hx;by_cases hw:s.wait=[]
  ·have hd:decide ((0:Int)<(s.wait.length:Nat))=false:=by rw[hw];rfl
   exact .inr ⟨(.yield 1,[rL s.out]),by simp (disch:=first|assumption|omega) only[S0,rA,rQ,rB,rT,rE,hd],by simp,s,hinv,hw,rfl⟩
  ·have jc:0<s.wait.length:=List.length_pos_iff.2 hw
   obtain⟨aE,xz⟩:=hinv.step hw;have hlen2:=aE.toBPre.len ht hx;refine .inl ⟨Lba ⟨n,rows⟩ s,?_,⟨aE,by omega⟩,by omega⟩;have hd:decide ((0:Int)<(s.wait.length:Nat))=true:=decide_eq_true (by omega);have hb:InB s.wait 0:=by unfold InB;omega
   have hzw:atI s.wait 0∈s.wait:=fT hb;obtain⟨hzm,um⟩:=hinv.wm _ hzw;have sw:=hinv.rch _ hzm;obtain⟨po,zf⟩:=sw.inst ht hx;have a5d:inst n (atI (atI s.wait 0) 0) (atI (atI s.wait 0) 1)=true:=zf;have z0:InB (atI s.wait 0) 0:=by unfold InB;omega
   have z1:InB (atI s.wait 0) 1:=by unfold InB;omega
   have hg:dG n=true:=bA ht;have zr:=bJ a5d;have zb:InB rows (atI (atI s.wait 0) 0):=dL ht zf;have ma:∀ y∈vL ⟨n,rows⟩ (atI s.wait 0),Fa1 ⟨n,rows⟩ x y:=fun y hy=>.step sw um hy
   have xq:=Ab3 ht (sw.inst ht hx);have hd6:=nU (mW ht zf) hg;have pC:=eF ht zf;have hn:=aY hg;simp only at pC hd6;have hdl5:(fM ⟨n,rows⟩ (atI (atI s.wait 0) 0) (atI (atI s.wait 0) 1)).attr.deps.length<=5:=by omega
   simp (disch:=first|assumption|omega) only[S0,rA,rQ,rB,rT,rE,aJ,bO,Ab2,hd];unfold Lba
   change _=some (Kind.cont,_)
   have eh:zJ (fM ⟨n,rows⟩ (atI (atI s.wait 0) 0) (atI (atI s.wait 0) 1)).attr.deps (fM ⟨n,rows⟩ (atI (atI s.wait 0) 0) (atI (atI s.wait 0) 1)).attr.deps.length=vL ⟨n,rows⟩ (atI s.wait 0):=rfl;rw[eh];have eA:=Jax (ys:=vL ⟨n,rows⟩ (atI s.wait 0)) hinv.toBPre ma;generalize vL ⟨n,rows⟩ (atI s.wait 0)=ys at ma xq eA ⊢;simp (disch:=first|assumption|omega) only[S0,rA,rQ,rB,rT,rE];rw[(Na0 3 ys (fun i (s:BSt)=>[rL s.met,rL s.out,rL s.wait,rL ys,i64 i]) s (Jaw ⟨n,rows⟩) (fun _ u=>BPre ⟨n,rows⟩ x u/\u.wait.length<=u.met.length) (fun s=>[rL s.met,rL s.out,rL s.wait]) rfl ⟨hinv.toBPre,hwl⟩ ?_ ?_).1]
   ·obtain⟨f1,-,-,⟨w',f4⟩,-⟩:=eA
    generalize ys.foldl (Jaw ⟨n,rows⟩) s=u at f1 f4 ⊢;have e1:(u.wait.take u.wait.length).drop 1=u.wait.drop 1:=by rw[Acn]
    have hp:1<=u.wait.length:=by rw[f4,Zbi];omega
    have zw:(1:Int)<=(u.wait.length:Nat):=by omega
    simp (disch:=first|assumption|omega) only[S0,rA,rQ,rB,rT,rE,vM,e1,Zb7,Int.toNat_one]
   ·rintro j u hj vu bb ⟨hu,huw⟩
    have hul:=hu.len ht hx;have tW:=ma _ (at_mem hj);obtain⟨xe,zt⟩:=tW.inst ht hx;obtain⟨k2,-,-,-,-,k6⟩:=Ra0 hu tW;refine⟨?_,k2,by omega⟩;have y0:InB (atI ys (j:Int)) 0:=by unfold InB;omega
    have y1:InB (atI ys (j:Int)) 1:=by unfold InB;omega
    have yb:InB rows (atI (atI ys (j:Int)) 0):=dL ht zt;have yr:=bJ zt;have a1:u.met.length+([atI ys (j:Int)]:List (List Int)).length<=100000000000:=by simp only[Zbs,Zby];omega
    have a2:u.out.length+([atI ys (j:Int)]:List (List Int)).length<=100000000000:=by simp only[Zbs,Zby];omega
    have a3:u.wait.length+([atI ys (j:Int)]:List (List Int)).length<=100000000000:=by simp only[Zbs,Zby];omega
    have b1:u.met.length<=1099511627776:=by omega
    have b3:(atI ys (j:Int)).length<=1099511627776:=by omega
    have hcd:((fM ⟨n,rows⟩ (atI (atI ys (j:Int)) 0) (atI (atI ys (j:Int)) 1)).state==3)=zK ⟨n,rows⟩ (atI ys (j:Int)):=rfl;unfold Jaw;cases c1:u.met.any (fun z=>decide (atI ys (j:Int)=z))
    ·cases c3:zK ⟨n,rows⟩ (atI ys (j:Int))
     ·simp (disch:=first|assumption|omega) only[S0,rA,rQ,rB,rT,rE,aJ,nT,gW,nC,bO,bb,c1,hcd,c3,Zbg]
     ·simp (disch:=first|assumption|omega) only[S0,rA,rQ,rB,rT,rE,aJ,nT,gW,nC,bO,bb,c1,hcd,c3,Zbg]
    ·simp (disch:=first|assumption|omega) only[S0,rA,rQ,rB,rT,rE,aJ,nC,bb,c1]
   ·intro u bb hu
    simp (disch:=first|assumption|omega) only[S0,rA,rQ,rB,rT,rE,bb]
 subst h4;have tg:=h2.toBPre.len ht hx;have ho2:∀ y∈s.out,y.length=2:=fun y hy=>((h2.rch y ((h2.out y).1 hy).1).inst ht hx).1
 have hol2:s.out.length<=1000000:=by omega
 rw[h1,<- h2.done ht hx h3];simp (disch:=first|assumption|omega) only[S0,rA,rQ,rB,rT,rE,Ma3]
theorem qG (x:List Int)(n:Int)(rows:List (List bR))(ht:bG ⟨n,rows⟩=true)(hs:mI rows)(hx:fB n x)(hc:zK ⟨n,rows⟩ x=true):Fun T 141 [rL x,i64 n,rL rows]=some [.bool (zM ⟨n,rows⟩ x)]:=by
 rw[aO (t:=Eba) rfl];unfold Eba
 simp (disch:=first|assumption|omega) only[S0,rA,rQ,rB,rT,rE,Aau];rfl
theorem Xaq (l:List (List Int))(n:Int)(rows:List (List bR))(ht:bG ⟨n,rows⟩=true)(hs:mI rows)(hl:l.length<=1000)(hx:∀ x∈l,fB n x/\zK ⟨n,rows⟩ x=true):Fun T 140 [rL l,i64 n,rL rows]=some [i64 (ixF (zM ⟨n,rows⟩) l)]:=by
 rw[aO (t:=Ebb) rfl];unfold Ebb
 simp (disch:=first|assumption|omega) only[S0,rA,rQ,rB,rT,rE];rw[xG 1 l (zM ⟨n,rows⟩) (fun i=>[i64 i])]
 ·cases h:l.any (zM ⟨n,rows⟩)
  ·have e:ixF (zM ⟨n,rows⟩) l=-1:=by
    have h2:=dF (zM ⟨n,rows⟩) l;rw[h]at h2;unfold ixF at h2 ⊢;split at h2<;>simp_all
   rw[e];simp (disch:=first|assumption|omega) only[S0,rA,rQ,rB,rT,rE]
  ·simp (disch:=first|assumption|omega) only[S0,rA,rQ,rB,rT,rE]
 ·intro i hi hb hlt hp
  obtain⟨q1,q2⟩:=hx _ (at_mem hi);simp (disch:=first|assumption|omega) only[S0,rA,rQ,rB,rT,rE,aJ,qG,hlt,hp]
 ·intro i hi hb hlt hp
  obtain⟨q1,q2⟩:=hx _ (at_mem hi);simp (disch:=first|assumption|omega) only[S0,rA,rQ,rB,rT,rE,aJ,qG,hlt,hp]
 ·intro hlt
  simp (disch:=first|assumption|omega) only[S0,rA,rQ,rB,rT,rE,hlt]
theorem Tau (l:List (List Int))(n:Int)(rows:List (List bR))(ht:bG ⟨n,rows⟩=true)(hs:mI rows)(hl:l.length<=1000)(hx:∀ x∈l,fB n x/\zK ⟨n,rows⟩ x=true):Fun T 139 [rL l,i64 n,rL rows]=some [rL (l.filter fun x=>!zM ⟨n,rows⟩ x)]:=by
 rw[aO (t:=Ebc) rfl];unfold Ebc
 simp (disch:=first|assumption|omega) only[S0,rA,rQ,rB,rT,rE,Xaq];by_cases h:0<=ixF (zM ⟨n,rows⟩) l
 rotate_left
 ·have e:ixF (zM ⟨n,rows⟩) l=-1:=by
   unfold ixF at h ⊢;split
   ·rename_i i hi;rw[hi]at h;simp at h
   ·rfl
  have e2:l.filter (fun x=>!zM ⟨n,rows⟩ x)=l:=by
   rw[List.filter_eq_self];intro x hxm
   cases hb:zM ⟨n,rows⟩ x with
   |false=>rfl
   | true =>
    obtain⟨k,hk,rfl⟩:=List.mem_iff_getElem.1 hxm;exact absurd (Abu hk (by rw[bC hk];exact hb)) h
  rw[e,e2];simp (disch:=first|assumption|omega) only[S0,rA,rQ,rB,rT,rE]
 ·obtain⟨h1,h2,h3⟩:=Nas h
  generalize hI:ixF (zM ⟨n,rows⟩) l=I at h h1 h2 h3 ⊢;obtain⟨i,rfl⟩:∃ i:Nat,I=(i:Int):=⟨I.toNat,by omega⟩;have lO:i<l.length:=aH.1 h1;have cJ:((i:Int)==-1)=false:=by simp
  have fR:(l.take (i+1)).filter (fun x=>!zM ⟨n,rows⟩ x)=l.take i:=by
   rw[<- take_at lO,Bcc,Bcr (by rw[h2];simp),Bcp,Zb4,List.filter_eq_self];intro x hxm;obtain⟨k,hk,rfl⟩:=List.mem_iff_getElem.1 hxm;rw[Zb1]at hk;have h4:=h3 k (by omega);rw[bC (by omega)]at h4;rw[Ccy,h4];rfl
  simp (disch:=first|assumption|omega) only[S0,rA,rQ,rB,rT,rE,cJ];generalize hE:Er T (Tm.loop _ _) _=E
  obtain⟨r,e1,kept,J,e2,e3,e4⟩:∃ r,E=some r/\∃ (kept:List (List Int)) (J:List (List D)),kept=l.filter (fun x=>!zM ⟨n,rows⟩ x)/\kept.length+J.length=l.length/\r=(.yield 1,[pF kept J [],i64 ((kept.length:Nat):Int)]):=by
   rw[<- hE]
   refine Iag (γ:=Nat×List (List D)) (fun c=>l.length-c.1) (fun c=>i<c.1/\c.1<=l.length/\((l.take c.1).filter fun x=>!zM ⟨n,rows⟩ x).length+c.2.length=c.1/\0<c.2.length/\∀ r∈c.2,r.length=1)
    (fun c=>[pF ((l.take c.1).filter fun x=>!zM ⟨n,rows⟩ x) c.2 (l.drop c.1),i64 ((((l.take c.1).filter fun x=>!zM ⟨n,rows⟩ x).length:Nat):Int),i64 (c.1:Int)])
    (fun r=>∃ (kept:List (List Int)) (J:List (List D)),kept=l.filter (fun x=>!zM ⟨n,rows⟩ x)/\kept.length+J.length=l.length/\r=(.yield 1,[pF kept J [],i64 ((kept.length:Nat):Int)])) (i+1,[Enc.enc (atI l (i:Int))]) ?_ ?_ ?_
   ·dsimp only
    have e:rL l=pF (l.take i) [Enc.enc (atI l (i:Int))] (l.drop (i+1)):=by
     rw[Bb3 l (i:=i) (by omega),Acy lO,Ral,bC lO];rfl
    rw[fR,<- e];have hti:((l.take i).length:Int)=(i:Int):=by rw[Zb1];omega
    rw[hti];rfl
   ·dsimp only
    rw[fR,Zb1];refine⟨by omega,by omega,by simp only[Zbs,Zby];omega,by simp,?_⟩;intro r hr;rw[Zbp]at hr;rw[hr];rfl
   ·rintro⟨j,J⟩ ⟨k1,k2,k3,k4,k5⟩
    dsimp only at k1 k2 k3 k4 k5 ⊢
    rcases Zbz j l.length with hlt|mj
    ·refine .inl ?_
     have hjm:=hx _ (at_mem hlt);have hjm1:=hjm.1;have hjm2:=hjm.2;have ht1:(l.take (j+1))=l.take j++[atI l (j:Int)]:=(take_at hlt).symm;have fy:l.drop j=atI l (j:Int)::l.drop (j+1):=by rw[Acy hlt,bC hlt]
     have qz:(l.take j).filter (fun x=>!zM ⟨n,rows⟩ x)=(l.take j).filter (fun x=>!zM ⟨n,rows⟩ x):=rfl;generalize hK:(l.take j).filter (fun x=>!zM ⟨n,rows⟩ x)=K at k3 qz ⊢;have pC:(l.drop (j+1)).length+(j+1)=l.length:=by rw[Acv];omega
     have q1:aU.len.run [pF K J (l.drop j)]=some [i64 (l.length:Int)]:=Na4 (by rw[fy,Zbs];omega);have q2:aU.inb.run [pF K J (l.drop j),i64 (j:Int)]=some []:=Na5 (by omega) (by rw[fy];simp only[Zbs];omega);have q3:(aU.row 1 0 [false]).run [pF K J (l.drop j),i64 (j:Int)]=some [rL (atI l (j:Int))]:=by rw[fy];exact Va4 (by omega)
     have q4:aU.inb.run [pF K J (l.drop j),i64 (K.length:Int)]=some []:=Na5 (by omega) (by rw[fy];simp only[Zbs];omega);have q5:(aU.set 1 0 1).run [pF K J (l.drop j),i64 (j:Int),.hole]=some [pF K (J++[[.hole]]) (l.drop (j+1))]:=by rw[fy];exact Ram (by omega)
     have vt:decide ((j:Int)<(l.length:Nat))=true:=decide_eq_true (by omega)
     obtain⟨r0,J0,rfl⟩:∃ r0 J0,J=r0::J0:=by
      match J,k4 with
      |r0::J0,_=>exact⟨r0,J0,rfl⟩
     have q6:(aU.set 1 0 1).run [pF K (r0::J0++[[.hole]]) (l.drop (j+1)),i64 (K.length:Int),rL (atI l (j:Int))]=some [pF (K++[atI l (j:Int)]) (J0++[[.hole]]) (l.drop (j+1))]:=Gb0 rfl (k5 r0 List.mem_cons_self);have q7:pF K (r0::J0) (l.drop j)=pF K (r0::J0++[Enc.enc (atI l (j:Int))]) (l.drop (j+1)):=by rw[fy,Ral]
     have k3':K.length+(J0.length+1)=j:=k3;have hkj:(K.length:Int)<=1000:=by omega
     cases hb:zM ⟨n,rows⟩ (atI l (j:Int))
     ·refine⟨(j+1,J0++[[.hole]]),?_,?_,by dsimp only;omega⟩
      ·dsimp only
       rw[ht1,Bcc,hK,Bc9 (by rw[hb];rfl),Bcp];have hlen:(((K++[atI l (j:Int)]).length:Nat):Int)=(K.length:Int)+1:=by simp
       rw[hlen];simp (disch:=first|assumption|omega) only[S0,rA,rQ,rB,rT,rE,q1,q2,q3,q4,q5,q6,vt,qG,hb]
      ·dsimp only
       rw[ht1,Bcc,hK,Bc9 (by rw[hb];rfl),Bcp];refine⟨by omega,by omega,?_,?_,?_⟩
       ·simp only[Zbi,Zbs,Zby];omega
       ·simp only[Zbi,Zbs,Zby];omega
       ·intro r hr
        rcases List.mem_append.1 hr with hr|hr
        ·exact k5 r (List.mem_cons_of_mem _ hr)
        ·rw[Zbp]at hr
         rw[hr];rfl
     ·refine⟨(j+1,r0::J0++[Enc.enc (atI l (j:Int))]),?_,?_,by dsimp only;omega⟩
      ·dsimp only
       rw[ht1,Bcc,hK,Bcr (by rw[hb];simp),Bcp,Zb4,<- q7];simp (disch:=first|assumption|omega) only[S0,rA,rQ,rB,rT,rE,q1,q2,q3,vt,qG,hb]
      ·dsimp only
       rw[ht1,Bcc,hK,Bcr (by rw[hb];simp),Bcp,Zb4];refine⟨by omega,by omega,?_,?_,?_⟩
       ·simp only[Zbi,Zbs,Zby];omega
       ·simp only[Zbi,Zbs,Zby];omega
       ·intro r hr
        rcases List.mem_append.1 hr with hr|hr
        ·exact k5 r hr
        ·rw[Zbp]at hr
         rw[hr];rfl
    ·obtain rfl:j=l.length:=by omega
     rw[Acn]at k3;refine .inr ⟨(.yield 1,[pF (l.filter fun x=>!zM ⟨n,rows⟩ x) J [],i64 (((l.filter fun x=>!zM ⟨n,rows⟩ x).length:Nat):Int)]),?_,by simp,_,J,rfl,k3,rfl⟩;rw[Acn,List.drop_length];have q1:aU.len.run [pF (l.filter fun x=>!zM ⟨n,rows⟩ x) J []]=some [i64 (l.length:Int)]:=Na4 (by simp only[Zby];omega);have vt:decide (((l.length:Nat):Int)<(l.length:Nat))=false:=by simp
     simp (disch:=first|assumption|omega) only[S0,rA,rQ,rB,rT,rE,q1,vt]
  subst e4;rw[e1];have q1:aU.len.run [pF kept J []]=some [i64 (l.length:Int)]:=Na4 (by simp only[Zby];omega);obtain⟨d,q2⟩:=Gbz (kept:=kept) (J:=J) (n:=(l.length:Int)) (k:=(kept.length:Int)) rfl (by omega);have q3:=Gb2 (kept:=kept) (J:=J) (k:=(kept.length:Int)) rfl;have q4:=Gb1 (kept:=kept) (J:=J.map fun r=>r.map fun _=>D.hole) (k:=(kept.length:Int)) rfl;simp (disch:=first|assumption|omega) only[S0,rA,rQ,rB,rT,rE,q1,q2,q3,q4];rw[e2]
theorem Gaa (n:Int)(rows:List (List bR))(ht:bG ⟨n,rows⟩=true)(hs:mI rows):Fun T 138 [i64 n,rL rows]=some [rL (aI ⟨n,rows⟩)]:=by
 rw[aO (t:=Ebd) rfl];unfold Ebd;unfold aI
 have hn:=aY (bA ht);simp only at hn;have hl:(rows.length:Int)=n:=dM ht;have h6:∀ l∈rows,l.length<=6:=fun l hl=>(dV ht hl).1
 have jh:rows.length<=100:=by omega
 have iz:=Eau ht;simp only at iz;have a6b:(bU rows).length<=1000:=by omega
 have hci:∀ x∈bU rows,fB n x/\zK ⟨n,rows⟩ x=true:=fun x hx=>Dae ht hx
 simp (disch:=first|assumption|omega) only[S0,rA,rQ,rB,rT,rE,gZ,Tau]
theorem Pae (n:Int)(rows:List (List bR))(ht:bG ⟨n,rows⟩=true)(hs:mI rows):Fun T 64 [i64 n,rL rows]=some [rL (aI ⟨n,rows⟩)]:=by
 rw[aO (t:=Pb3) rfl];unfold Pb3;unfold aI
 have hn:=aY (bA ht);simp only at hn;have hl:(rows.length:Int)=n:=dM ht;have h6:∀ l∈rows,l.length<=6:=fun l hl=>(dV ht hl).1
 have jh:rows.length<=100:=by omega
 have iz:=Eau ht;simp only at iz;simp (disch:=first|assumption|omega) only[S0,rA,rQ,rB,rT,rE,kM];rw[jN (bU rows).length (fun k=>[rL (((bU rows).take k).filter fun x=>!zM ⟨n,rows⟩ x),rL (bU rows),i64 k]) (.yield 1,[rL ((bU rows).filter fun x=>!zM ⟨n,rows⟩ x)]) rfl (by simp)]
 ·simp (disch:=first|assumption|omega) only[S0,rA,rQ,rB,rT,rE]
 ·intro k hk hlt
  have hb:InB (bU rows) (k:Int):=aH.2 hk;obtain⟨x0,x1,l8,xi,-⟩:=iI ht (at_mem hk);simp only at xi;have xc:=(Dae ht (at_mem hk)).2
  have fX:(((bU rows).take k).filter fun x=>!zM ⟨n,rows⟩ x).length<=30:=by
   have:=Bcb (fun x=>!zM ⟨n,rows⟩ x) ((bU rows).take k);rw[Zb1]at this;omega
  have e:[atI (atI (bU rows) (k:Int)) 0,atI (atI (bU rows) (k:Int)) 1]=atI (bU rows) (k:Int):=qQ l8;have xc2:zK ⟨n,rows⟩ [atI (atI (bU rows) (k:Int)) 0,atI (atI (bU rows) (k:Int)) 1]=true:=by rw[e];exact xc
  have a1:(((bU rows).take k).filter fun x=>!zM ⟨n,rows⟩ x).length+([atI (bU rows) (k:Int)]:List (List Int)).length<=100000000000:=by simp only[Zbs,Zby];omega
  rw[<- take_at hk,Bcc]
  have eb:zM ⟨n,rows⟩ (atI (bU rows) (k:Int))=!(((vG ⟨n,rows⟩ (atI (bU rows) (k:Int))).length:Int)==0):=by
   unfold zM;generalize (vG ⟨n,rows⟩ (atI (bU rows) (k:Int))).length=L
   cases L with
   |zero=>rfl
   | succ L =>
    have e1:decide ((0:Int)<((L+1:Nat):Int))=true:=decide_eq_true (by omega);have e2:(((L+1:Nat):Int)==0)=false:=beq_false_of_ne (by omega);rw[e1,e2];rfl
  cases hc:(((vG ⟨n,rows⟩ (atI (bU rows) (k:Int))).length:Int)==0)
  ·rw[Bcr (by rw[eb,hc];simp),Bcp,Zb4]
   simp (disch:=first|assumption|omega) only[S0,rA,rQ,rB,rT,rE,aJ,vS,hlt,e,hc,Zbg]
  ·rw[Bc9 (by rw[eb,hc];simp),Bcp]
   simp (disch:=first|assumption|omega) only[S0,rA,rQ,rB,rT,rE,aJ,nT,gW,vS,hlt,e,hc]
 ·intro hlt
  rw[Acn];simp (disch:=first|assumption|omega) only[S0,rA,rQ,rB,rT,rE,hlt]
theorem Ja7 (G:List (List Int))(a:Int)(hg:GOk G)(ha:InB G a)(hl:G.length<=1000)(hr:∀ r∈G,r.length<=1000):Fun T 74 [rL G,i64 a]=some [rL (mX G a)]:=by
 rw[aO (t:=Pbt) rfl];unfold Pbt
 simp (disch:=first|assumption|omega) only[S0,rA,rQ,rB,rT,rE,nT];generalize hE:Er T (Tm.loop _ _) _=E
 obtain⟨r,h1,s,h2,h3⟩:∃ r,E=some r/\∃ s,Cbx G a s.que.length s/\r=(.yield 1,[rL s.met]):=by
  rw[<- hE];refine Iag (γ:=Nat×HSt) (fun c=>G.length+1-c.1) (fun c=>Cbx G a c.1 c.2) (fun c=>[rL c.2.met,rL c.2.que,i64 (c.1:Int)]) (fun r=>∃ s,Cbx G a s.que.length s/\r=(.yield 1,[rL s.met])) (0,⟨[a],[a]⟩) ?_ (Cbx.start ha) ?_
  ·rfl
  rintro⟨i,s⟩ hinv
  dsimp only at hinv ⊢;have hlen:=hinv.toHPre.len hg
  rcases Zbz i s.que.length with hlt|mj
  ·refine .inl ⟨(i+1,(atI G (atI s.que (i:Int))).foldl hI s),?_,hinv.step hlt,by dsimp only;omega⟩
   dsimp only;have hb:InB s.que (i:Int):=aH.2 hlt;have hd:decide ((i:Int)<s.que.length)=true:=by simp;omega
   have sw:=hinv.rch _ (at_mem hlt);have hzb:=sw.inb hg ha;have ma:∀ c∈atI G (atI s.que (i:Int)),Rch G a c:=fun c hc=>.step sw hc
   have xq:=hr _ (fT hzb);simp (disch:=first|assumption|omega) only[S0,rA,rQ,rB,rT,rE,aJ,hd];generalize atI G (atI s.que (i:Int))=ys at ma xq ⊢;rw[(Na0 3 ys (fun i (s:HSt)=>[rL s.met,rL s.que,i64 i]) s hI (fun _ u=>HPre G a u) (fun s=>[rL s.met,rL s.que]) rfl hinv.toHPre ?_ ?_).1]
   ·simp (disch:=first|assumption|omega) only[S0,rA,rQ,rB,rT,rE]
   ·intro j u hj vu bb hu
    have hul:=hu.len hg;have tW:=ma _ (at_mem hj);refine⟨?_,(Ab6 hu tW).1⟩;have a1:u.que.length+([atI ys (j:Int)]:List Int).length<=100000000000:=by simp only[Zbs,Zby];omega
    have b1:u.que.length<=1099511627776:=by omega
    have b2:u.met.length<=10000000000:=by omega
    unfold hI;cases c1:lF u.que (atI ys (j:Int))
    ·simp (disch:=first|assumption|omega) only[S0,rA,rQ,rB,rT,rE,aJ,nT,gW,iC,Da3,bb,c1,Zbg]
    ·simp (disch:=first|assumption|omega) only[S0,rA,rQ,rB,rT,rE,aJ,iC,bb,c1]
   ·intro u bb hu
    simp (disch:=first|assumption|omega) only[S0,rA,rQ,rB,rT,rE,bb]
  ·obtain rfl:i=s.que.length:=by have:=hinv.le;omega
   have hd:decide (((s.que.length:Nat):Int)<s.que.length)=false:=by simp
   exact .inr ⟨(.yield 1,[rL s.met]),by simp (disch:=first|assumption|omega) only[S0,rA,rQ,rB,rT,rE,hd],by simp,s,hinv,rfl⟩
 subst h3;rw[h1,<- h2.done hg];simp (disch:=first|assumption|omega) only[S0,rA,rQ,rB,rT,rE]
theorem Qat (G:List (List Int))(a:Int)(hg:GOk G)(ha:InB G a)(hl:G.length<=1000)(hr:∀ r∈G,r.length<=1000):Fun T 152 [rL G,i64 a]=some [rL (mX G a)]:=by
 rw[aO (t:=Db0) rfl];unfold Db0
 have pt:InB (Zbq G.length false) a:=by unfold InB at ha ⊢;rw[Acj];exact ha
 have e0:((G.length:Nat):Int).toNat=G.length:=Zb7 _;have h0:(aU.mk 1 0).run []=some [rL ([]:List Int)]:=rfl;simp (disch:=first|assumption|omega) only[S0,rA,rQ,rB,rT,rE,nT,Dal,e0];generalize hE:Er T (Tm.loop _ _) _=E
 obtain⟨r,h1,s,h2,h4,h3⟩:∃ r,E=some r/\∃ s,GInv G a s/\s.todo=[]/\r=(.yield 1,[rL s.marks]):=by
  rw[<- hE];refine Iag (γ:=GSt) (fun s=>s.left) (fun s=>GInv G a s) (fun s=>[rL s.marks,rL s.todo]) (fun r=>∃ s,GInv G a s/\s.todo=[]/\r=(.yield 1,[rL s.marks])) ⟨iJ (Zbq G.length false) a true,[a]⟩ ?_ (GInv.start ha) ?_
  ·rfl
  rintro s hinv
  have rS:=hinv.cnt;unfold GSt.left at rS;by_cases hw:s.todo=[]
  ·have hd:decide ((0:Int)<(s.todo.length:Nat))=false:=by rw[hw];rfl
   exact .inr ⟨(.yield 1,[rL s.marks]),by simp (disch:=first|assumption|omega) only[S0,rA,rQ,rB,rT,rE,hd],by simp,s,hinv,hw,rfl⟩
  ·have jc:0<s.todo.length:=List.length_pos_iff.2 hw
   obtain⟨aE,xz,da⟩:=hinv.step hg hw;refine .inl ⟨gO G s,?_,aE,by omega⟩;have hd:decide ((0:Int)<(s.todo.length:Nat))=true:=decide_eq_true (by omega);have hb:InB s.todo 0:=by unfold InB;omega
   obtain⟨z1,z2⟩:=hinv.tm _ (fT hb);have zr:=hinv.rch _ z1 z2;have ma:∀ c∈atI G (atI s.todo 0),InB G c/\Rch G a c:=fun c hc=>⟨hg.out z1 hc,.step zr hc⟩
   have xq:=hr _ (fT z1);have eA:=(Tal hinv.toGPre ma).2.2.2.1;simp (disch:=first|assumption|omega) only[S0,rA,rQ,rB,rT,rE,aJ,hd];unfold gO;generalize atI G (atI s.todo 0)=ys at ma xq da eA ⊢;rw[(Na0 3 ys (fun i (s:GSt)=>[rL s.marks,rL s.todo,i64 i]) s gI (fun _ u=>GPre G a u) (fun s=>[rL s.marks,rL s.todo]) rfl hinv.toGPre ?_ ?_).1]
   ·generalize ys.foldl gI s=u at da eA ⊢
    have hcu:=da.cnt;unfold GSt.left at hcu;obtain⟨w,p8⟩:=eA;have e1:(u.todo.take u.todo.length).drop 1=u.todo.drop 1:=by rw[Acn]
    have hp:1<=u.todo.length:=by rw[p8,Zbi];omega
    have zw:(1:Int)<=(u.todo.length:Nat):=by omega
    simp (disch:=first|assumption|omega) only[S0,rA,rQ,rB,rT,rE,vM,e1,Zb7,Int.toNat_one]
   ·intro j u hj vu bb hu
    have hcu:=hu.cnt;unfold GSt.left at hcu;have tW:=ma _ (at_mem hj);have yb:InB u.marks (atI ys (j:Int)):=by have:=tW.1;unfold InB at this ⊢;rw[hu.len];exact this
    refine⟨?_,(Bbd hu tW.1 tW.2).1⟩;have a1:u.todo.length+([atI ys (j:Int)]:List Int).length<=100000000000:=by simp only[Zbs,Zby];omega
    unfold gI;cases c1:atI u.marks (atI ys (j:Int))
    ·simp (disch:=first|assumption|omega) only[S0,rA,rQ,rB,rT,rE,aJ,Dal,nT,gW,bb,c1,Zbg]
    ·simp (disch:=first|assumption|omega) only[S0,rA,rQ,rB,rT,rE,aJ,Dal,bb,c1]
   ·intro u bb hu
    simp (disch:=first|assumption|omega) only[S0,rA,rQ,rB,rT,rE,bb]
 subst h3;rw[h1];have tI:=h2.len;have hm3:s.marks.length<=1099511627776:=by omega
 simp (disch:=first|assumption|omega) only[S0,rA,rQ,rB,rT,rE,Dal,h0];rw[jN s.marks.length (fun k=>[rL ((nums k).filter (Fa6 G a)),i64 k]) (.yield 5,[rL (mX G a)]) rfl (by simp)]
 ·simp (disch:=first|assumption|omega) only[S0,rA,rQ,rB,rT,rE]
 ·intro k hk hlt
  have hb:InB s.marks (k:Int):=aH.2 hk;have nw:InB G (k:Int):=aH.2 (by omega);have hm:=h2.done hg h4 nw
  have fX:((nums k).filter (Fa6 G a)).length<=k:=by
   have:=Bcb (Fa6 G a) (nums k);rw[dO]at this;exact this
  have a1:((nums k).filter (Fa6 G a)).length+([(k:Int)]:List Int).length<=100000000000:=by simp only[Zbs,Zby];omega
  rw[wM,Bcc];cases c1:Fa6 G a (k:Int)
  ·rw[Bcr (by rw[c1];simp),Bcp,Zb4]
   simp (disch:=first|assumption|omega) only[S0,rA,rQ,rB,rT,rE,Dal,hlt,hm,c1,Zbg]
  ·rw[Bc9 c1,Bcp]
   simp (disch:=first|assumption|omega) only[S0,rA,rQ,rB,rT,rE,Dal,nT,gW,hlt,hm,c1]
 ·intro hlt
  unfold mX;rw[tI]at hlt ⊢;simp (disch:=first|assumption|omega) only[S0,rA,rQ,rB,rT,rE,hlt]
theorem Ma0 (G:List (List Int))(hg:GOk G)(hl:G.length<=1000)(hr:∀ r∈G,r.length<=1000):Fun T 73 [rL G]=some [rL (kJ G)]:=by
 rw[aO (t:=Pbu) rfl];unfold Pbu
 simp (disch:=first|assumption|omega) only[S0,rA,rQ,rB,rT,rE,Kbt];rw[jN G.length (fun k=>[rL ((nums k).map (mX G)),i64 k]) (.yield 1,[rL (rsM G)]) rfl (by simp)]
 ·simp (disch:=first|assumption|omega) only[S0,rA,rQ,rB,rT,rE]
  rw[jN G.length (fun k=>[rL (Hbd G k),i64 k]) (.yield 3,[rL (kJ G)]) rfl (by simp)]
  ·simp (disch:=first|assumption|omega) only[S0,rA,rQ,rB,rT,rE]
  ·intro k hk hlt
   have hb:InB G (k:Int):=aH.2 hk;have gR:=Ha1 hb;have je:=Paw hb;have sa:=yL G (k:Int);have iz:=Va8 G k;simp (disch:=first|assumption|omega) only[S0,rA,rQ,rB,rT,rE,aJ,hlt,je];rw[jN (mX G (k:Int)).length (fun m=>[rL (((mX G (k:Int)).take m).filter fun j=>Fa6 G j (k:Int)),i64 m]) (.yield 5,[rL (Aac G (k:Int))]) rfl (by simp)]
   ·have hs:=xB hg hb
    have hgp:=Ccd hs;have hgb:InB (Aac G (k:Int)) 0:=by unfold InB;omega
    have a1:(Hbd G k).length+([Aac G (k:Int)]:List (List Int)).length<=100000000000:=by simp only[Zbs,Zby];omega
    rw[Rau];cases c1:(atI (Aac G (k:Int)) 0==(k:Int))
    ·simp (disch:=first|assumption|omega) only[S0,rA,rQ,rB,rT,rE,aJ,c1,Zbg,Zb4]
    ·simp (disch:=first|assumption|omega) only[S0,rA,rQ,rB,rT,rE,aJ,nT,gW,c1]
   ·intro m hm bb
    have hbm:InB (mX G (k:Int)) (m:Int):=aH.2 hm;have hj:=Naa (at_mem hm);have s9:=Ha1 hj;have tG:=Paw hj;have kz:=yL G (atI (mX G (k:Int)) (m:Int));have tw:=Taj hg (j:=(k:Int)) hj
    have fX:(((mX G (k:Int)).take m).filter fun j=>Fa6 G j (k:Int)).length<=m:=by
     have:=Bcb (fun j=>Fa6 G j (k:Int)) ((mX G (k:Int)).take m);rw[Zb1]at this;omega
    have a1:(((mX G (k:Int)).take m).filter fun j=>Fa6 G j (k:Int)).length+([atI (mX G (k:Int)) (m:Int)]:List Int).length<=100000000000:=by simp only[Zbs,Zby];omega
    have b1:(mX G (atI (mX G (k:Int)) (m:Int))).length<=1099511627776:=by omega
    rw[Gbk hm];cases c1:Fa6 G (atI (mX G (k:Int)) (m:Int)) (k:Int)
    ·simp (disch:=first|assumption|omega) only[S0,rA,rQ,rB,rT,rE,aJ,iC,bb,tG,tw,c1,Zbg,Zb4]
    ·simp (disch:=first|assumption|omega) only[S0,rA,rQ,rB,rT,rE,aJ,nT,gW,iC,bb,tG,tw,c1]
   ·intro bb
    rw[Acn];simp (disch:=first|assumption|omega) only[S0,rA,rQ,rB,rT,rE,bb];rfl
  ·intro hlt
   simp (disch:=first|assumption|omega) only[S0,rA,rQ,rB,rT,rE,hlt];rfl
 ·intro k hk hlt
  have hb:InB G (k:Int):=aH.2 hk;have jh:((nums k).map (mX G)).length+([mX G (k:Int)]:List (List Int)).length<=100000000000:=by simp only[Zbt,dO,Zbs,Zby];omega
  have e:(nums (k+1)).map (mX G)=(nums k).map (mX G)++[mX G (k:Int)]:=by rw[wM,Ac8];rfl
  rw[e];simp (disch:=first|assumption|omega) only[S0,rA,rQ,rB,rT,rE,nT,gW,Ja7,hlt]
 ·intro hlt
  simp (disch:=first|assumption|omega) only[S0,rA,rQ,rB,rT,rE,hlt];rfl
theorem oQ (G:List (List Int))(out:List (List Int))(C:List Int)(x:Int)(hx:InB G x)(hC:C.length<=1000):Fun T 157 [i64 x,rL (sK G.length out),rL C]=some [.bool (!mV out x&&!lF C x)]:=by
 rw[aO (t:=Dbv) rfl];unfold Dbv
 have hb:InB (sK G.length out) x:=by unfold InB at hx ⊢;rw[Rah];exact hx
 have je:atI (sK G.length out) x=mV out x:=Za5 hx;cases c1:mV out x<;>cases c2:lF C x<;>simp (disch:=first|assumption|omega) only[S0,rA,rQ,rB,rT,rE,Dal,slices_Contains_int,je,c1,c2]
theorem Eaf (G:List (List Int))(out:List (List Int))(C xs:List Int)(ny:xs.length<=1000)(hx:∀ x∈xs,InB G x)(hC:C.length<=1000):Fun T 156 [rL xs,rL (sK G.length out),rL C]=some [i64 (ixF (fun x=>!mV out x&&!lF C x) xs)]:=by
 rw[aO (t:=Dbw) rfl];unfold Dbw
 simp (disch:=first|assumption|omega) only[S0,rA,rQ,rB,rT,rE];rw[xG 1 xs (fun x=>!mV out x&&!lF C x) (fun i=>[i64 i])]
 ·cases h:xs.any (fun x=>!mV out x&&!lF C x)
  ·have e:ixF (fun x=>!mV out x&&!lF C x) xs=-1:=by
    have h2:=dF (fun x=>!mV out x&&!lF C x) xs;rw[h]at h2;unfold ixF at h2 ⊢;split at h2<;>simp_all
   rw[e];simp (disch:=first|assumption|omega) only[S0,rA,rQ,rB,rT,rE]
  ·simp (disch:=first|assumption|omega) only[S0,rA,rQ,rB,rT,rE]
 ·intro i hi hb hlt hp
  have q1:=hx _ (at_mem hi);simp (disch:=first|assumption|omega) only[S0,rA,rQ,rB,rT,rE,aJ,oQ,hlt,hp]
 ·intro i hi hb hlt hp
  have q1:=hx _ (at_mem hi);simp (disch:=first|assumption|omega) only[S0,rA,rQ,rB,rT,rE,aJ,oQ,hlt,hp]
 ·intro hlt
  simp (disch:=first|assumption|omega) only[S0,rA,rQ,rB,rT,rE,hlt]
theorem Eao (G:List (List Int))(out:List (List Int))(C xs:List Int)(ny:xs.length<=1000)(hx:∀ x∈xs,InB G x)(hC:C.length<=1000):Fun T 155 [rL xs,rL (sK G.length out),rL C]=some [.bool (xs.any fun x=>!mV out x&&!lF C x)]:=by
 rw[aO (t:=Dbx) rfl];unfold Dbx
 simp (disch:=first|assumption|omega) only[S0,rA,rQ,rB,rT,rE,Eaf,dF]
theorem sF (G:List (List Int))(out:List (List Int))(C:List Int)(hl:G.length<=1000)(hC:C.length<=1000)(s5:InB C 0)(hG:InB G (atI C 0)):Fun T 154 [rL C,rL (rsM G),rL (sK G.length out)]=some [.bool (sH G out C)]:=by
 rw[aO (t:=Dby) rfl];unfold Dby;unfold sH
 have gR:=Ha1 hG;have je:=Paw hG;have sa:=yL G (atI C 0);have j9:∀ x∈mX G (atI C 0),InB G x:=fun x hx=>Naa hx
 have e:((mX G (atI C 0)).all fun j=>mV out j||lF C j)=!((mX G (atI C 0)).any fun x=>!mV out x&&!lF C x):=by
  rw[List.not_any_eq_all_not];congr 1;funext x;cases mV out x<;>cases lF C x<;>rfl
 rw[e];simp (disch:=first|assumption|omega) only[S0,rA,rQ,rB,rT,rE,aJ,Eao,je]
theorem Ian (G:List (List Int))(out xs:List (List Int))(hl:G.length<=1000)(ny:xs.length<=1000)(hx:∀ C∈xs,C.length<=1000/\InB C 0/\InB G (atI C 0)):Fun T 153 [rL xs,rL (rsM G),rL (sK G.length out)]=some [i64 (ixF (sH G out) xs)]:=by
 rw[aO (t:=Dbz) rfl];unfold Dbz
 simp (disch:=first|assumption|omega) only[S0,rA,rQ,rB,rT,rE];rw[xG 1 xs (sH G out) (fun i=>[i64 i])]
 ·cases h:xs.any (sH G out)
  ·have e:ixF (sH G out) xs=-1:=by
    have h2:=dF (sH G out) xs;rw[h]at h2;unfold ixF at h2 ⊢;split at h2<;>simp_all
   rw[e];simp (disch:=first|assumption|omega) only[S0,rA,rQ,rB,rT,rE]
  ·simp (disch:=first|assumption|omega) only[S0,rA,rQ,rB,rT,rE]
 ·intro i hi hb hlt hp
  obtain⟨q1,q2,q3⟩:=hx _ (at_mem hi);simp (disch:=first|assumption|omega) only[S0,rA,rQ,rB,rT,rE,aJ,sF,hlt,hp]
 ·intro i hi hb hlt hp
  obtain⟨q1,q2,q3⟩:=hx _ (at_mem hi);simp (disch:=first|assumption|omega) only[S0,rA,rQ,rB,rT,rE,aJ,sF,hlt,hp]
 ·intro hlt
  simp (disch:=first|assumption|omega) only[S0,rA,rQ,rB,rT,rE,hlt]
theorem Da2 (G:List (List Int))(hg:GOk G)(hl:G.length<=1000)(hr:∀ r∈G,r.length<=1000):Fun T 72 [rL G]=some [rL (bT G)]:=by
 rw[aO (t:=Pbv) rfl];unfold Pbv
 have h0:(D.rows 1 [])=rL ([]:List (List Int)):=rfl;simp (disch:=first|assumption|omega) only[S0,rA,rQ,rB,rT,rE,Ma0];generalize hE:Er T (Tm.loop _ _) _=E
 obtain⟨r,h1,h3⟩:∃ r,E=some r/\r=(.yield 1,[rL (bT G)]):=by
  rw[<- hE];refine Iag (γ:=CSt) (fun s=>s.rest.length) (fun s=>Ja4 G s/\cM G s.rest.length s=bT G) (fun s=>[rL s.rest,rL s.out]) (fun r=>r=(.yield 1,[rL (bT G)])) ⟨kJ G,[]⟩ ?_ ⟨Ja4.start G,rfl⟩ ?_
  ·rfl
  rintro s ⟨hinv,eA⟩
  have hlen:=hinv.len;by_cases hw:s.rest=[]
  ·have hd:decide ((0:Int)<(s.rest.length:Nat))=false:=by rw[hw];rfl
   refine .inr ⟨(.yield 1,[rL s.out]),by simp (disch:=first|assumption|omega) only[S0,rA,rQ,rB,rT,rE,hd],by simp,?_⟩;rw[hw]at eA;rw[<- eA];rfl
  ·have jc:0<s.rest.length:=List.length_pos_iff.2 hw
   obtain⟨aE,xz⟩:=hinv.step hg hw;obtain⟨t1,t2,t3,t4⟩:=hinv.top hg hw
   have tz:cM G (cO G s).rest.length (cO G s)=bT G:=by
    rw[<- eA,<- xz];rfl
   refine .inl ⟨cO G s,?_,⟨aE,tz⟩,by omega⟩;have hd:decide ((0:Int)<(s.rest.length:Nat))=true:=decide_eq_true (by omega);simp (disch:=first|assumption|omega) only[S0,rA,rQ,rB,rT,rE,hd];rw[Ga7 (γ:=Nat) (.yield 3,[rL (cO G s).rest,rL (cO G s).out]) (fun i=>Hae G s-i) (fun i=>i<=Hae G s) (fun i=>[i64 (i:Int)]) 0 rfl (Bca _) (by simp)]
   ·simp (disch:=first|assumption|omega) only[S0,rA,rQ,rB,rT,rE]
   ·intro i hi
    have lO:i<s.rest.length:=by omega
    have hb:InB s.rest (i:Int):=aH.2 lO;have qg:decide ((i:Int)<(s.rest.length:Nat))=true:=decide_eq_true (by omega);obtain⟨g1,g2,g3,g4,g5⟩:=hinv.grp hg (at_mem lO);simp (disch:=first|assumption|omega) only[S0,rA,rQ,rB,rT,rE,aJ,qg];rw[jN (atI s.rest (i:Int)).length (fun m=>[.bool (Ia3 G s.rest i m),i64 m]) (.yield 5,[.bool (sH G s.out (atI s.rest (i:Int)))]) (by rw[Xay];rfl) (by simp)]
    ·cases hf:sH G s.out (atI s.rest (i:Int))
     ·refine .inl ⟨i+1,?_,?_,?_⟩
      ·simp (disch:=first|assumption|omega) only[S0,rA,rQ,rB,rT,rE,Zbg]
      ·rcases Zbz i (Hae G s) with h|h
       ·omega
       ·obtain rfl:i=Hae G s:=by omega
        rw[hf]at t3;cases t3
      ·rcases Zbz i (Hae G s) with h|h
       ·omega
       ·obtain rfl:i=Hae G s:=by omega
        rw[hf]at t3;cases t3
     ·refine .inr ?_
      have e:i=Hae G s:=by
       rcases Zbz i (Hae G s) with h|h
       ·rw[t4 i h]at hf;cases hf
       ·omega
      unfold cO;rw[<- e];have e1:(s.rest.take ((i:Int)).toNat).drop (0:Int).toNat=s.rest.take i:=rfl
      have e2:(s.rest.take ((s.rest.length:Nat):Int).toNat).drop (((i:Int)+1)).toNat=s.rest.drop (i+1):=by
       rw[Zb7,Acn];rfl
      have a1:s.out.length+([atI s.rest (i:Int)]:List (List Int)).length<=100000000000:=by simp only[Zbs,Zby];omega
      have a2:([]:List (List Int)).length+(s.rest.take i).length<=100000000000:=by simp only[Zby,Zb1];omega
      have a3:(s.rest.take i).length+(s.rest.drop (i+1)).length<=100000000000:=by simp only[Zb1,Acv];omega
      have h0:(aU.mk 1 0).run []=some [rL ([]:List (List Int))]:=rfl;simp (disch:=first|assumption|omega) only[S0,rA,rQ,rB,rT,rE,nT,gW,vM,h0,e1,e2,Aco]
    ·intro m hm bb
     have hbm:InB (atI s.rest (i:Int)) (m:Int):=aH.2 hm;have hjG:=g3 _ (at_mem hm);have kz:=hr _ (fT hjG);rw[Xaz hm];simp (disch:=first|assumption|omega) only[S0,rA,rQ,rB,rT,rE,aJ,bb];generalize atI (atI s.rest (i:Int)) (m:Int)=j at hjG kz ⊢;rw[jN s.rest.length (fun k=>[.bool (Ia3 G s.rest i m&&Kan G s.rest i j k),i64 k]) (.yield 7,[.bool (Ia3 G s.rest i m&&Kan G s.rest i j s.rest.length)]) (by rw[Xa0,Bcu];rfl) (by simp)]
     ·simp (disch:=first|assumption|omega) only[S0,rA,rQ,rB,rT,rE]
     ·intro k hk rk
      have qa:InB s.rest (k:Int):=aH.2 hk;obtain⟨k1,k2,k3,k4,k5⟩:=hinv.grp hg (at_mem hk);rw[Xa1,<- Bc1];generalize (Ia3 G s.rest i m&&Kan G s.rest i j k)=b0;simp (disch:=first|assumption|omega) only[S0,rA,rQ,rB,rT,rE,aJ,rk];rw[jN (atI s.rest (k:Int)).length (fun q=>[.bool (b0&&Ia4 G s.rest i j k q),i64 q]) (.yield 9,[.bool (b0&&Ia4 G s.rest i j k (atI s.rest (k:Int)).length)]) (by rw[Xa2,Bcu];rfl) (by simp)]
      ·simp (disch:=first|assumption|omega) only[S0,rA,rQ,rB,rT,rE]
      ·intro q hq a0l
       have hbq:InB (atI s.rest (k:Int)) (q:Int):=aH.2 hq;rw[Xa3 hq,<- Bc1]
       have ek:((k:Int)==(i:Int))=(k==i):=by
        rw[Bcx,beq_iff_eq,beq_iff_eq];omega
       generalize (b0&&Ia4 G s.rest i j k q)=b1;have jl2:(atI G j).length<=1099511627776:=by omega
       cases b1<;>cases c2:(k==i)<;>cases c3:lF (atI G j) (atI (atI s.rest (k:Int)) (q:Int))<;>simp (disch:=first|assumption|omega) only[S0,rA,rQ,rB,rT,rE,aJ,iC,a0l,ek,c2,c3]<;>rfl
      ·intro a0l
       simp (disch:=first|assumption|omega) only[S0,rA,rQ,rB,rT,rE,a0l]
     ·intro rk
      simp (disch:=first|assumption|omega) only[S0,rA,rQ,rB,rT,rE,rk]
    ·intro bb
     rw[Bbf,Gbi hg hinv lO];simp (disch:=first|assumption|omega) only[S0,rA,rQ,rB,rT,rE,bb]
 subst h3;rw[h1];simp (disch:=first|assumption|omega) only[S0,rA,rQ,rB,rT,rE]
theorem Gbx (xs:List (List Int))(i:Nat)(h:i<xs.length)(hl:xs.length<=1000000):Fun T 158 [Xav xs (i:Int),i64 (i:Int),i64 ((i:Int)+1)]=some [rL (xs.take i++xs.drop (i+1))]:=by
 rw[Oak (e:=Kbe 1) rfl];exact Bb2 h hl
theorem Ias (G:List (List Int))(hg:GOk G)(hl:G.length<=1000)(hr:∀ r∈G,r.length<=1000):Fun T 151 [rL G]=some [rL (bT G)]:=by
 rw[aO (t:=Db1) rfl];unfold Db1
 have h0:(aU.mk 1 0).run []=some [rL ([]:List (List Int))]:=rfl;have h0':rL ([]:List (List Int))=rL ([]:List Int):=rfl;have e0:((G.length:Nat):Int).toNat=G.length:=Zb7 _;simp (disch:=first|assumption|omega) only[S0,rA,rQ,rB,rT,rE,h0];rw[jN G.length (fun k=>[i64 k,rL ((nums k).map (mX G))]) (.yield 1,[rL (rsM G)]) rfl (by simp)]
 rotate_left
 ·intro k hk hlt
  have hb:InB G (k:Int):=aH.2 hk;have jh:((nums k).map (mX G)).length+([mX G (k:Int)]:List (List Int)).length<=100000000000:=by simp only[Zbt,dO,Zbs,Zby];omega
  have e:(nums (k+1)).map (mX G)=(nums k).map (mX G)++[mX G (k:Int)]:=by rw[wM,Ac8];rfl
  rw[e];simp (disch:=first|assumption|omega) only[S0,rA,rQ,rB,rT,rE,nT,gW,Qat,hlt]
 ·intro hlt
  simp (disch:=first|assumption|omega) only[S0,rA,rQ,rB,rT,rE,hlt];rfl
 simp (disch:=first|assumption|omega) only[S0,rA,rQ,rB,rT,rE,h0,Dal,e0];rw[jN G.length (fun k=>[rL (Hbd G k),i64 k]) (.yield 3,[rL (kJ G)]) rfl (by simp)]
 rotate_left
 ·intro k hk hlt
  have hb:InB G (k:Int):=aH.2 hk;have gR:=Ha1 hb;have je:=Paw hb;have sa:=yL G (k:Int);have iz:=Va8 G k;simp (disch:=first|assumption|omega) only[S0,rA,rQ,rB,rT,rE,hlt,h0];rw[jN G.length (fun m=>[rL (Ibi G (k:Int) m),i64 m]) (.yield 5,[rL (Aac G (k:Int))]) rfl (by simp)]
  ·have hs:=xB hg hb
   have hgp:=Ccd hs;have hgb:InB (Aac G (k:Int)) 0:=by unfold InB;omega
   have a1:(Hbd G k).length+([Aac G (k:Int)]:List (List Int)).length<=100000000000:=by simp only[Zbs,Zby];omega
   rw[Rau];cases c1:(atI (Aac G (k:Int)) 0==(k:Int))
   ·simp (disch:=first|assumption|omega) only[S0,rA,rQ,rB,rT,rE,aJ,c1,Zbg,Zb4]
   ·simp (disch:=first|assumption|omega) only[S0,rA,rQ,rB,rT,rE,aJ,nT,gW,c1]
  ·intro m hm bb
   have hj:InB G (m:Int):=aH.2 hm;have s9:=Ha1 hj;have tG:=Paw hj;have kz:=yL G (m:Int);have tw:=Taj hg (j:=(k:Int)) hj;have uc:=Taj hg (j:=(m:Int)) hb;have fX:=Gbg G (k:Int) m;have a1:(Ibi G (k:Int) m).length+([(m:Int)]:List Int).length<=100000000000:=by simp only[Zbs,Zby];omega
   have b1:(mX G (m:Int)).length<=1099511627776:=by omega
   rw[Ab9];cases c1:Fa6 G (k:Int) (m:Int)
   ·simp (disch:=first|assumption|omega) only[S0,rA,rQ,rB,rT,rE,aJ,slices_Contains_int,bb,je,uc,c1,Bool.false_and,Zbg,Zb4]
   ·cases c2:Fa6 G (m:Int) (k:Int)
    ·simp (disch:=first|assumption|omega) only[S0,rA,rQ,rB,rT,rE,aJ,slices_Contains_int,bb,je,tG,tw,uc,c1,c2,Cch,Zbg,Zb4]
    ·simp (disch:=first|assumption|omega) only[S0,rA,rQ,rB,rT,rE,aJ,nT,gW,slices_Contains_int,bb,je,tG,tw,uc,c1,c2,Cch]
  ·intro bb
   rw[Gbh];simp (disch:=first|assumption|omega) only[S0,rA,rQ,rB,rT,rE,bb]
 ·intro hlt
  simp (disch:=first|assumption|omega) only[S0,rA,rQ,rB,rT,rE,hlt];rfl
 simp (disch:=first|assumption|omega) only[S0,rA,rQ,rB,rT,rE,h0];generalize hE:Er T (Tm.loop _ _) _=E
 obtain⟨r,h1,q,h3⟩:∃ r,E=some r/\∃ q,r=(.yield 7,[rL (bT G),q]):=by
  rw[<- hE];refine Iag (γ:=CSt) (fun s=>s.rest.length) (fun s=>Ja4 G s/\cM G s.rest.length s=bT G) (fun s=>[rL s.rest,rL s.out,rL (sK G.length s.out)]) (fun r=>∃ q,r=(.yield 7,[rL (bT G),q])) ⟨kJ G,[]⟩ ?_ ⟨Ja4.start G,rfl⟩ ?_
  ·rw[Bbw]
   rfl
  rintro s ⟨hinv,eA⟩
  have hlen:=hinv.len;by_cases hw:s.rest=[]
  ·have hd:decide ((0:Int)<(s.rest.length:Nat))=false:=by rw[hw];rfl
   refine .inr ⟨(.yield 7,[rL s.out,rL (sK G.length s.out)]),by simp (disch:=first|assumption|omega) only[S0,rA,rQ,rB,rT,rE,hd],by simp,rL (sK G.length s.out),?_⟩;rw[hw]at eA;rw[<- eA];rfl
  ·have jc:0<s.rest.length:=List.length_pos_iff.2 hw
   obtain⟨aE,xz⟩:=hinv.step hg hw;obtain⟨t1,t2,t3,t4⟩:=hinv.top hg hw
   have tz:cM G (cO G s).rest.length (cO G s)=bT G:=by
    rw[<- eA,<- xz];rfl
   refine .inl ⟨cO G s,?_,⟨aE,tz⟩,by omega⟩;have hd:decide ((0:Int)<(s.rest.length:Nat))=true:=decide_eq_true (by omega);have sa:0<(rsM G).length:=by rw[Zal];omega
   have pC:0<(sK G.length s.out).length:=by rw[Rah];omega
   have hx:∀ C∈s.rest,C.length<=1000/\InB C 0/\InB G (atI C 0):=fun C hC=>by
    obtain⟨k1,k2,k3,k4,k5⟩:=hinv.grp hg hC;exact⟨by omega,k4,k5⟩
   have hb:InB s.rest (Hae G s:Int):=aH.2 t1;obtain⟨g1,g2,g3,g4,g5⟩:=hinv.grp hg (at_mem t1);simp (disch:=first|assumption|omega) only[S0,rA,rQ,rB,rT,rE,aJ,Zba,Ian,t2,hd];unfold cO;generalize Hae G s=i at t1 t2 t3 t4 hb g1 g2 g3 g4 g5 ⊢;rw[jN (atI s.rest (i:Int)).length (fun m=>[i64 m,rL ((nums G.length).map fun j=>mV s.out j||lF ((atI s.rest (i:Int)).take m) j)]) (.yield 9,[rL (sK G.length (s.out++[atI s.rest (i:Int)]))]) (by rw[Tas];rfl) (by simp)]
   ·have a1:s.out.length+([atI s.rest (i:Int)]:List (List Int)).length<=100000000000:=by simp only[Zbs,Zby];omega
    simp (disch:=first|assumption|omega) only[S0,rA,rQ,rB,rT,rE,aJ,Mai,nT,gW,Gbx]
   ·intro m hm bb
    have hbm:InB (atI s.rest (i:Int)) (m:Int):=aH.2 hm;have hjG:=g3 _ (at_mem hm);have s9:InB ((nums G.length).map fun j=>mV s.out j||lF ((atI s.rest (i:Int)).take m) j) (atI (atI s.rest (i:Int)) (m:Int)):=by unfold InB at hjG ⊢;rw[Zbt,dO];exact hjG
    rw[<- Bbv hm hjG];simp (disch:=first|assumption|omega) only[S0,rA,rQ,rB,rT,rE,aJ,Dal,bb]
   ·intro bb
    rw[Bbx];simp (disch:=first|assumption|omega) only[S0,rA,rQ,rB,rT,rE,bb]
 subst h3;rw[h1];simp (disch:=first|assumption|omega) only[S0,rA,rQ,rB,rT,rE]
theorem Pai (C ks:List Int)(hC:C.length<=1000)(j9:∀ x∈C,InB ks x)(hi:∀ x∈C,∀ y∈C,atI ks x=atI ks y->x=y):Fun T 75 [rL C,rL ks]=some [rL (lL (jJ ks) C)]:=by
 rw[aO (t:=Pbs) rfl];unfold Pbs
 simp (disch:=first|assumption|omega) only[S0,rA,rQ,rB,rT,rE];rw[<- Abo hi];rw[(Na0 1 C (fun i (out:List Int)=>[rL out,i64 i]) [] (Cb3 ks) (fun i out=>out.length=i/\i<=C.length/\∀ x∈out,InB ks x) (fun out=>[rL out]) rfl ⟨rfl,Bca _,fun x hx=>by cases hx⟩ ?_ ?_).1]
 ·simp (disch:=first|assumption|omega) only[S0,rA,rQ,rB,rT,rE]
 ·rintro i out oY hb hlt ⟨o1,o2,o3⟩
  have hxb:=j9 _ (at_mem oY);have ou:=(Iam ks out (atI C (i:Int))).length_eq;refine⟨?_,?_⟩
  ·simp (disch:=first|assumption|omega) only[S0,rA,rQ,rB,rT,rE,aJ,hlt]
   generalize atI C (i:Int)=x at hxb ou ⊢;have hk:=Tad ks out x out.length;rw[Ga7 (γ:=Nat) (.yield 3,[i64 ((Fag ks out x out.length:Nat):Int),.undef,.undef,.undef,.undef,.undef,.undef,.undef]) (fun k=>k) (fun k=>k<=out.length/\Fag ks out x k=Fag ks out x out.length) (fun k=>[i64 (k:Int)]) out.length rfl ⟨Zbr _,rfl⟩ (by simp)]
   ·unfold Cb3
    generalize Fag ks out x out.length=k at hk ⊢;have e0:(out.take ((k:Nat):Int).toNat).drop (0:Int).toNat=out.take k:=rfl;have e1:(out.take ((out.length:Nat):Int).toNat).drop ((k:Nat):Int).toNat=out.drop k:=by rw[Zb7,Zb7,Acn]
    have t1:(out.take k).length<=1000:=by rw[Zb1];omega
    have t2:(out.drop k).length<=1000:=by rw[Acv];omega
    have a3:(out.take k).length+([x]:List Int).length<=100000000000:=by simp only[Zbs,Zby];omega
    have a4:((out.take k)++[x]).length+(out.drop k).length<=100000000000:=by simp only[Zbi,Zbs,Zby];omega
    have b1:(0:Int)<=((k:Nat):Int):=by omega
    have b2:(out.drop k).length<=10000000000:=by omega
    simp (disch:=first|assumption|omega) only[S0,rA,rQ,rB,rT,rE,nT,gW,vM,Ka7,e0,e1]
   ·rintro k ⟨a7m,wg⟩
    cases k with
    | zero =>
     refine .inr ?_;have e:Fag ks out x out.length=0:=by rw[<- wg];rfl
     have hd0:decide ((0:Int)<((0:Nat):Int))=false:=by decide
     rw[e];simp (disch:=first|assumption|omega) only[S0,rA,rQ,rB,rT,rE,hd0]
    | succ k =>
     have qa:InB out (k:Int):=aH.2 (by omega);have hyb:=o3 _ (fT qa);have uk:decide (0<(k:Int)+1)=true:=decide_eq_true (by omega)
     have pr:(aU.bin .sub).run [i64 ((k:Int)+1),i64 1]=some [i64 (k:Int)]:=by
      have h:=Sax (a:=(k:Int)+1) (b:=1) (by omega) (by omega);rw[show (k:Int)+1-1=k by omega]at h;exact h
     cases hg:decide (atI ks x<atI ks (atI out (k:Int)))
     ·refine .inr ?_
      have e:Fag ks out x out.length=k+1:=by rw[<- wg];unfold Fag;rw[hg];simp
      rw[e];simp (disch:=first|assumption|omega) only[S0,rA,rQ,rB,rT,rE,aJ,uk,pr,hg,Zbg]
     ·refine .inl ⟨k,?_,⟨by omega,by rw[<- wg];conv=>rhs;unfold Fag;rw[hg];simp⟩,by omega⟩
      simp (disch:=first|assumption|omega) only[S0,rA,rQ,rB,rT,rE,aJ,uk,pr,hg]
  ·refine⟨by rw[ou,Zbs];omega,by omega,fun y hy=>?_⟩
   rcases List.mem_cons.1 ((Iam ks out (atI C (i:Int))).mem_iff.1 hy) with h|h
   ·rw[h];exact hxb
   ·exact o3 y h
 ·rintro out hlt -
  simp (disch:=first|assumption|omega) only[S0,rA,rQ,rB,rT,rE,hlt]
theorem Pah (G:List (List Int))(ks:List Int)(hg:GOk G)(hl:G.length<=1000)(hr:∀ r∈G,r.length<=1000)(hk:ks.length=G.length)(hi:∀ x y,InB G x->InB G y->atI ks x=atI ks y->x=y):Fun T 71 [rL G,rL ks]=some [rL (nH G ks)]:=by
 rw[aO (t:=Pbw) rfl];unfold Pbw
 obtain⟨c1,c2⟩:=oI hg;have tg:(bT G).length<=G.length:=Aci (lQ c1 fun C hC=>(c2 C).1 hC) (Ear G);simp (disch:=first|assumption|omega) only[S0,rA,rQ,rB,rT,rE,Da2];rw[jN (bT G).length (fun m=>[rL (uZ G ks m),i64 m]) (.yield 1,[rL (nH G ks)]) rfl (by simp)]
 ·simp (disch:=first|assumption|omega) only[S0,rA,rQ,rB,rT,rE]
 ·intro m hm hlt
  have hb:InB (bT G) (m:Int):=aH.2 hm;obtain⟨a,ha,he,-⟩:=jB ((c2 _).1 (at_mem hm));have g1:=Nay G a;have g2:∀ x∈atI (bT G) (m:Int),InB G x:=fun x hx=>Tak (by rw[<- he];exact hx)
  rw[<- he]at g1;have hC:(atI (bT G) (m:Int)).length<=1000:=by omega
  have j9:∀ x∈atI (bT G) (m:Int),InB ks x:=fun x hx=>by have:=g2 x hx;unfold InB at this ⊢;rw[hk];exact this
  have oY:∀ x∈atI (bT G) (m:Int),∀ y∈atI (bT G) (m:Int),atI ks x=atI ks y->x=y:=fun x hx y hy=>hi x y (g2 x hx) (g2 y hy)
  have o1:=Lar hg ks m;have a1:(uZ G ks m).length+(lL (jJ ks) (atI (bT G) (m:Int))).length<=100000000000:=by rw[Par];omega
  rw[Ha7 hm];simp (disch:=first|assumption|omega) only[S0,rA,rQ,rB,rT,rE,aJ,gW,Pai,hlt]
 ·intro hlt
  rw[Ha8];simp (disch:=first|assumption|omega) only[S0,rA,rQ,rB,rT,rE,hlt]
theorem Wa6 (l ks:List Int)(h:Fah l ks=true)(hl:l.length<=1000000):Fun T 159 [rL l,rL ks]=some [rL (lL (jJ ks) l)]:=by
 rw[Oak (e:=Laa) rfl];exact Kbs h hl
theorem Xat (G:List (List Int))(ks:List Int)(hg:GOk G)(hl:G.length<=1000)(hr:∀ r∈G,r.length<=1000)(hk:ks.length=G.length)(nw:∀ k∈ks,0<=k/\k<=1000000000)(hi:∀ x y,InB G x->InB G y->atI ks x=atI ks y->x=y):Fun T 150 [rL G,rL ks]=some [rL (nH G ks)]:=by
 rw[aO (t:=Db2) rfl];unfold Db2
 obtain⟨c1,c2⟩:=oI hg;have tg:(bT G).length<=G.length:=Aci (lQ c1 fun C hC=>(c2 C).1 hC) (Ear G);have h0:(aU.mk 1 0).run []=some [rL ([]:List (List Int))]:=rfl;have est:rL (bT G)=pF [] (Zbq 0 [D.hole]) ((bT G).drop 0):=Bb3 (bT G) (Bca _);simp (disch:=first|assumption|omega) only[S0,rA,rQ,rB,rT,rE,Ias,h0];rw[jN (bT G).length (fun m=>[rL (uZ G ks m),pF [] (Zbq m [D.hole]) ((bT G).drop m),i64 m]) (.yield 1,[rL (nH G ks)]) (by rw[<- est];rfl) (by simp)]
 ·simp (disch:=first|assumption|omega) only[S0,rA,rQ,rB,rT,rE]
 ·intro m hm hlt
  have hb:InB (bT G) (m:Int):=aH.2 hm;obtain⟨a,ha,he,-⟩:=jB ((c2 _).1 (at_mem hm));have g1:=Nay G a;have g2:∀ x∈atI (bT G) (m:Int),InB G x:=fun x hx=>Tak (by rw[<- he];exact hx)
  rw[<- he]at g1;have hC:(atI (bT G) (m:Int)).length<=1000000:=by omega
  have j9:∀ x∈atI (bT G) (m:Int),InB ks x:=fun x hx=>by have:=g2 x hx;unfold InB at this ⊢;rw[hk];exact this
  have oY:∀ x∈atI (bT G) (m:Int),∀ y∈atI (bT G) (m:Int),atI ks x=atI ks y->x=y:=fun x hx y hy=>hi x y (g2 x hx) (g2 y hy)
  have hko:=Abp j9 nw oY;have o1:=Lar hg ks m;have a1:(uZ G ks m).length+(lL (jJ ks) (atI (bT G) (m:Int))).length<=100000000000:=by rw[Par];omega
  have fy:(bT G).drop m=atI (bT G) (m:Int)::(bT G).drop (m+1):=by rw[Acy hm,bC hm]
  have hJ:((Zbq m [D.hole]).length:Int)=(m:Int):=by rw[Acj]
  have q1:aU.inb.run [pF [] (Zbq m [D.hole]) ((bT G).drop m),i64 (m:Int)]=some []:=Na5 (by omega) (by rw[fy,Zbs,hJ,Zby];omega);have q2:(aU.row 1 0 [false]).run [pF [] (Zbq m [D.hole]) ((bT G).drop m),i64 (m:Int)]=some [rL (atI (bT G) (m:Int))]:=by rw[fy];exact Va4 (by rw[hJ,Zby];omega)
  have q3:(aU.set 1 0 1).run [pF [] (Zbq m [D.hole]) ((bT G).drop m),i64 (m:Int),.hole]=some [pF [] (Zbq (m+1) [D.hole]) ((bT G).drop (m+1))]:=by rw[fy,List.replicate_succ'];exact Ram (by rw[hJ,Zby];omega)
  rw[Ha7 hm];simp (disch:=first|assumption|omega) only[S0,rA,rQ,rB,rT,rE,gW,Wa6,q1,q2,q3,hlt]
 ·intro hlt
  rw[Ha8];simp (disch:=first|assumption|omega) only[S0,rA,rQ,rB,rT,rE,hlt]
theorem Paf (n:Int)(rows:List (List bR))(ht:bG ⟨n,rows⟩=true)(hs:mI rows):Fun T 63 [i64 n,rL rows]=some [rL (pU ⟨n,rows⟩)]:=by
 rw[aO (t:=Pb4) rfl];unfold Pb4
 have hg:dG n=true:=bA ht;have hn:=aY hg;have hl:(rows.length:Int)=n:=dM ht;have jh:rows.length<=100:=by omega
 have sa:=nV ht;have fb:=Bbc ⟨n,rows⟩;have hgl:=Ia0 ⟨n,rows⟩;have py:∀ r∈gM ⟨n,rows⟩,r.length<=1000:=fun r hr=>by have:=(Bbb hr).1;omega
 have qz:(zG ⟨n,rows⟩).length=(gM ⟨n,rows⟩).length:=by rw[Qai,hgl]
 have wg:=Qaj ht;have im:∀ x∈aI ⟨n,rows⟩,x∈bU rows:=fun x hx=>Da6 hx
 simp (disch:=first|assumption|omega) only[S0,rA,rQ,rB,rT,rE,Pae,Ka5];rw[jN rows.length (fun k=>[i64 k,rL (Ra7 (aI ⟨n,rows⟩) ⟨n,rows⟩ k).rows]) (.yield 1,[rL (Ra7 (aI ⟨n,rows⟩) ⟨n,rows⟩ rows.length).rows]) rfl (by simp)]
 rotate_left
 ·intro k hk hlt
  have hc:=Waj.all ht im k (by simp only;omega);have iz:(Ra7 (aI ⟨n,rows⟩) ⟨n,rows⟩ k).rows.length=rows.length:=hc.rowsLen ht;have sg:InB (Ra7 (aI ⟨n,rows⟩) ⟨n,rows⟩ k).rows (k:Int):=aH.2 (by omega);have hck:(atI (Ra7 (aI ⟨n,rows⟩) ⟨n,rows⟩ k).rows (k:Int)).length=(atI rows (k:Int)).length:=hc.len k;have h6:(atI rows (k:Int)).length<=6:=(dV ht (at_mem hk)).1;have hck2:(atI (Ra7 (aI ⟨n,rows⟩) ⟨n,rows⟩ k).rows (k:Int)).length<=1099511627776:=by omega
  simp (disch:=first|assumption|omega) only[S0,rA,rQ,rB,rT,rE,aJ,hlt];rw[hck];rw[jN (atI rows (k:Int)).length (fun m=>[i64 m,rL (Ibm (aI ⟨n,rows⟩) k m (Ra7 (aI ⟨n,rows⟩) ⟨n,rows⟩ k)).rows]) (.yield 3,[rL (Ra7 (aI ⟨n,rows⟩) ⟨n,rows⟩ (k+1)).rows]) rfl (by simp)]
  ·simp (disch:=first|assumption|omega) only[S0,rA,rQ,rB,rT,rE]
  ·intro m hm bb
   have hd:=hc.stepN ht (by simp only;exact hk) m (by simp only;omega);have e:Ibm (aI ⟨n,rows⟩) k (m+1) (Ra7 (aI ⟨n,rows⟩) ⟨n,rows⟩ k)=Obm (aI ⟨n,rows⟩) (Ibm (aI ⟨n,rows⟩) k m (Ra7 (aI ⟨n,rows⟩) ⟨n,rows⟩ k)) k m:=rfl;rw[e];generalize Ibm (aI ⟨n,rows⟩) k m (Ra7 (aI ⟨n,rows⟩) ⟨n,rows⟩ k)=u at hd ⊢;obtain⟨un,us⟩:=u;obtain rfl:un=n:=hd.n;have pC:us.length=rows.length:=hd.rowsLen ht;have hdb:InB us (k:Int):=aH.2 (by omega);have xf:(atI us (k:Int)).length=(atI rows (k:Int)).length:=hd.len k;have hdm:InB (atI us (k:Int)) (m:Int):=aH.2 (by omega);have b1:([(k:Int),(m:Int)+1]:List Int).length<=1099511627776:=by simp
   have b2:(aI ⟨un,rows⟩).length<=1099511627776:=by omega
   unfold Obm;cases hf:decide (iV (aI ⟨un,rows⟩) [(k:Int),(m:Int)+1]<0)
   ·simp (disch:=first|assumption|omega) only[S0,rA,rQ,rB,rT,rE,nT,fI,bb,hf,Zbg]
   ·have e1:ext un (atI us (k:Int)) ((m:Int)+1)=atI us (k:Int):=Va0 (by omega)
    have e2:(m:Int)+1-1=(m:Int):=by omega
    unfold Ja6;simp (disch:=first|assumption|omega) only[S0,rA,rQ,rB,rT,rE,aJ,nT,Bac,fI,mH,bb,hf,e1,e2];rfl
  ·intro bb
   simp (disch:=first|assumption|omega) only[S0,rA,rQ,rB,rT,rE,bb];rfl
 ·intro hlt
  simp (disch:=first|assumption|omega) only[S0,rA,rQ,rB,rT,rE,hlt]
 have jl:=Gb6 ht;simp only at jl;generalize Ra7 (aI ⟨n,rows⟩) ⟨n,rows⟩ rows.length=u at jl ⊢;obtain⟨un,us⟩:=u;obtain rfl:un=n:=jl.n;have n4:bG ⟨un,us⟩=true:=jl.ok;have rl:=Baq n4;simp only at rl;have ue:=jl.com ht;have tU:=jl.graph ht;simp only at ue tU;simp (disch:=first|assumption|omega) only[S0,rA,rQ,rB,rT,rE,Pag,ue,tU];rw[jN (aI ⟨un,rows⟩).length (fun m=>[rL (((aI ⟨un,rows⟩).take m).map (Dar ⟨un,rows⟩)),i64 m]) (.yield 5,[rL (zG ⟨un,rows⟩)]) rfl (by simp)]
 rotate_left
 ·intro m hm hlt
  have hb:InB (aI ⟨un,rows⟩) (m:Int):=aH.2 hm;obtain⟨hi,aE,he,x0,x1⟩:=dA ht (at_mem hm);have oY:inst un (atI (atI (aI ⟨un,rows⟩) (m:Int)) 0) (atI (atI (aI ⟨un,rows⟩) (m:Int)) 1)=true:=hi.2;have hr:=bJ oY;have hrb:InB rows (atI (atI (aI ⟨un,rows⟩) (m:Int)) 0):=dL ht oY;have hsq:=Cat ht hi;have tI:(((aI ⟨un,rows⟩).take m).map (Dar ⟨un,rows⟩)).length<=30:=by rw[Zbt,Zb1];omega
  have ek:((aI ⟨un,rows⟩).take (m+1)).map (Dar ⟨un,rows⟩)=((aI ⟨un,rows⟩).take m).map (Dar ⟨un,rows⟩)++[Dar ⟨un,rows⟩ (atI (aI ⟨un,rows⟩) (m:Int))]:=by rw[<- take_at hm,Ac8];rfl
  rw[ek];have a1:(((aI ⟨un,rows⟩).take m).map (Dar ⟨un,rows⟩)).length+([Dar ⟨un,rows⟩ (atI (aI ⟨un,rows⟩) (m:Int))]:List Int).length<=100000000000:=by simp only[Zbs,Zby];omega
  have ek2:100*(fM ⟨un,rows⟩ (atI (atI (aI ⟨un,rows⟩) (m:Int)) 0) (atI (atI (aI ⟨un,rows⟩) (m:Int)) 1)).attr.seq+10*atI (atI (aI ⟨un,rows⟩) (m:Int)) 0+atI (atI (aI ⟨un,rows⟩) (m:Int)) 1=Dar ⟨un,rows⟩ (atI (aI ⟨un,rows⟩) (m:Int)):=rfl;simp (disch:=first|assumption|omega) only[S0,rA,rQ,rB,rT,rE,aJ,nT,gW,Ua1,kI,ek2,hlt]
 ·intro hlt
  rw[Acn];simp (disch:=first|assumption|omega) only[S0,rA,rQ,rB,rT,rE,hlt];rfl
 have kz:=Nad ⟨un,rows⟩;simp (disch:=first|assumption|omega) only[S0,rA,rQ,rB,rT,rE,Pah];have eJ:nH (gM ⟨un,rows⟩) (zG ⟨un,rows⟩)=sS ⟨un,rows⟩:=rfl;rw[eJ];rw[jN (sS ⟨un,rows⟩).length (fun m=>[rL (aI ⟨un,rows⟩),rL (((sS ⟨un,rows⟩).take m).map fun j=>atI (aI ⟨un,rows⟩) j),i64 m]) (.yield 7,[rL (pU ⟨un,rows⟩)]) rfl (by simp)]
 ·simp (disch:=first|assumption|omega) only[S0,rA,rQ,rB,rT,rE]
 ·intro m hm hlt
  have hb:InB (sS ⟨un,rows⟩) (m:Int):=aH.2 hm;have s9:=Ha9 (at_mem hm);have tI:(((sS ⟨un,rows⟩).take m).map fun j=>atI (aI ⟨un,rows⟩) j).length<=30:=by rw[Zbt,Zb1];omega
  have ek:((sS ⟨un,rows⟩).take (m+1)).map (fun j=>atI (aI ⟨un,rows⟩) j)=((sS ⟨un,rows⟩).take m).map (fun j=>atI (aI ⟨un,rows⟩) j)++[atI (aI ⟨un,rows⟩) (atI (sS ⟨un,rows⟩) (m:Int))]:=by rw[<- take_at hm,Ac8];rfl
  have a1:(((sS ⟨un,rows⟩).take m).map fun j=>atI (aI ⟨un,rows⟩) j).length+([atI (aI ⟨un,rows⟩) (atI (sS ⟨un,rows⟩) (m:Int))]:List (List Int)).length<=100000000000:=by simp only[Zbs,Zby];omega
  rw[ek];simp (disch:=first|assumption|omega) only[S0,rA,rQ,rB,rT,rE,aJ,nT,gW,hlt]
 ·intro hlt
  rw[Acn];simp (disch:=first|assumption|omega) only[S0,rA,rQ,rB,rT,rE,hlt];rfl
theorem Gab (n:Int)(rows:List (List bR))(ht:bG ⟨n,rows⟩=true)(hs:mI rows):Fun T 137 [i64 n,rL rows]=some [rL (pU ⟨n,rows⟩)]:=by
 rw[aO (t:=Ebe) rfl];unfold Ebe
 have hg:dG n=true:=bA ht;have hn:=aY hg;have hl:(rows.length:Int)=n:=dM ht;have jh:rows.length<=100:=by omega
 have sa:=nV ht;have fb:=Bbc ⟨n,rows⟩;have hgl:=Ia0 ⟨n,rows⟩;have py:∀ r∈gM ⟨n,rows⟩,r.length<=1000:=fun r hr=>by have:=(Bbb hr).1;omega
 have qz:(zG ⟨n,rows⟩).length=(gM ⟨n,rows⟩).length:=by rw[Qai,hgl]
 have wg:=Qaj ht;have oi:=Abq ht;have h0:(aU.mk 1 0).run []=some [rL ([]:List (List Int))]:=rfl;simp (disch:=first|assumption|omega) only[S0,rA,rQ,rB,rT,rE,Cav,Gaa];rw[jN (aI ⟨n,rows⟩).length (fun m=>[i64 m,i64 n,rL (Yaq ⟨n,rows⟩ m).rows]) (.yield 1,[i64 n,rL (Yaq ⟨n,rows⟩ (aI ⟨n,rows⟩).length).rows]) rfl (by simp)]
 rotate_left
 ·intro m hm hlt
  have hb:InB (aI ⟨n,rows⟩) (m:Int):=aH.2 hm;obtain⟨hi,aE,he,x0,x1⟩:=dA ht (at_mem hm);have oY:inst n (atI (atI (aI ⟨n,rows⟩) (m:Int)) 0) (atI (atI (aI ⟨n,rows⟩) (m:Int)) 1)=true:=hi.2;have hr:=bJ oY;have hrb:InB rows (atI (atI (aI ⟨n,rows⟩) (m:Int)) 0):=dL ht oY;have jl:=Oai ht m (by omega);have pC:=eF ht oY;simp only at pC;have e:Yaq ⟨n,rows⟩ (m+1)=Ja6 (Yaq ⟨n,rows⟩ m) (atI (atI (aI ⟨n,rows⟩) (m:Int)) 0) (atI (atI (aI ⟨n,rows⟩) (m:Int)) 1) (fM ⟨n,rows⟩ (atI (atI (aI ⟨n,rows⟩) (m:Int)) 0) (atI (atI (aI ⟨n,rows⟩) (m:Int)) 1)):=rfl;rw[e];generalize Yaq ⟨n,rows⟩ m=u at jl ⊢;obtain⟨un,us⟩:=u;obtain rfl:un=n:=jl.n;have n4:bG ⟨un,us⟩=true:=jl.ok;have rl:=Baq n4;simp only at rl;have hub:InB us (atI (atI (aI ⟨un,rows⟩) (m:Int)) 0):=dL n4 oY;have hdl2:(fM ⟨un,rows⟩ (atI (atI (aI ⟨un,rows⟩) (m:Int)) 0) (atI (atI (aI ⟨un,rows⟩) (m:Int)) 1)).attr.deps.length<=10000000000:=by omega
  simp (disch:=first|assumption|omega) only[S0,rA,rQ,rB,rT,rE,aJ,bO,zZ,hlt];rfl
 ·intro hlt
  simp (disch:=first|assumption|omega) only[S0,rA,rQ,rB,rT,rE,hlt]
 have jl:=Hbr ht;generalize Yaq ⟨n,rows⟩ (aI ⟨n,rows⟩).length=u at jl ⊢;obtain⟨un,us⟩:=u;obtain rfl:un=n:=jl.n;have n4:bG ⟨un,us⟩=true:=jl.ok;have rl:=Baq n4;simp only at rl;have ue:=jl.com ht;have tU:=jl.graph ht;simp only at ue tU;simp (disch:=first|assumption|omega) only[S0,rA,rQ,rB,rT,rE,Gac,ue,tU,h0];rw[jN (aI ⟨un,rows⟩).length (fun m=>[rL (((aI ⟨un,rows⟩).take m).map (Dar ⟨un,rows⟩)),i64 m]) (.yield 3,[rL (zG ⟨un,rows⟩)]) rfl (by simp)]
 rotate_left
 ·intro m hm hlt
  have hb:InB (aI ⟨un,rows⟩) (m:Int):=aH.2 hm;obtain⟨hi,aE,he,x0,x1⟩:=dA ht (at_mem hm);have oY:inst un (atI (atI (aI ⟨un,rows⟩) (m:Int)) 0) (atI (atI (aI ⟨un,rows⟩) (m:Int)) 1)=true:=hi.2;have hr:=bJ oY;have hrb:InB us (atI (atI (aI ⟨un,rows⟩) (m:Int)) 0):=dL n4 oY;have hsq:=Cat ht hi
  have htr:fM ⟨un,us⟩ (atI (atI (aI ⟨un,rows⟩) (m:Int)) 0) (atI (atI (aI ⟨un,rows⟩) (m:Int)) 1)=fM ⟨un,rows⟩ (atI (atI (aI ⟨un,rows⟩) (m:Int)) 0) (atI (atI (aI ⟨un,rows⟩) (m:Int)) 1):=by
   rw[jl.row _ _ oY,if_pos (by rw[<- he];exact at_mem hm)]
  have tI:(((aI ⟨un,rows⟩).take m).map (Dar ⟨un,rows⟩)).length<=30:=by rw[Zbt,Zb1];omega
  have ek:((aI ⟨un,rows⟩).take (m+1)).map (Dar ⟨un,rows⟩)=((aI ⟨un,rows⟩).take m).map (Dar ⟨un,rows⟩)++[Dar ⟨un,rows⟩ (atI (aI ⟨un,rows⟩) (m:Int))]:=by rw[<- take_at hm,Ac8];rfl
  rw[ek];have a1:(((aI ⟨un,rows⟩).take m).map (Dar ⟨un,rows⟩)).length+([Dar ⟨un,rows⟩ (atI (aI ⟨un,rows⟩) (m:Int))]:List Int).length<=100000000000:=by simp only[Zbs,Zby];omega
  have ek2:100*(fM ⟨un,rows⟩ (atI (atI (aI ⟨un,rows⟩) (m:Int)) 0) (atI (atI (aI ⟨un,rows⟩) (m:Int)) 1)).attr.seq+10*atI (atI (aI ⟨un,rows⟩) (m:Int)) 0+atI (atI (aI ⟨un,rows⟩) (m:Int)) 1=Dar ⟨un,rows⟩ (atI (aI ⟨un,rows⟩) (m:Int)):=rfl;simp (disch:=first|assumption|omega) only[S0,rA,rQ,rB,rT,rE,aJ,nT,gW,Ua1,bO,htr,ek2,hlt]
 ·intro hlt
  rw[Acn];simp (disch:=first|assumption|omega) only[S0,rA,rQ,rB,rT,rE,hlt];rfl
 have kz:=Nad ⟨un,rows⟩;simp (disch:=first|assumption|omega) only[S0,rA,rQ,rB,rT,rE,Xat,h0];have eJ:nH (gM ⟨un,rows⟩) (zG ⟨un,rows⟩)=sS ⟨un,rows⟩:=rfl;have q0:(sS ⟨un,rows⟩).Nodup:=wJ fb _;have est:rL (aI ⟨un,rows⟩)=hsD (aI ⟨un,rows⟩) (fun j=>lF ((sS ⟨un,rows⟩).take 0) j):=(Obh _ fun j _=>rfl).symm;rw[eJ];generalize hE:Er T (Tm.loop _ _) _=E
 obtain⟨r,h1,h3⟩:∃ r,E=some r/\r=(.yield 5,[rL (pU ⟨un,rows⟩)]):=by
  refine⟨_,?_,rfl⟩;rw[<- hE];rw[jN (sS ⟨un,rows⟩).length (fun m=>[hsD (aI ⟨un,rows⟩) (fun j=>lF ((sS ⟨un,rows⟩).take m) j),rL (((sS ⟨un,rows⟩).take m).map fun j=>atI (aI ⟨un,rows⟩) j),i64 m]) (.yield 5,[rL (pU ⟨un,rows⟩)]) (by rw[<- est];rfl) (by simp)]
  ·intro m hm hlt
   have hb:InB (sS ⟨un,rows⟩) (m:Int):=aH.2 hm;have s9:=Ha9 (at_mem hm);have tI:(((sS ⟨un,rows⟩).take m).map fun j=>atI (aI ⟨un,rows⟩) j).length<=30:=by rw[Zbt,Zb1];omega
   have ek:((sS ⟨un,rows⟩).take (m+1)).map (fun j=>atI (aI ⟨un,rows⟩) j)=((sS ⟨un,rows⟩).take m).map (fun j=>atI (aI ⟨un,rows⟩) j)++[atI (aI ⟨un,rows⟩) (atI (sS ⟨un,rows⟩) (m:Int))]:=by rw[<- take_at hm,Ac8];rfl
   have a1:(((sS ⟨un,rows⟩).take m).map fun j=>atI (aI ⟨un,rows⟩) j).length+([atI (aI ⟨un,rows⟩) (atI (sS ⟨un,rows⟩) (m:Int))]:List (List Int)).length<=100000000000:=by simp only[Zbs,Zby];omega
   have gp:lF ((sS ⟨un,rows⟩).take m) (atI (sS ⟨un,rows⟩) (m:Int))=false:=by
    rw[<- Bool.not_eq_true,nN];intro cY;obtain⟨i,hi,e⟩:=List.mem_iff_getElem.1 cY;rw[Zb1]at hi;rw[Ccy,bC hm]at e;have:=(List.getElem_inj q0).1 e;omega
   have ep:(fun j=>lF ((sS ⟨un,rows⟩).take (m+1)) j)=fun j=>lF ((sS ⟨un,rows⟩).take m) j||j==atI (sS ⟨un,rows⟩) (m:Int):=funext fun j=>Vas hm j
   have q1:aU.inb.run [hsD (aI ⟨un,rows⟩) (fun j=>lF ((sS ⟨un,rows⟩).take m) j),i64 (atI (sS ⟨un,rows⟩) (m:Int))]=some []:=Jb5 s9;have q2:(aU.row 1 0 [false]).run [hsD (aI ⟨un,rows⟩) (fun j=>lF ((sS ⟨un,rows⟩).take m) j),i64 (atI (sS ⟨un,rows⟩) (m:Int))]=some [rL (atI (aI ⟨un,rows⟩) (atI (sS ⟨un,rows⟩) (m:Int)))]:=Jb4 s9 gp;have q3:(aU.set 1 0 1).run [hsD (aI ⟨un,rows⟩) (fun j=>lF ((sS ⟨un,rows⟩).take m) j),i64 (atI (sS ⟨un,rows⟩) (m:Int)),.hole]=some [hsD (aI ⟨un,rows⟩) (fun j=>lF ((sS ⟨un,rows⟩).take (m+1)) j)]:=by rw[ep];exact Gbe s9
   rw[ek];simp (disch:=first|assumption|omega) only[S0,rA,rQ,rB,rT,rE,aJ,nT,gW,q1,q2,q3,hlt]
  ·intro hlt
   rw[Acn];simp (disch:=first|assumption|omega) only[S0,rA,rQ,rB,rT,rE,hlt];rfl
 subst h3;rw[h1];simp (disch:=first|assumption|omega) only[S0,rA,rQ,rB,rT,rE]
theorem Kaa (reps:List nY)(bag:List pO)(asked:List dD)(h1:uX reps)(hn:vI ⟨reps,bag,asked⟩=true):Fun T 58 [rL reps,rL bag,rL asked]=some [.bool (Za0 ⟨reps,bag,asked⟩)]:=by
 rw[aO (t:=Pb9) rfl];unfold Pb9;unfold Za0
 have h4:=h1.1;have h5:=h1.2;have hg:=oJ hn;have py:=aY hg;simp only at hg py;obtain⟨so,sn⟩:=Zaj hn;have ssm:=Baq so;simp (disch:=first|assumption|omega) only[S0,rA,rQ,rB,rT,rE,Hap];unfold Jbp;simp only;generalize Zak ⟨reps,bag,asked⟩=u at so sn ssm ⊢;obtain⟨un,us⟩:=u;simp only at so sn ssm ⊢;rw[Bau 1 reps.length (fun i=>(reps.take i).all fun b=>Xac ⟨un,us⟩ (pU (atI reps (i:Int)).table) (pU b.table)) [.bool false]]
 ·(refine aD ?_;repeat' (refine aC ?_ ?_<;>intro _<;>try simp (disch:=first|assumption|omega) only[S0,rA,rQ,rB,rT,rE, *]))
 ·intro i hi hlt
  have sY:InB reps (i:Int):=aH.2 hi;obtain⟨ht,hN,-⟩:=jM hn (i:=i) hi;obtain⟨lE,km⟩:=h5 _ (at_mem hi);simp only at ht hN;generalize hR:atI reps (i:Int)=R at ht hN lE km ⊢;have htl:(reps.take i).length<=1099511627776:=by rw[Zb1];omega
  simp (disch:=first|assumption|omega) only[S0,rA,rQ,rB,rT,rE,aJ,vM,hlt,hR,Zb7,Bcf,Bcl];rw[Yap 3 (reps.take i) (fun b=>Xac ⟨un,us⟩ (pU R.table) (pU b.table)) [.bool false]]
  ·(refine aD ?_;repeat' (refine aC ?_ ?_<;>intro _<;>try simp (disch:=first|assumption|omega) only[S0,rA,rQ,rB,rT,rE, *]))
  ·intro k hk qa jb yz
   have qi:=Ac9 yz;obtain⟨qn,sL⟩:=h5 _ qi;obtain⟨k2,ox,ek⟩:=Bcm qi;obtain⟨lf,og,-⟩:=jM hn (i:=k2) ox;simp only at lf og;rw[bC ox,ek]at lf og;generalize hU:atI (reps.take i) (k:Int)=U at lf og qn sL ⊢;have ia:qF un (pU R.table)=true:=uB ht (by rw[hN,<- sn]);have ib:qF un (pU U.table)=true:=uB lf (by rw[og,<- sn]);have la:(pU R.table).length<=10000000000:=by have:=Gau R.table;have:=nV ht;omega
   have lb:(pU U.table).length<=10000000000:=by have:=Gau U.table;have:=nV lf;omega
   have xa:∀ x∈pU R.table,x.length<=10000000000:=fun x hx=>by have:=(dA ht (Cab hx)).1.1;omega
   have xb:∀ x∈pU U.table,x.length<=10000000000:=fun x hx=>by have:=(dA lf (Cab hx)).1.1;omega
   have ni:Jbq (pU R.table) (pU U.table) ⟨un,us⟩=(Xac ⟨un,us⟩ (pU R.table) (pU U.table),true):=by
    unfold Jbq;rw[so,ia,ib];rfl
   cases c1:Xac ⟨un,us⟩ (pU R.table) (pU U.table)<;>simp (disch:=first|assumption|omega) only[S0,rA,rQ,rB,rT,rE,aJ,Paf,Haq,ni,jb,hU,c1,Zbg]
  ·intro jb
   simp (disch:=first|assumption|omega) only[S0,rA,rQ,rB,rT,rE,jb]
 ·intro hlt
  simp (disch:=first|assumption|omega) only[S0,rA,rQ,rB,rT,rE,hlt]
theorem zI (reps:List nY)(bag:List pO)(asked:List dD)(h1:uX reps)(hn:vI ⟨reps,bag,asked⟩=true):Fun T 133 [rL reps,rL bag,rL asked]=some [.bool (Za0 ⟨reps,bag,asked⟩)]:=by
 rw[aO (t:=Ebi) rfl];unfold Ebi;unfold Za0
 have h4:=h1.1;have h5:=h1.2;have hg:=oJ hn;have py:=aY hg;simp only at hg py;obtain⟨so,sn⟩:=Zaj hn;have ssm:=Baq so;simp (disch:=first|assumption|omega) only[S0,rA,rQ,rB,rT,rE,Gae];unfold Jbp;simp only;generalize Zak ⟨reps,bag,asked⟩=u at so sn ssm ⊢;obtain⟨un,us⟩:=u;simp only at so sn ssm ⊢;rw[Bau 1 reps.length (fun i=>(reps.take i).all fun b=>Xac ⟨un,us⟩ (pU (atI reps (i:Int)).table) (pU b.table)) [.bool false]]
 ·(refine aD ?_;repeat' (refine aC ?_ ?_<;>intro _<;>try simp (disch:=first|assumption|omega) only[S0,rA,rQ,rB,rT,rE, *]))
 ·intro i hi hlt
  have sY:InB reps (i:Int):=aH.2 hi;obtain⟨ht,hN,-⟩:=jM hn (i:=i) hi;obtain⟨lE,km⟩:=h5 _ (at_mem hi);simp only at ht hN;generalize hR:atI reps (i:Int)=R at ht hN lE km ⊢;have htl:(reps.take i).length<=1099511627776:=by rw[Zb1];omega
  simp (disch:=first|assumption|omega) only[S0,rA,rQ,rB,rT,rE,aJ,vM,hlt,hR,Zb7,Bcf,Bcl];rw[Yap 3 (reps.take i) (fun b=>Xac ⟨un,us⟩ (pU R.table) (pU b.table)) [.bool false]]
  ·(refine aD ?_;repeat' (refine aC ?_ ?_<;>intro _<;>try simp (disch:=first|assumption|omega) only[S0,rA,rQ,rB,rT,rE, *]))
  ·intro k hk qa jb yz
   have qi:=Ac9 yz;obtain⟨qn,sL⟩:=h5 _ qi;obtain⟨k2,ox,ek⟩:=Bcm qi;obtain⟨lf,og,-⟩:=jM hn (i:=k2) ox;simp only at lf og;rw[bC ox,ek]at lf og;generalize hU:atI (reps.take i) (k:Int)=U at lf og qn sL ⊢;have ia:qF un (pU R.table)=true:=uB ht (by rw[hN,<- sn]);have ib:qF un (pU U.table)=true:=uB lf (by rw[og,<- sn]);have la:(pU R.table).length<=10000000000:=by have:=Gau R.table;have:=nV ht;omega
   have lb:(pU U.table).length<=10000000000:=by have:=Gau U.table;have:=nV lf;omega
   have xa:∀ x∈pU R.table,x.length<=10000000000:=fun x hx=>by have:=(dA ht (Cab hx)).1.1;omega
   have xb:∀ x∈pU U.table,x.length<=10000000000:=fun x hx=>by have:=(dA lf (Cab hx)).1.1;omega
   have ni:Jbq (pU R.table) (pU U.table) ⟨un,us⟩=(Xac ⟨un,us⟩ (pU R.table) (pU U.table),true):=by
    unfold Jbq;rw[so,ia,ib];rfl
   cases c1:Xac ⟨un,us⟩ (pU R.table) (pU U.table)<;>simp (disch:=first|assumption|omega) only[S0,rA,rQ,rB,rT,rE,aJ,Gab,wW,jb,hU,c1,Zbg]
  ·intro jb
   simp (disch:=first|assumption|omega) only[S0,rA,rQ,rB,rT,rE,jb]
 ·intro hlt
  simp (disch:=first|assumption|omega) only[S0,rA,rQ,rB,rT,rE,hlt]
theorem Fa4 (reps:List nY)(bag:List pO)(asked:List dD)(h1:uX reps)(h2:Lab bag)(h3:asked.length<=10000000000):Fun T 31 [rL reps,rL bag,rL asked]=some [.bool (Xab ⟨reps,bag,asked⟩).1,.bool (Xab ⟨reps,bag,asked⟩).2]:=by
 rw[aO (t:=Qb0) rfl];unfold Qb0;unfold Xab
 cases ht:vI ⟨reps,bag,asked⟩
 ·simp (disch:=first|assumption|omega) only[S0,rA,rQ,rB,rT,rE,vT,ht,Bool.false_and,Zbg]
 cases ha:Kbo ⟨reps,bag,asked⟩
 ·simp (disch:=first|assumption|omega) only[S0,rA,rQ,rB,rT,rE,vT,Bao,ht,ha,Cch,Zbg]
 ·simp (disch:=first|assumption|omega) only[S0,rA,rQ,rB,rT,rE,vT,Bao,Kaa,ht,ha,Cch]
theorem Gad (reps:List nY)(bag:List pO)(asked:List dD)(h1:uX reps)(h2:Lab bag)(h3:asked.length<=10000000000):Fun T 80 [rL reps,rL bag,rL asked]=some [.bool (Xab ⟨reps,bag,asked⟩).1,.bool (Xab ⟨reps,bag,asked⟩).2]:=by
 rw[aO (t:=Pbn) rfl];unfold Pbn;unfold Xab
 cases ht:vI ⟨reps,bag,asked⟩
 ·simp (disch:=first|assumption|omega) only[S0,rA,rQ,rB,rT,rE,wY,ht,Bool.false_and,Zbg]
 cases ha:Kbo ⟨reps,bag,asked⟩
 ·simp (disch:=first|assumption|omega) only[S0,rA,rQ,rB,rT,rE,wY,Aaa,ht,ha,Cch,Zbg]
 ·simp (disch:=first|assumption|omega) only[S0,rA,rQ,rB,rT,rE,wY,Aaa,zI,ht,ha,Cch]
theorem law (a6:(List nY))(br:(List pO))(aw:(List dD))(a2y:Man ⟨a6,br,aw⟩):Fun T 0 [rL a6,rL br,rL aw]=some [.bool true]:=by
 rw[aO (t:=tm0) rfl];unfold tm0
 by_cases c_x:((gN ⟨a6,br,aw⟩:Nat):Int)<=1048576
 rotate_left
 ·have e:szR (1048576) (gN ⟨a6,br,aw⟩)=-1:=if_neg c_x
  (refine aD ?_;repeat' (refine aC ?_ ?_<;>intro _<;>try simp (disch:=first|assumption|omega) only[S0,rA,rQ,rB,rT,rE,Vag,lt0,Vbq, *]))
 have e_x:szR (1048576) (gN ⟨a6,br,aw⟩)=1048576-((gN ⟨a6,br,aw⟩:Nat):Int):=if_pos c_x;have a7h:gN ⟨a6,br,aw⟩<=1048576:=by omega
 have yW:gN ⟨a6,br,aw⟩<=1099511627776:=by omega
 have xn:=a7h;rw[Gal]at xn;simp only at xn;have m1_x_reps:szL aZ a6<=1099511627776:=by first|omega|(have h:=yW;rw[fO]at h;exact h)
 have m2_x_reps:ctL Jam a6<=1125899906842624:=by have:=sM (c:=Jam) (f:=aZ) (m:=16) (by omega) Hba a6;omega
 have m1_x_bag:szL bE br<=1099511627776:=by first|omega|(have h:=yW;rw[fO]at h;exact h)
 have m2_x_bag:ctL Jan br<=1125899906842624:=by have:=sM (c:=Jan) (f:=bE) (m:=16) (by omega) Hbb br;omega
 have m1_x_asked:aw.length<=1099511627776:=by first|omega|(have h:=yW;rw[fO]at h;exact h)
 have m2_x_asked:ctL xL aw<=1125899906842624:=by have:=sM (c:=xL) (f:=(fun _=>0)) (m:=16) (by omega) Yai aw;simp only[fO]at *;omega
 have n1:uX a6:=Zad (by have:=Gal ⟨a6,br,aw⟩;simp only at this;omega);have n2:Lab br:=Zae (by have:=Gal ⟨a6,br,aw⟩;simp only at this;omega)
 have n3:aw.length<=10000000000:=by
  have:=Gal ⟨a6,br,aw⟩;simp only at this;have:=iB (f:=fun _=>0) (xs:=aw);omega
 (refine aD ?_;repeat' (refine aC ?_ ?_<;>intro _<;>try simp (disch:=first|assumption|omega) only[S0,rA,rQ,rB,rT,rE,Vag,Fb6,Fa4,Gad,Fb9,lt0,Vbq, *]))
theorem hpure:∀ ds,WTs [.sl 64 [.int .i64,.int .i64,.sl 24 [.sl 96 [.int .i64,.int .i64,.int .i64,.int .i64,.int .i64,.int .i64,.int .i64,.int .i64,.int .i64,.sl 8 [.int .i64]]],.sl 192 [.int .i64,.int .i64,.int .i64,.int .i64,.int .i64,.int .i64,.int .i64,.int .i64,.int .i64,.int .i64,.sl 8 [.int .i64],.int .i64,.sl 8 [.int .i64],.bool,.sl 8 [.int .i64],.sl 96 [.int .i64,.int .i64,.int .i64,.int .i64,.int .i64,.int .i64,.int .i64,.int .i64,.int .i64,.sl 8 [.int .i64]]]],.sl 136 [.int .i64,.int .i64,.int .i64,.int .i64,.int .i64,.int .i64,.int .i64,.int .i64,.int .i64,.int .i64,.int .i64,.int .i64,.int .i64,.int .i64,.sl 8 [.int .i64]],.sl 56 [.int .i64,.int .i64,.int .i64,.int .i64,.int .i64,.int .i64,.int .i64]] ds->∃ n,kH T n 0 ds=some [.bool true]:=by
 intro ds h;simp only[WTs]at h;obtain⟨d0,r0,rfl,w0,d1,r1,rfl,w1,d2,r2,rfl,w2,rfl⟩:=h;obtain⟨x,e_x,a2y⟩:=Gb4 [d0,d1,d2] (by simp only[WTs];exact⟨_,_,rfl,w0,_,_,rfl,w1,_,_,rfl,w2,rfl⟩);simp only[Enc.enc,List.cons.injEq,and_true]at e_x;obtain⟨rfl,rfl,rfl⟩:=e_x;exact Jbm (law (x.reps) (x.bag) (x.asked) a2y)
end FnExactOrdersAgree
end Go.Proofs.YtcbkmmhkccnamaaGreat
