/- What qq terms of FnExactFinishedIn come to. -/
import Derived.Test.YtcbkmmhkccnamaaGreatFnExactFinishedInTab
open Bool renaming and_eq_true → Obh, false_eq_true → Obp, not_eq_true' → Ob6, or_eq_true → Pbo, beq_eq_decide_eq → Pbx, not_true → Pb5, false_or → Qbd, decide_and → Qbf, true_and → Qbj, not_false → Qbr, false_and → Qbs, and_assoc → Qbt, and_eq_false_iff → Rba, or_eq_false_iff → Rbe
open Int renaming toNat_natCast → Pbt
open List renaming append_assoc → Obs, length_append → Obv, replicate → Ob3, append_nil → Pbc, length_cons → Pbm, length_take → Pb3, not_all_eq_any_not → Pb8, length_nil → Qbc, getElem_of_mem → Qb2, take_length → Qb5
open Nat renaming lt_or_ge → Ob2, le_trans → Pbl, zero_le → Pby
namespace Go.Proofs.YtcbkmmhkccnamaaGreat
namespace FnExactFinishedIn
open Go Go.Proofs.YtcbkmmhkccnamaaGreat.Rf
open Nat renaming reduceAdd → rA, reduceEqDiff → rQ
open Int renaming reduceBEq → rB, reduceLT → rT, reduceLE → rE
set_option linter.unusedSimpArgs false
set_option linter.unusedVariables false
set_option linter.unnecessarySimpa false
set_option maxHeartbeats 4000000
set_option maxRecDepth 10000
theorem Daa (ct pc ep dv kA:Int):Fun T 22 [i64 ct,i64 pc,i64 ep,i64 dv,i64 kA]=some [i64 ct,i64 pc,i64 ep,i64 dv,i64 kA]:=by
 rw[aR (t:=Hbn) rfl];unfold Hbn
 (refine aD ?_;repeat' (refine aC ?_ ?_<;>intro _<;>try simp (disch:=first|assumption|omega) only[S0,rA,rQ,rB,rT,rE, *]))
theorem Dac (ct pc ep dv kA:Int)(gw tn ji jj pZ:Int):Fun T 127 [i64 ct,i64 pc,i64 ep,i64 dv,i64 kA,i64 gw,i64 tn,i64 ji,i64 jj,i64 pZ]=some [.bool (decide ((⟨ct,pc,ep,dv,kA⟩:Cak)=⟨gw,tn,ji,jj,pZ⟩))]:=by
 rw[aR (t:=Waz) rfl];unfold Waz
 have e:decide ((⟨ct,pc,ep,dv,kA⟩:Cak)=⟨gw,tn,ji,jj,pZ⟩)=((ct==gw)&&(pc==tn)&&(ep==ji)&&(dv==jj)&&(kA==pZ)):=by
  simp only[Cak.mk.injEq,Pbx,Qbf,Qbt]
 rw[e]
 (refine aD ?_;repeat' (refine aC ?_ ?_<;>intro _<;>try simp (disch:=first|assumption|omega) only[S0,rA,rQ,rB,rT,rE, *]))
theorem Eap (xs:(List Int))(l:Int)(h0:0<=l)(h1:l<=1048576)(hw:xs.length<=140737488351232):Fun T 9 [rL xs,i64 l]=some [i64 (szR l (szL (fun _=>0) xs))]:=by
 rw[aR (t:=tm9) rfl];unfold tm9
 have es:szL (fun _=>0) xs=xs.length:=dF;rw[es];by_cases c:(xs.length:Int)<=l
 ·have e:szR l xs.length=l-xs.length:=if_pos c
  have d:decide (l-(xs.length:Int)<0)=false:=by simp;omega
  (refine aD ?_;repeat' (refine aC ?_ ?_<;>intro _<;>try simp (disch:=first|assumption|omega) only[S0,rA,rQ,rB,rT,rE, *]))
 ·have e:szR l xs.length=-1:=if_neg c
  have d:decide (l-(xs.length:Int)<0)=true:=by simp;omega
  (refine aD ?_;repeat' (refine aC ?_ ?_<;>intro _<;>try simp (disch:=first|assumption|omega) only[S0,rA,rQ,rB,rT,rE, *]))
theorem Uae (xs:(List Int))(hs:szL (fun _=>0) xs<=1048576):Fun T 24 [rL xs]=some [rL xs]:=by
 rw[aR (t:=Hbl) rfl];unfold Hbl
 have hl:xs.length<=1048576:=Pbl gB hs;simp (disch:=first|assumption|omega) only[S0,rA,rQ,rB,rT,rE,wU,Pbt, *];rw[Dar xs rfl]
 ·(refine aD ?_;repeat' (refine aC ?_ ?_<;>intro _<;>try simp (disch:=first|assumption|omega) only[S0,rA,rQ,rB,rT,rE, *]))
 ·intro i ys hi hb cF eW
  (refine aD ?_;repeat' (refine aC ?_ ?_<;>intro _<;>try simp (disch:=first|assumption|omega) only[S0,rA,rQ,rB,rT,rE,aU,Jaq, *]))
 ·intro ys eW
  (refine aD ?_;repeat' (refine aC ?_ ?_<;>intro _<;>try simp (disch:=first|assumption|omega) only[S0,rA,rQ,rB,rT,rE, *]))
theorem Uak (xs ys:(List Int))(hs:szL (fun _=>0) xs<=1099511627776):Fun T 129 [rL xs,rL ys]=some [.bool (decide (xs=ys))]:=by
 rw[aR (t:=Waw) rfl];unfold Waw
 have hx:xs.length<=1099511627776:=Pbl gB hs;by_cases hl:ys.length=xs.length
 ·simp (disch:=first|assumption|omega) only[S0,rA,rQ,rB,rT,rE, *]
  rw[Ead 1 xs.length (fun i=>decide (atI xs i=atI ys i)) [.bool false],qY hl.symm]
  ·(refine aD ?_;repeat' (refine aC ?_ ?_<;>intro _<;>try simp (disch:=first|assumption|omega) only[S0,rA,rQ,rB,rT,rE, *]))
  ·intro i hi hp
   have hb:InB xs (i:Int):=aP.2 hi;have cF:InB ys (i:Int):=aP.2 (by omega);have h2:decide ((i:Int)<xs.length)=true:=by simp;omega
   have h3:(atI xs i==atI ys i)=true:=by simpa using hp
   (refine aD ?_;repeat' (refine aC ?_ ?_<;>intro _<;>try simp (disch:=first|assumption|omega) only[S0,rA,rQ,rB,rT,rE,aU, *]))
  ·intro i hi hp
   have hb:InB xs (i:Int):=aP.2 hi;have cF:InB ys (i:Int):=aP.2 (by omega);have h2:decide ((i:Int)<xs.length)=true:=by simp;omega
   have h3:(atI xs i==atI ys i)=false:=by simpa using hp
   (refine aD ?_;repeat' (refine aC ?_ ?_<;>intro _<;>try simp (disch:=first|assumption|omega) only[S0,rA,rQ,rB,rT,rE,aU, *]))
  ·have h2:decide ((xs.length:Int)<xs.length)=false:=by simp
   (refine aD ?_;repeat' (refine aC ?_ ?_<;>intro _<;>try simp (disch:=first|assumption|omega) only[S0,rA,rQ,rB,rT,rE, *]))
 ·have eW:((xs.length:Int)==(ys.length:Int))=false:=by simp;omega
  have e:=zX (fun h=>hl h.symm)
  (refine aD ?_;repeat' (refine aC ?_ ?_<;>intro _<;>try simp (disch:=first|assumption|omega) only[S0,rA,rQ,rB,rT,rE, *]))
theorem fG (fL:Int)(cj:(List Int))(l:Int)(h0:0<=l)(h1:l<=1048576)(hw:uS ⟨fL,cj⟩):Fun T 8 [i64 fL,rL cj,i64 l]=some [i64 (szR l (aK ⟨fL,cj⟩))]:=by
 rw[aR (t:=tm8) rfl];unfold tm8
 unfold uS at hw;simp only at hw;have w0:=hw;by_cases c0:((szL (fun _=>0) cj:Nat):Int)<=l
 rotate_left
 ·have e0:szR (l) (szL (fun _=>0) cj)=-1:=if_neg c0
  have d0:decide ((-1:Int)<0)=true:=rfl;have e:szR l (aK ⟨fL,cj⟩)=-1:=by unfold szR aK;simp only[];split<;>omega
  (refine aD ?_;repeat' (refine aC ?_ ?_<;>intro _<;>try simp (disch:=first|assumption|omega) only[S0,rA,rQ,rB,rT,rE,Eap, *]))
 have e0:szR (l) (szL (fun _=>0) cj)=l-(szL (fun _=>0) cj:Nat):=if_pos c0;have d0:decide (l-((szL (fun _=>0) cj:Nat):Int)<0)=false:=by simp;omega
 have e:szR l (aK ⟨fL,cj⟩)=l-((szL (fun _=>0) cj:Nat):Int):=by unfold szR aK;simp only[];split<;>omega
 (refine aD ?_;repeat' (refine aC ?_ ?_<;>intro _<;>try simp (disch:=first|assumption|omega) only[S0,rA,rQ,rB,rT,rE,Eap, *]))
theorem Eao (fL:Int)(cj:(List Int))(hs:aK ⟨fL,cj⟩<=1048576):Fun T 23 [i64 fL,rL cj]=some [i64 fL,rL cj]:=by
 rw[aR (t:=Hbm) rfl];unfold Hbm
 unfold aK at hs;simp only at hs;have s0:szL (fun _=>0) cj<=1048576:=by omega
 (refine aD ?_;repeat' (refine aC ?_ ?_<;>intro _<;>try simp (disch:=first|assumption|omega) only[S0,rA,rQ,rB,rT,rE,Uae, *]))
theorem Eas (fL:Int)(cj:(List Int))(p7:Int)(mg:(List Int))(hs:aK ⟨fL,cj⟩<=1099511627776):Fun T 128 [i64 fL,rL cj,i64 p7,rL mg]=some [.bool (decide ((⟨fL,cj⟩:eU)=⟨p7,mg⟩))]:=by
 rw[aR (t:=Wax) rfl];unfold Wax
 unfold aK at hs;simp only at hs;have s0:szL (fun _=>0) cj<=1099511627776:=by omega
 have e:decide ((⟨fL,cj⟩:eU)=⟨p7,mg⟩)=((fL==p7)&&decide ((cj:(List Int))=mg)):=by
  simp only[eU.mk.injEq,Pbx,Qbf,Qbt]
 rw[e]
 (refine aD ?_;repeat' (refine aC ?_ ?_<;>intro _<;>try simp (disch:=first|assumption|omega) only[S0,rA,rQ,rB,rT,rE,Uak, *]))
theorem Pav (aq bw bh ae ao ak aj ah ab:Int)(aa:(List Int))(l:Int)(h0:0<=l)(h1:l<=1048576)(hw:mE ⟨aq,bw,bh,⟨ae,ao,ak,aj,ah⟩,⟨ab,aa⟩⟩):Fun T 7 [i64 aq,i64 bw,i64 bh,i64 ae,i64 ao,i64 ak,i64 aj,i64 ah,i64 ab,rL aa,i64 l]=some [i64 (szR l (aL ⟨aq,bw,bh,⟨ae,ao,ak,aj,ah⟩,⟨ab,aa⟩⟩))]:=by
 rw[aR (t:=tm7) rfl];unfold tm7
 unfold mE at hw;simp only at hw;have w0:=hw;by_cases c0:((aK ⟨ab,aa⟩:Nat):Int)<=l
 rotate_left
 ·have e0:szR (l) (aK ⟨ab,aa⟩)=-1:=if_neg c0
  have d0:decide ((-1:Int)<0)=true:=rfl;have e:szR l (aL ⟨aq,bw,bh,⟨ae,ao,ak,aj,ah⟩,⟨ab,aa⟩⟩)=-1:=by unfold szR aL;simp only[];split<;>omega
  (refine aD ?_;repeat' (refine aC ?_ ?_<;>intro _<;>try simp (disch:=first|assumption|omega) only[S0,rA,rQ,rB,rT,rE,fG, *]))
 have e0:szR (l) (aK ⟨ab,aa⟩)=l-(aK ⟨ab,aa⟩:Nat):=if_pos c0;have d0:decide (l-((aK ⟨ab,aa⟩:Nat):Int)<0)=false:=by simp;omega
 have e:szR l (aL ⟨aq,bw,bh,⟨ae,ao,ak,aj,ah⟩,⟨ab,aa⟩⟩)=l-((aK ⟨ab,aa⟩:Nat):Int):=by unfold szR aL;simp only[];split<;>omega
 (refine aD ?_;repeat' (refine aC ?_ ?_<;>intro _<;>try simp (disch:=first|assumption|omega) only[S0,rA,rQ,rB,rT,rE,fG, *]))
theorem Yab (aq bw bh ae ao ak aj ah ab:Int)(aa:(List Int))(hs:aL ⟨aq,bw,bh,⟨ae,ao,ak,aj,ah⟩,⟨ab,aa⟩⟩<=1048576):Fun T 21 [i64 aq,i64 bw,i64 bh,i64 ae,i64 ao,i64 ak,i64 aj,i64 ah,i64 ab,rL aa]=some [i64 aq,i64 bw,i64 bh,i64 ae,i64 ao,i64 ak,i64 aj,i64 ah,i64 ab,rL aa]:=by
 rw[aR (t:=Hbo) rfl];unfold Hbo
 unfold aL at hs;simp only at hs;have s0:aK ⟨ab,aa⟩<=1048576:=by omega
 (refine aD ?_;repeat' (refine aC ?_ ?_<;>intro _<;>try simp (disch:=first|assumption|omega) only[S0,rA,rQ,rB,rT,rE,Daa,Eao, *]))
theorem Paz (aq bw bh ae ao ak aj ah ab:Int)(aa:(List Int))(cE gy fm bg b3 bn bm bo b4:Int)(bq:(List Int))(hs:aL ⟨aq,bw,bh,⟨ae,ao,ak,aj,ah⟩,⟨ab,aa⟩⟩<=1099511627776):Fun T 126 [i64 aq,i64 bw,i64 bh,i64 ae,i64 ao,i64 ak,i64 aj,i64 ah,i64 ab,rL aa,i64 cE,i64 gy,i64 fm,i64 bg,i64 b3,i64 bn,i64 bm,i64 bo,i64 b4,rL bq]=some [.bool (decide ((⟨aq,bw,bh,⟨ae,ao,ak,aj,ah⟩,⟨ab,aa⟩⟩:dO)=⟨cE,gy,fm,⟨bg,b3,bn,bm,bo⟩,⟨b4,bq⟩⟩))]:=by
 rw[aR (t:=Wa0) rfl];unfold Wa0
 unfold aL at hs;simp only at hs;have s0:aK ⟨ab,aa⟩<=1099511627776:=by omega
 have e:decide ((⟨aq,bw,bh,⟨ae,ao,ak,aj,ah⟩,⟨ab,aa⟩⟩:dO)=⟨cE,gy,fm,⟨bg,b3,bn,bm,bo⟩,⟨b4,bq⟩⟩)=((aq==cE)&&(bw==gy)&&(bh==fm)&&decide ((⟨ae,ao,ak,aj,ah⟩:Cak)=⟨bg,b3,bn,bm,bo⟩)&&decide ((⟨ab,aa⟩:eU)=⟨b4,bq⟩)):=by
  simp only[dO.mk.injEq,Pbx,Qbf,Qbt]
 rw[e]
 (refine aD ?_;repeat' (refine aC ?_ ?_<;>intro _<;>try simp (disch:=first|assumption|omega) only[S0,rA,rQ,rB,rT,rE,Dac,Eas, *]))
theorem mM (xs:(List dO))(l:Int)(h0:0<=l)(h1:l<=1048576)(hw:xs.length<=140737488351232/\∀ y0∈xs,mE y0):Fun T 6 [rL xs,i64 l]=some [i64 (szR l (szL aL xs))]:=by
 rw[aR (t:=tm6) rfl];unfold tm6
 obtain⟨yy,po⟩:=hw;by_cases c:(xs.length:Int)<=l
 ·have d:decide (l-(xs.length:Int)<0)=false:=by simp;omega
  simp (disch:=first|assumption|omega) only[S0,rA,rQ,rB,rT,rE, *];rw[Kaa xs aL (l-xs.length) rfl (by omega) (by omega)]
  ·by_cases hd:((xs.map aL).sum:Int)<=l-xs.length
   ·have e:szR l (szL aL xs)=l-xs.length-((xs.map aL).sum:Nat):=by unfold szR;rw[show (szL aL xs)=xs.length+(xs.map aL).sum from rfl,if_pos (by omega)];omega
    rw[decide_eq_true hd]
    (refine aD ?_;repeat' (refine aC ?_ ?_<;>intro _<;>try simp (disch:=first|assumption|omega) only[S0,rA,rQ,rB,rT,rE, *]))
   ·have e:szR l (szL aL xs)=-1:=by unfold szR;rw[show (szL aL xs)=xs.length+(xs.map aL).sum from rfl,if_neg (by omega)]
    rw[decide_eq_false hd]
    (refine aD ?_;repeat' (refine aC ?_ ?_<;>intro _<;>try simp (disch:=first|assumption|omega) only[S0,rA,rQ,rB,rT,rE, *]))
  ·intro i m hi hb hl hm ni hf hr hd
   have hq:=po _ (at_mem hi)
   (refine aD ?_;repeat' (refine aC ?_ ?_<;>intro _<;>try simp (disch:=first|assumption|omega) only[S0,rA,rQ,rB,rT,rE,aU,Pav, *]))
  ·intro i m hi hb hl hm ni hf hr hd
   have hq:=po _ (at_mem hi)
   (refine aD ?_;repeat' (refine aC ?_ ?_<;>intro _<;>try simp (disch:=first|assumption|omega) only[S0,rA,rQ,rB,rT,rE,aU,Pav, *]))
  ·intro m hl
   (refine aD ?_;repeat' (refine aC ?_ ?_<;>intro _<;>try simp (disch:=first|assumption|omega) only[S0,rA,rQ,rB,rT,rE, *]))
 ·have e:szR l (szL aL xs)=-1:=by unfold szR;rw[show (szL aL xs)=xs.length+(xs.map aL).sum from rfl,if_neg (by omega)]
  have d:decide (l-(xs.length:Int)<0)=true:=by simp;omega
  (refine aD ?_;repeat' (refine aC ?_ ?_<;>intro _<;>try simp (disch:=first|assumption|omega) only[S0,rA,rQ,rB,rT,rE, *]))
theorem Lae (xs:(List dO))(hs:szL aL xs<=1048576):Fun T 20 [rL xs]=some [rL xs]:=by
 rw[aR (t:=Hbp) rfl];unfold Hbp
 have hl:xs.length<=1048576:=Pbl gB hs;simp (disch:=first|assumption|omega) only[S0,rA,rQ,rB,rT,rE,wU,Pbt, *];rw[Dar xs rfl]
 ·(refine aD ?_;repeat' (refine aC ?_ ?_<;>intro _<;>try simp (disch:=first|assumption|omega) only[S0,rA,rQ,rB,rT,rE, *]))
 ·intro i ys hi hb cF eW
  have hq:aL (atI xs i)<=1048576:=by
   have:=fT (f:=aL) (at_mem hi);omega
  (refine aD ?_;repeat' (refine aC ?_ ?_<;>intro _<;>try simp (disch:=first|assumption|omega) only[S0,rA,rQ,rB,rT,rE,aU,Jaq,Yab, *]))
 ·intro ys eW
  (refine aD ?_;repeat' (refine aC ?_ ?_<;>intro _<;>try simp (disch:=first|assumption|omega) only[S0,rA,rQ,rB,rT,rE, *]))
theorem Eat (xs ys:(List dO))(hs:szL aL xs<=1099511627776):Fun T 125 [rL xs,rL ys]=some [.bool (decide (xs=ys))]:=by
 rw[aR (t:=Wa1) rfl];unfold Wa1
 have hx:xs.length<=1099511627776:=Pbl gB hs;by_cases hl:ys.length=xs.length
 ·simp (disch:=first|assumption|omega) only[S0,rA,rQ,rB,rT,rE, *]
  rw[Ead 1 xs.length (fun i=>decide (atI xs i=atI ys i)) [.bool false],qY hl.symm]
  ·(refine aD ?_;repeat' (refine aC ?_ ?_<;>intro _<;>try simp (disch:=first|assumption|omega) only[S0,rA,rQ,rB,rT,rE, *]))
  ·intro i hi hp
   have hb:InB xs (i:Int):=aP.2 hi;have cF:InB ys (i:Int):=aP.2 (by omega);have h2:decide ((i:Int)<xs.length)=true:=by simp;omega
   have hq:aL (atI xs i)<=1099511627776:=by
    have:=fT (f:=aL) (at_mem hi);omega
   (refine aD ?_;repeat' (refine aC ?_ ?_<;>intro _<;>try simp (disch:=first|assumption|omega) only[S0,rA,rQ,rB,rT,rE,aU,Paz, *]))
  ·intro i hi hp
   have hb:InB xs (i:Int):=aP.2 hi;have cF:InB ys (i:Int):=aP.2 (by omega);have h2:decide ((i:Int)<xs.length)=true:=by simp;omega
   have hq:aL (atI xs i)<=1099511627776:=by
    have:=fT (f:=aL) (at_mem hi);omega
   (refine aD ?_;repeat' (refine aC ?_ ?_<;>intro _<;>try simp (disch:=first|assumption|omega) only[S0,rA,rQ,rB,rT,rE,aU,Paz, *]))
  ·have h2:decide ((xs.length:Int)<xs.length)=false:=by simp
   (refine aD ?_;repeat' (refine aC ?_ ?_<;>intro _<;>try simp (disch:=first|assumption|omega) only[S0,rA,rQ,rB,rT,rE, *]))
 ·have eW:((xs.length:Int)==(ys.length:Int))=false:=by simp;omega
  have e:=zX (fun h=>hl h.symm)
  (refine aD ?_;repeat' (refine aC ?_ ?_<;>intro _<;>try simp (disch:=first|assumption|omega) only[S0,rA,rQ,rB,rT,rE, *]))
theorem Haf (xs:(List (List dO)))(l:Int)(h0:0<=l)(h1:l<=1048576)(hw:xs.length<=140737488351232/\∀ y0∈xs,y0.length<=140737488351232/\∀ y1∈y0,mE y1):Fun T 5 [rL xs,i64 l]=some [i64 (szR l (szL (szL aL) xs))]:=by
 rw[aR (t:=tm5) rfl];unfold tm5
 obtain⟨yy,po⟩:=hw;by_cases c:(xs.length:Int)<=l
 ·have d:decide (l-(xs.length:Int)<0)=false:=by simp;omega
  simp (disch:=first|assumption|omega) only[S0,rA,rQ,rB,rT,rE, *];rw[Kaa xs (szL aL) (l-xs.length) rfl (by omega) (by omega)]
  ·by_cases hd:((xs.map (szL aL)).sum:Int)<=l-xs.length
   ·have e:szR l (szL (szL aL) xs)=l-xs.length-((xs.map (szL aL)).sum:Nat):=by unfold szR;rw[show (szL (szL aL) xs)=xs.length+(xs.map (szL aL)).sum from rfl,if_pos (by omega)];omega
    rw[decide_eq_true hd]
    (refine aD ?_;repeat' (refine aC ?_ ?_<;>intro _<;>try simp (disch:=first|assumption|omega) only[S0,rA,rQ,rB,rT,rE, *]))
   ·have e:szR l (szL (szL aL) xs)=-1:=by unfold szR;rw[show (szL (szL aL) xs)=xs.length+(xs.map (szL aL)).sum from rfl,if_neg (by omega)]
    rw[decide_eq_false hd]
    (refine aD ?_;repeat' (refine aC ?_ ?_<;>intro _<;>try simp (disch:=first|assumption|omega) only[S0,rA,rQ,rB,rT,rE, *]))
  ·intro i m hi hb hl hm ni hf hr hd
   have hq:=po _ (at_mem hi)
   (refine aD ?_;repeat' (refine aC ?_ ?_<;>intro _<;>try simp (disch:=first|assumption|omega) only[S0,rA,rQ,rB,rT,rE,aU,mM, *]))
  ·intro i m hi hb hl hm ni hf hr hd
   have hq:=po _ (at_mem hi)
   (refine aD ?_;repeat' (refine aC ?_ ?_<;>intro _<;>try simp (disch:=first|assumption|omega) only[S0,rA,rQ,rB,rT,rE,aU,mM, *]))
  ·intro m hl
   (refine aD ?_;repeat' (refine aC ?_ ?_<;>intro _<;>try simp (disch:=first|assumption|omega) only[S0,rA,rQ,rB,rT,rE, *]))
 ·have e:szR l (szL (szL aL) xs)=-1:=by unfold szR;rw[show (szL (szL aL) xs)=xs.length+(xs.map (szL aL)).sum from rfl,if_neg (by omega)]
  have d:decide (l-(xs.length:Int)<0)=true:=by simp;omega
  (refine aD ?_;repeat' (refine aC ?_ ?_<;>intro _<;>try simp (disch:=first|assumption|omega) only[S0,rA,rQ,rB,rT,rE, *]))
theorem Ran (xs:(List (List dO)))(hs:szL (szL aL) xs<=1048576):Fun T 19 [rL xs]=some [rL xs]:=by
 rw[aR (t:=Hbq) rfl];unfold Hbq
 have hl:xs.length<=1048576:=Pbl gB hs;simp (disch:=first|assumption|omega) only[S0,rA,rQ,rB,rT,rE,wU,Pbt, *];rw[Dar xs rfl]
 ·(refine aD ?_;repeat' (refine aC ?_ ?_<;>intro _<;>try simp (disch:=first|assumption|omega) only[S0,rA,rQ,rB,rT,rE, *]))
 ·intro i ys hi hb cF eW
  have hq:szL aL (atI xs i)<=1048576:=by
   have:=fT (f:=(szL aL)) (at_mem hi);omega
  (refine aD ?_;repeat' (refine aC ?_ ?_<;>intro _<;>try simp (disch:=first|assumption|omega) only[S0,rA,rQ,rB,rT,rE,aU,Jaq,Lae, *]))
 ·intro ys eW
  (refine aD ?_;repeat' (refine aC ?_ ?_<;>intro _<;>try simp (disch:=first|assumption|omega) only[S0,rA,rQ,rB,rT,rE, *]))
theorem Raq (xs ys:(List (List dO)))(hs:szL (szL aL) xs<=1099511627776):Fun T 124 [rL xs,rL ys]=some [.bool (decide (xs=ys))]:=by
 rw[aR (t:=Wa2) rfl];unfold Wa2
 have hx:xs.length<=1099511627776:=Pbl gB hs;by_cases hl:ys.length=xs.length
 ·simp (disch:=first|assumption|omega) only[S0,rA,rQ,rB,rT,rE, *]
  rw[Ead 1 xs.length (fun i=>decide (atI xs i=atI ys i)) [.bool false],qY hl.symm]
  ·(refine aD ?_;repeat' (refine aC ?_ ?_<;>intro _<;>try simp (disch:=first|assumption|omega) only[S0,rA,rQ,rB,rT,rE, *]))
  ·intro i hi hp
   have hb:InB xs (i:Int):=aP.2 hi;have cF:InB ys (i:Int):=aP.2 (by omega);have h2:decide ((i:Int)<xs.length)=true:=by simp;omega
   have hq:szL aL (atI xs i)<=1099511627776:=by
    have:=fT (f:=(szL aL)) (at_mem hi);omega
   (refine aD ?_;repeat' (refine aC ?_ ?_<;>intro _<;>try simp (disch:=first|assumption|omega) only[S0,rA,rQ,rB,rT,rE,aU,Eat, *]))
  ·intro i hi hp
   have hb:InB xs (i:Int):=aP.2 hi;have cF:InB ys (i:Int):=aP.2 (by omega);have h2:decide ((i:Int)<xs.length)=true:=by simp;omega
   have hq:szL aL (atI xs i)<=1099511627776:=by
    have:=fT (f:=(szL aL)) (at_mem hi);omega
   (refine aD ?_;repeat' (refine aC ?_ ?_<;>intro _<;>try simp (disch:=first|assumption|omega) only[S0,rA,rQ,rB,rT,rE,aU,Eat, *]))
  ·have h2:decide ((xs.length:Int)<xs.length)=false:=by simp
   (refine aD ?_;repeat' (refine aC ?_ ?_<;>intro _<;>try simp (disch:=first|assumption|omega) only[S0,rA,rQ,rB,rT,rE, *]))
 ·have eW:((xs.length:Int)==(ys.length:Int))=false:=by simp;omega
  have e:=zX (fun h=>hl h.symm)
  (refine aD ?_;repeat' (refine aC ?_ ?_<;>intro _<;>try simp (disch:=first|assumption|omega) only[S0,rA,rQ,rB,rT,rE, *]))
theorem Aa4 (ox:Int)(cd:(List (List dO)))(l:Int)(h0:0<=l)(h1:l<=1048576)(hw:Dal ⟨ox,cd⟩):Fun T 4 [i64 ox,rL cd,i64 l]=some [i64 (szR l (bH ⟨ox,cd⟩))]:=by
 rw[aR (t:=tm4) rfl];unfold tm4
 unfold Dal at hw;simp only at hw;have w0:=hw;by_cases c0:((szL (szL aL) cd:Nat):Int)<=l
 rotate_left
 ·have e0:szR (l) (szL (szL aL) cd)=-1:=if_neg c0
  have d0:decide ((-1:Int)<0)=true:=rfl;have e:szR l (bH ⟨ox,cd⟩)=-1:=by unfold szR bH;simp only[];split<;>omega
  (refine aD ?_;repeat' (refine aC ?_ ?_<;>intro _<;>try simp (disch:=first|assumption|omega) only[S0,rA,rQ,rB,rT,rE,Haf, *]))
 have e0:szR (l) (szL (szL aL) cd)=l-(szL (szL aL) cd:Nat):=if_pos c0;have d0:decide (l-((szL (szL aL) cd:Nat):Int)<0)=false:=by simp;omega
 have e:szR l (bH ⟨ox,cd⟩)=l-((szL (szL aL) cd:Nat):Int):=by unfold szR bH;simp only[];split<;>omega
 (refine aD ?_;repeat' (refine aC ?_ ?_<;>intro _<;>try simp (disch:=first|assumption|omega) only[S0,rA,rQ,rB,rT,rE,Haf, *]))
theorem Rak (ox:Int)(cd:(List (List dO)))(hs:bH ⟨ox,cd⟩<=1048576):Fun T 18 [i64 ox,rL cd]=some [i64 ox,rL cd]:=by
 rw[aR (t:=Hbr) rfl];unfold Hbr
 unfold bH at hs;simp only at hs;have s0:szL (szL aL) cd<=1048576:=by omega
 (refine aD ?_;repeat' (refine aC ?_ ?_<;>intro _<;>try simp (disch:=first|assumption|omega) only[S0,rA,rQ,rB,rT,rE,Ran, *]))
theorem Rao (ox:Int)(cd:(List (List dO)))(y_n:Int)(mN:(List (List dO)))(hs:bH ⟨ox,cd⟩<=1099511627776):Fun T 123 [i64 ox,rL cd,i64 y_n,rL mN]=some [.bool (decide ((⟨ox,cd⟩:aT)=⟨y_n,mN⟩))]:=by
 rw[aR (t:=Wa3) rfl];unfold Wa3
 unfold bH at hs;simp only at hs;have s0:szL (szL aL) cd<=1099511627776:=by omega
 have e:decide ((⟨ox,cd⟩:aT)=⟨y_n,mN⟩)=((ox==y_n)&&decide ((cd:(List (List dO)))=mN)):=by
  simp only[aT.mk.injEq,Pbx,Qbf,Qbt]
 rw[e]
 (refine aD ?_;repeat' (refine aC ?_ ?_<;>intro _<;>try simp (disch:=first|assumption|omega) only[S0,rA,rQ,rB,rT,rE,Raq, *]))
theorem Laf (bt cJ aq cC ae ao ak aj ah an:Int)(af:(List Int))(ab:Int)(aa:(List Int))(di:Bool)(cu:(List Int))(b6:(List dO))(l:Int)(h0:0<=l)(h1:l<=1048576)(hw:uR ⟨bt,cJ,aq,cC,⟨ae,ao,ak,aj,ah⟩,⟨an,af⟩,⟨ab,aa⟩,di,cu,b6⟩):Fun T 11 [i64 bt,i64 cJ,i64 aq,i64 cC,i64 ae,i64 ao,i64 ak,i64 aj,i64 ah,i64 an,rL af,i64 ab,rL aa,.bool di,rL cu,rL b6,i64 l]=some [i64 (szR l (aQ ⟨bt,cJ,aq,cC,⟨ae,ao,ak,aj,ah⟩,⟨an,af⟩,⟨ab,aa⟩,di,cu,b6⟩))]:=by
 rw[aR (t:=Hby) rfl];unfold Hby
 unfold uR at hw;simp only at hw;obtain⟨w0,w1,w2,w3⟩:=hw;by_cases c0:((aK ⟨an,af⟩:Nat):Int)<=l
 rotate_left
 ·have e0:szR (l) (aK ⟨an,af⟩)=-1:=if_neg c0
  have d0:decide ((-1:Int)<0)=true:=rfl;have e:szR l (aQ ⟨bt,cJ,aq,cC,⟨ae,ao,ak,aj,ah⟩,⟨an,af⟩,⟨ab,aa⟩,di,cu,b6⟩)=-1:=by unfold szR aQ;simp only[];split<;>omega
  (refine aD ?_;repeat' (refine aC ?_ ?_<;>intro _<;>try simp (disch:=first|assumption|omega) only[S0,rA,rQ,rB,rT,rE,fG,fG,Eap,mM, *]))
 have e0:szR (l) (aK ⟨an,af⟩)=l-(aK ⟨an,af⟩:Nat):=if_pos c0;have d0:decide (l-((aK ⟨an,af⟩:Nat):Int)<0)=false:=by simp;omega
 by_cases c1:((aK ⟨ab,aa⟩:Nat):Int)<=l-((aK ⟨an,af⟩:Nat):Int)
 rotate_left
 ·have e1:szR (l-((aK ⟨an,af⟩:Nat):Int)) (aK ⟨ab,aa⟩)=-1:=if_neg c1
  have d1:decide ((-1:Int)<0)=true:=rfl;have e:szR l (aQ ⟨bt,cJ,aq,cC,⟨ae,ao,ak,aj,ah⟩,⟨an,af⟩,⟨ab,aa⟩,di,cu,b6⟩)=-1:=by unfold szR aQ;simp only[];split<;>omega
  (refine aD ?_;repeat' (refine aC ?_ ?_<;>intro _<;>try simp (disch:=first|assumption|omega) only[S0,rA,rQ,rB,rT,rE,fG,fG,Eap,mM, *]))
 have e1:szR (l-((aK ⟨an,af⟩:Nat):Int)) (aK ⟨ab,aa⟩)=l-((aK ⟨an,af⟩:Nat):Int)-(aK ⟨ab,aa⟩:Nat):=if_pos c1;have d1:decide (l-((aK ⟨an,af⟩:Nat):Int)-((aK ⟨ab,aa⟩:Nat):Int)<0)=false:=by simp;omega
 by_cases c2:((szL (fun _=>0) cu:Nat):Int)<=l-((aK ⟨an,af⟩:Nat):Int)-((aK ⟨ab,aa⟩:Nat):Int)
 rotate_left
 ·have e2:szR (l-((aK ⟨an,af⟩:Nat):Int)-((aK ⟨ab,aa⟩:Nat):Int)) (szL (fun _=>0) cu)=-1:=if_neg c2
  have d2:decide ((-1:Int)<0)=true:=rfl;have e:szR l (aQ ⟨bt,cJ,aq,cC,⟨ae,ao,ak,aj,ah⟩,⟨an,af⟩,⟨ab,aa⟩,di,cu,b6⟩)=-1:=by unfold szR aQ;simp only[];split<;>omega
  (refine aD ?_;repeat' (refine aC ?_ ?_<;>intro _<;>try simp (disch:=first|assumption|omega) only[S0,rA,rQ,rB,rT,rE,fG,fG,Eap,mM, *]))
 have e2:szR (l-((aK ⟨an,af⟩:Nat):Int)-((aK ⟨ab,aa⟩:Nat):Int)) (szL (fun _=>0) cu)=l-((aK ⟨an,af⟩:Nat):Int)-((aK ⟨ab,aa⟩:Nat):Int)-(szL (fun _=>0) cu:Nat):=if_pos c2;have d2:decide (l-((aK ⟨an,af⟩:Nat):Int)-((aK ⟨ab,aa⟩:Nat):Int)-((szL (fun _=>0) cu:Nat):Int)<0)=false:=by simp;omega
 by_cases c3:((szL aL b6:Nat):Int)<=l-((aK ⟨an,af⟩:Nat):Int)-((aK ⟨ab,aa⟩:Nat):Int)-((szL (fun _=>0) cu:Nat):Int)
 rotate_left
 ·have e3:szR (l-((aK ⟨an,af⟩:Nat):Int)-((aK ⟨ab,aa⟩:Nat):Int)-((szL (fun _=>0) cu:Nat):Int)) (szL aL b6)=-1:=if_neg c3
  have d3:decide ((-1:Int)<0)=true:=rfl;have e:szR l (aQ ⟨bt,cJ,aq,cC,⟨ae,ao,ak,aj,ah⟩,⟨an,af⟩,⟨ab,aa⟩,di,cu,b6⟩)=-1:=by unfold szR aQ;simp only[];split<;>omega
  (refine aD ?_;repeat' (refine aC ?_ ?_<;>intro _<;>try simp (disch:=first|assumption|omega) only[S0,rA,rQ,rB,rT,rE,fG,fG,Eap,mM, *]))
 have e3:szR (l-((aK ⟨an,af⟩:Nat):Int)-((aK ⟨ab,aa⟩:Nat):Int)-((szL (fun _=>0) cu:Nat):Int)) (szL aL b6)=l-((aK ⟨an,af⟩:Nat):Int)-((aK ⟨ab,aa⟩:Nat):Int)-((szL (fun _=>0) cu:Nat):Int)-(szL aL b6:Nat):=if_pos c3;have d3:decide (l-((aK ⟨an,af⟩:Nat):Int)-((aK ⟨ab,aa⟩:Nat):Int)-((szL (fun _=>0) cu:Nat):Int)-((szL aL b6:Nat):Int)<0)=false:=by simp;omega
 have e:szR l (aQ ⟨bt,cJ,aq,cC,⟨ae,ao,ak,aj,ah⟩,⟨an,af⟩,⟨ab,aa⟩,di,cu,b6⟩)=l-((aK ⟨an,af⟩:Nat):Int)-((aK ⟨ab,aa⟩:Nat):Int)-((szL (fun _=>0) cu:Nat):Int)-((szL aL b6:Nat):Int):=by unfold szR aQ;simp only[];split<;>omega
 (refine aD ?_;repeat' (refine aC ?_ ?_<;>intro _<;>try simp (disch:=first|assumption|omega) only[S0,rA,rQ,rB,rT,rE,fG,fG,Eap,mM, *]))
theorem Uab (bt cJ aq cC ae ao ak aj ah an:Int)(af:(List Int))(ab:Int)(aa:(List Int))(di:Bool)(cu:(List Int))(b6:(List dO))(hs:aQ ⟨bt,cJ,aq,cC,⟨ae,ao,ak,aj,ah⟩,⟨an,af⟩,⟨ab,aa⟩,di,cu,b6⟩<=1048576):Fun T 26 [i64 bt,i64 cJ,i64 aq,i64 cC,i64 ae,i64 ao,i64 ak,i64 aj,i64 ah,i64 an,rL af,i64 ab,rL aa,.bool di,rL cu,rL b6]=some [i64 bt,i64 cJ,i64 aq,i64 cC,i64 ae,i64 ao,i64 ak,i64 aj,i64 ah,i64 an,rL af,i64 ab,rL aa,.bool di,rL cu,rL b6]:=by
 rw[aR (t:=Hbj) rfl];unfold Hbj
 unfold aQ at hs;simp only at hs;have s0:aK ⟨an,af⟩<=1048576:=by omega
 have s1:aK ⟨ab,aa⟩<=1048576:=by omega
 have s2:szL (fun _=>0) cu<=1048576:=by omega
 have s3:szL aL b6<=1048576:=by omega
 (refine aD ?_;repeat' (refine aC ?_ ?_<;>intro _<;>try simp (disch:=first|assumption|omega) only[S0,rA,rQ,rB,rT,rE,Daa,Eao,Uae,Lae, *]))
theorem Lah (bt cJ aq cC ae ao ak aj ah an:Int)(af:(List Int))(ab:Int)(aa:(List Int))(di:Bool)(cu:(List Int))(b6:(List dO))(gj jr cE kx bg b3 bn bm bo gg:Int)(fu:(List Int))(b4:Int)(bq:(List Int))(mq:Bool)(pP:(List Int))(mn:(List dO))(hs:aQ ⟨bt,cJ,aq,cC,⟨ae,ao,ak,aj,ah⟩,⟨an,af⟩,⟨ab,aa⟩,di,cu,b6⟩<=1099511627776):Fun T 131 [i64 bt,i64 cJ,i64 aq,i64 cC,i64 ae,i64 ao,i64 ak,i64 aj,i64 ah,i64 an,rL af,i64 ab,rL aa,.bool di,rL cu,rL b6,i64 gj,i64 jr,i64 cE,i64 kx,i64 bg,i64 b3,i64 bn,i64 bm,i64 bo,i64 gg,rL fu,i64 b4,rL bq,.bool mq,rL pP,rL mn]=some [.bool (decide ((⟨bt,cJ,aq,cC,⟨ae,ao,ak,aj,ah⟩,⟨an,af⟩,⟨ab,aa⟩,di,cu,b6⟩:gL)=⟨gj,jr,cE,kx,⟨bg,b3,bn,bm,bo⟩,⟨gg,fu⟩,⟨b4,bq⟩,mq,pP,mn⟩))]:=by
 rw[aR (t:=Wau) rfl];unfold Wau
 unfold aQ at hs;simp only at hs;have s0:aK ⟨an,af⟩<=1099511627776:=by omega
 have s1:aK ⟨ab,aa⟩<=1099511627776:=by omega
 have s2:szL (fun _=>0) cu<=1099511627776:=by omega
 have s3:szL aL b6<=1099511627776:=by omega
 have e:decide ((⟨bt,cJ,aq,cC,⟨ae,ao,ak,aj,ah⟩,⟨an,af⟩,⟨ab,aa⟩,di,cu,b6⟩:gL)=⟨gj,jr,cE,kx,⟨bg,b3,bn,bm,bo⟩,⟨gg,fu⟩,⟨b4,bq⟩,mq,pP,mn⟩)=((bt==gj)&&(cJ==jr)&&(aq==cE)&&(cC==kx)&&decide ((⟨ae,ao,ak,aj,ah⟩:Cak)=⟨bg,b3,bn,bm,bo⟩)&&decide ((⟨an,af⟩:eU)=⟨gg,fu⟩)&&decide ((⟨ab,aa⟩:eU)=⟨b4,bq⟩)&&(di==mq)&&decide ((cu:(List Int))=pP)&&decide ((b6:(List dO))=mn)):=by
  simp only[gL.mk.injEq,Pbx,Qbf,Qbt]
 rw[e]
 (refine aD ?_;repeat' (refine aC ?_ ?_<;>intro _<;>try simp (disch:=first|assumption|omega) only[S0,rA,rQ,rB,rT,rE,Dac,Eas,Uak,Eat, *]))
theorem Aa5 (xs:(List gL))(l:Int)(h0:0<=l)(h1:l<=1048576)(hw:xs.length<=140737488351232/\∀ y0∈xs,uR y0):Fun T 10 [rL xs,i64 l]=some [i64 (szR l (szL aQ xs))]:=by
 rw[aR (t:=Hbz) rfl];unfold Hbz
 obtain⟨yy,po⟩:=hw;by_cases c:(xs.length:Int)<=l
 ·have d:decide (l-(xs.length:Int)<0)=false:=by simp;omega
  simp (disch:=first|assumption|omega) only[S0,rA,rQ,rB,rT,rE, *];rw[Kaa xs aQ (l-xs.length) rfl (by omega) (by omega)]
  ·by_cases hd:((xs.map aQ).sum:Int)<=l-xs.length
   ·have e:szR l (szL aQ xs)=l-xs.length-((xs.map aQ).sum:Nat):=by unfold szR;rw[show (szL aQ xs)=xs.length+(xs.map aQ).sum from rfl,if_pos (by omega)];omega
    rw[decide_eq_true hd]
    (refine aD ?_;repeat' (refine aC ?_ ?_<;>intro _<;>try simp (disch:=first|assumption|omega) only[S0,rA,rQ,rB,rT,rE, *]))
   ·have e:szR l (szL aQ xs)=-1:=by unfold szR;rw[show (szL aQ xs)=xs.length+(xs.map aQ).sum from rfl,if_neg (by omega)]
    rw[decide_eq_false hd]
    (refine aD ?_;repeat' (refine aC ?_ ?_<;>intro _<;>try simp (disch:=first|assumption|omega) only[S0,rA,rQ,rB,rT,rE, *]))
  ·intro i m hi hb hl hm ni hf hr hd
   have hq:=po _ (at_mem hi)
   (refine aD ?_;repeat' (refine aC ?_ ?_<;>intro _<;>try simp (disch:=first|assumption|omega) only[S0,rA,rQ,rB,rT,rE,aU,Laf, *]))
  ·intro i m hi hb hl hm ni hf hr hd
   have hq:=po _ (at_mem hi)
   (refine aD ?_;repeat' (refine aC ?_ ?_<;>intro _<;>try simp (disch:=first|assumption|omega) only[S0,rA,rQ,rB,rT,rE,aU,Laf, *]))
  ·intro m hl
   (refine aD ?_;repeat' (refine aC ?_ ?_<;>intro _<;>try simp (disch:=first|assumption|omega) only[S0,rA,rQ,rB,rT,rE, *]))
 ·have e:szR l (szL aQ xs)=-1:=by unfold szR;rw[show (szL aQ xs)=xs.length+(xs.map aQ).sum from rfl,if_neg (by omega)]
  have d:decide (l-(xs.length:Int)<0)=true:=by simp;omega
  (refine aD ?_;repeat' (refine aC ?_ ?_<;>intro _<;>try simp (disch:=first|assumption|omega) only[S0,rA,rQ,rB,rT,rE, *]))
theorem Ram (xs:(List gL))(hs:szL aQ xs<=1048576):Fun T 25 [rL xs]=some [rL xs]:=by
 rw[aR (t:=Hbk) rfl];unfold Hbk
 have hl:xs.length<=1048576:=Pbl gB hs;simp (disch:=first|assumption|omega) only[S0,rA,rQ,rB,rT,rE,wU,Pbt, *];rw[Dar xs rfl]
 ·(refine aD ?_;repeat' (refine aC ?_ ?_<;>intro _<;>try simp (disch:=first|assumption|omega) only[S0,rA,rQ,rB,rT,rE, *]))
 ·intro i ys hi hb cF eW
  have hq:aQ (atI xs i)<=1048576:=by
   have:=fT (f:=aQ) (at_mem hi);omega
  (refine aD ?_;repeat' (refine aC ?_ ?_<;>intro _<;>try simp (disch:=first|assumption|omega) only[S0,rA,rQ,rB,rT,rE,aU,Jaq,Uab, *]))
 ·intro ys eW
  (refine aD ?_;repeat' (refine aC ?_ ?_<;>intro _<;>try simp (disch:=first|assumption|omega) only[S0,rA,rQ,rB,rT,rE, *]))
theorem Rap (xs ys:(List gL))(hs:szL aQ xs<=1099511627776):Fun T 130 [rL xs,rL ys]=some [.bool (decide (xs=ys))]:=by
 rw[aR (t:=Wav) rfl];unfold Wav
 have hx:xs.length<=1099511627776:=Pbl gB hs;by_cases hl:ys.length=xs.length
 ·simp (disch:=first|assumption|omega) only[S0,rA,rQ,rB,rT,rE, *]
  rw[Ead 1 xs.length (fun i=>decide (atI xs i=atI ys i)) [.bool false],qY hl.symm]
  ·(refine aD ?_;repeat' (refine aC ?_ ?_<;>intro _<;>try simp (disch:=first|assumption|omega) only[S0,rA,rQ,rB,rT,rE, *]))
  ·intro i hi hp
   have hb:InB xs (i:Int):=aP.2 hi;have cF:InB ys (i:Int):=aP.2 (by omega);have h2:decide ((i:Int)<xs.length)=true:=by simp;omega
   have hq:aQ (atI xs i)<=1099511627776:=by
    have:=fT (f:=aQ) (at_mem hi);omega
   (refine aD ?_;repeat' (refine aC ?_ ?_<;>intro _<;>try simp (disch:=first|assumption|omega) only[S0,rA,rQ,rB,rT,rE,aU,Lah, *]))
  ·intro i hi hp
   have hb:InB xs (i:Int):=aP.2 hi;have cF:InB ys (i:Int):=aP.2 (by omega);have h2:decide ((i:Int)<xs.length)=true:=by simp;omega
   have hq:aQ (atI xs i)<=1099511627776:=by
    have:=fT (f:=aQ) (at_mem hi);omega
   (refine aD ?_;repeat' (refine aC ?_ ?_<;>intro _<;>try simp (disch:=first|assumption|omega) only[S0,rA,rQ,rB,rT,rE,aU,Lah, *]))
  ·have h2:decide ((xs.length:Int)<xs.length)=false:=by simp
   (refine aD ?_;repeat' (refine aC ?_ ?_<;>intro _<;>try simp (disch:=first|assumption|omega) only[S0,rA,rQ,rB,rT,rE, *]))
 ·have eW:((xs.length:Int)==(ys.length:Int))=false:=by simp;omega
  have e:=zX (fun h=>hl h.symm)
  (refine aD ?_;repeat' (refine aC ?_ ?_<;>intro _<;>try simp (disch:=first|assumption|omega) only[S0,rA,rQ,rB,rT,rE, *]))
theorem Paw (iw aw:Int)(au:(List (List dO)))(bz:(List gL))(l:Int)(h0:0<=l)(h1:l<=1048576)(hw:Aao ⟨iw,⟨aw,au⟩,bz⟩):Fun T 3 [i64 iw,i64 aw,rL au,rL bz,i64 l]=some [i64 (szR l (aW ⟨iw,⟨aw,au⟩,bz⟩))]:=by
 rw[aR (t:=tm3) rfl];unfold tm3
 unfold Aao at hw;simp only at hw;obtain⟨w0,w1⟩:=hw;by_cases c0:((bH ⟨aw,au⟩:Nat):Int)<=l
 rotate_left
 ·have e0:szR (l) (bH ⟨aw,au⟩)=-1:=if_neg c0
  have d0:decide ((-1:Int)<0)=true:=rfl;have e:szR l (aW ⟨iw,⟨aw,au⟩,bz⟩)=-1:=by unfold szR aW;simp only[];split<;>omega
  (refine aD ?_;repeat' (refine aC ?_ ?_<;>intro _<;>try simp (disch:=first|assumption|omega) only[S0,rA,rQ,rB,rT,rE,Aa4,Aa5, *]))
 have e0:szR (l) (bH ⟨aw,au⟩)=l-(bH ⟨aw,au⟩:Nat):=if_pos c0;have d0:decide (l-((bH ⟨aw,au⟩:Nat):Int)<0)=false:=by simp;omega
 by_cases c1:((szL aQ bz:Nat):Int)<=l-((bH ⟨aw,au⟩:Nat):Int)
 rotate_left
 ·have e1:szR (l-((bH ⟨aw,au⟩:Nat):Int)) (szL aQ bz)=-1:=if_neg c1
  have d1:decide ((-1:Int)<0)=true:=rfl;have e:szR l (aW ⟨iw,⟨aw,au⟩,bz⟩)=-1:=by unfold szR aW;simp only[];split<;>omega
  (refine aD ?_;repeat' (refine aC ?_ ?_<;>intro _<;>try simp (disch:=first|assumption|omega) only[S0,rA,rQ,rB,rT,rE,Aa4,Aa5, *]))
 have e1:szR (l-((bH ⟨aw,au⟩:Nat):Int)) (szL aQ bz)=l-((bH ⟨aw,au⟩:Nat):Int)-(szL aQ bz:Nat):=if_pos c1;have d1:decide (l-((bH ⟨aw,au⟩:Nat):Int)-((szL aQ bz:Nat):Int)<0)=false:=by simp;omega
 have e:szR l (aW ⟨iw,⟨aw,au⟩,bz⟩)=l-((bH ⟨aw,au⟩:Nat):Int)-((szL aQ bz:Nat):Int):=by unfold szR aW;simp only[];split<;>omega
 (refine aD ?_;repeat' (refine aC ?_ ?_<;>intro _<;>try simp (disch:=first|assumption|omega) only[S0,rA,rQ,rB,rT,rE,Aa4,Aa5, *]))
theorem Yac (iw aw:Int)(au:(List (List dO)))(bz:(List gL))(hs:aW ⟨iw,⟨aw,au⟩,bz⟩<=1048576):Fun T 17 [i64 iw,i64 aw,rL au,rL bz]=some [i64 iw,i64 aw,rL au,rL bz]:=by
 rw[aR (t:=Hbs) rfl];unfold Hbs
 unfold aW at hs;simp only at hs;have s0:bH ⟨aw,au⟩<=1048576:=by omega
 have s1:szL aQ bz<=1048576:=by omega
 (refine aD ?_;repeat' (refine aC ?_ ?_<;>intro _<;>try simp (disch:=first|assumption|omega) only[S0,rA,rQ,rB,rT,rE,Rak,Ram, *]))
theorem Pa0 (iw aw:Int)(au:(List (List dO)))(bz:(List gL))(uh ig:Int)(fp:(List (List dO)))(kv:(List gL))(hs:aW ⟨iw,⟨aw,au⟩,bz⟩<=1099511627776):Fun T 122 [i64 iw,i64 aw,rL au,rL bz,i64 uh,i64 ig,rL fp,rL kv]=some [.bool (decide ((⟨iw,⟨aw,au⟩,bz⟩:mD)=⟨uh,⟨ig,fp⟩,kv⟩))]:=by
 rw[aR (t:=Wa4) rfl];unfold Wa4
 unfold aW at hs;simp only at hs;have s0:bH ⟨aw,au⟩<=1099511627776:=by omega
 have s1:szL aQ bz<=1099511627776:=by omega
 have e:decide ((⟨iw,⟨aw,au⟩,bz⟩:mD)=⟨uh,⟨ig,fp⟩,kv⟩)=((iw==uh)&&decide ((⟨aw,au⟩:aT)=⟨ig,fp⟩)&&decide ((bz:(List gL))=kv)):=by
  simp only[mD.mk.injEq,Pbx,Qbf,Qbt]
 rw[e]
 (refine aD ?_;repeat' (refine aC ?_ ?_<;>intro _<;>try simp (disch:=first|assumption|omega) only[S0,rA,rQ,rB,rT,rE,Rao,Rap, *]))
theorem yY (xs:(List mD))(l:Int)(h0:0<=l)(h1:l<=1048576)(hw:xs.length<=140737488351232/\∀ y0∈xs,Aao y0):Fun T 2 [rL xs,i64 l]=some [i64 (szR l (szL aW xs))]:=by
 rw[aR (t:=tm2) rfl];unfold tm2
 obtain⟨yy,po⟩:=hw;by_cases c:(xs.length:Int)<=l
 ·have d:decide (l-(xs.length:Int)<0)=false:=by simp;omega
  simp (disch:=first|assumption|omega) only[S0,rA,rQ,rB,rT,rE, *];rw[Kaa xs aW (l-xs.length) rfl (by omega) (by omega)]
  ·by_cases hd:((xs.map aW).sum:Int)<=l-xs.length
   ·have e:szR l (szL aW xs)=l-xs.length-((xs.map aW).sum:Nat):=by unfold szR;rw[show (szL aW xs)=xs.length+(xs.map aW).sum from rfl,if_pos (by omega)];omega
    rw[decide_eq_true hd]
    (refine aD ?_;repeat' (refine aC ?_ ?_<;>intro _<;>try simp (disch:=first|assumption|omega) only[S0,rA,rQ,rB,rT,rE, *]))
   ·have e:szR l (szL aW xs)=-1:=by unfold szR;rw[show (szL aW xs)=xs.length+(xs.map aW).sum from rfl,if_neg (by omega)]
    rw[decide_eq_false hd]
    (refine aD ?_;repeat' (refine aC ?_ ?_<;>intro _<;>try simp (disch:=first|assumption|omega) only[S0,rA,rQ,rB,rT,rE, *]))
  ·intro i m hi hb hl hm ni hf hr hd
   have hq:=po _ (at_mem hi)
   (refine aD ?_;repeat' (refine aC ?_ ?_<;>intro _<;>try simp (disch:=first|assumption|omega) only[S0,rA,rQ,rB,rT,rE,aU,Paw, *]))
  ·intro i m hi hb hl hm ni hf hr hd
   have hq:=po _ (at_mem hi)
   (refine aD ?_;repeat' (refine aC ?_ ?_<;>intro _<;>try simp (disch:=first|assumption|omega) only[S0,rA,rQ,rB,rT,rE,aU,Paw, *]))
  ·intro m hl
   (refine aD ?_;repeat' (refine aC ?_ ?_<;>intro _<;>try simp (disch:=first|assumption|omega) only[S0,rA,rQ,rB,rT,rE, *]))
 ·have e:szR l (szL aW xs)=-1:=by unfold szR;rw[show (szL aW xs)=xs.length+(xs.map aW).sum from rfl,if_neg (by omega)]
  have d:decide (l-(xs.length:Int)<0)=true:=by simp;omega
  (refine aD ?_;repeat' (refine aC ?_ ?_<;>intro _<;>try simp (disch:=first|assumption|omega) only[S0,rA,rQ,rB,rT,rE, *]))
theorem Uac (xs:(List mD))(hs:szL aW xs<=1048576):Fun T 16 [rL xs]=some [rL xs]:=by
 rw[aR (t:=Hbt) rfl];unfold Hbt
 have hl:xs.length<=1048576:=Pbl gB hs;simp (disch:=first|assumption|omega) only[S0,rA,rQ,rB,rT,rE,wU,Pbt, *];rw[Dar xs rfl]
 ·(refine aD ?_;repeat' (refine aC ?_ ?_<;>intro _<;>try simp (disch:=first|assumption|omega) only[S0,rA,rQ,rB,rT,rE, *]))
 ·intro i ys hi hb cF eW
  have hq:aW (atI xs i)<=1048576:=by
   have:=fT (f:=aW) (at_mem hi);omega
  (refine aD ?_;repeat' (refine aC ?_ ?_<;>intro _<;>try simp (disch:=first|assumption|omega) only[S0,rA,rQ,rB,rT,rE,aU,Jaq,Yac, *]))
 ·intro ys eW
  (refine aD ?_;repeat' (refine aC ?_ ?_<;>intro _<;>try simp (disch:=first|assumption|omega) only[S0,rA,rQ,rB,rT,rE, *]))
theorem Uai (xs ys:(List mD))(hs:szL aW xs<=1099511627776):Fun T 121 [rL xs,rL ys]=some [.bool (decide (xs=ys))]:=by
 rw[aR (t:=Wa5) rfl];unfold Wa5
 have hx:xs.length<=1099511627776:=Pbl gB hs;by_cases hl:ys.length=xs.length
 ·simp (disch:=first|assumption|omega) only[S0,rA,rQ,rB,rT,rE, *]
  rw[Ead 1 xs.length (fun i=>decide (atI xs i=atI ys i)) [.bool false],qY hl.symm]
  ·(refine aD ?_;repeat' (refine aC ?_ ?_<;>intro _<;>try simp (disch:=first|assumption|omega) only[S0,rA,rQ,rB,rT,rE, *]))
  ·intro i hi hp
   have hb:InB xs (i:Int):=aP.2 hi;have cF:InB ys (i:Int):=aP.2 (by omega);have h2:decide ((i:Int)<xs.length)=true:=by simp;omega
   have hq:aW (atI xs i)<=1099511627776:=by
    have:=fT (f:=aW) (at_mem hi);omega
   (refine aD ?_;repeat' (refine aC ?_ ?_<;>intro _<;>try simp (disch:=first|assumption|omega) only[S0,rA,rQ,rB,rT,rE,aU,Pa0, *]))
  ·intro i hi hp
   have hb:InB xs (i:Int):=aP.2 hi;have cF:InB ys (i:Int):=aP.2 (by omega);have h2:decide ((i:Int)<xs.length)=true:=by simp;omega
   have hq:aW (atI xs i)<=1099511627776:=by
    have:=fT (f:=aW) (at_mem hi);omega
   (refine aD ?_;repeat' (refine aC ?_ ?_<;>intro _<;>try simp (disch:=first|assumption|omega) only[S0,rA,rQ,rB,rT,rE,aU,Pa0, *]))
  ·have h2:decide ((xs.length:Int)<xs.length)=false:=by simp
   (refine aD ?_;repeat' (refine aC ?_ ?_<;>intro _<;>try simp (disch:=first|assumption|omega) only[S0,rA,rQ,rB,rT,rE, *]))
 ·have eW:((xs.length:Int)==(ys.length:Int))=false:=by simp;omega
  have e:=zX (fun h=>hl h.symm)
  (refine aD ?_;repeat' (refine aC ?_ ?_<;>intro _<;>try simp (disch:=first|assumption|omega) only[S0,rA,rQ,rB,rT,rE, *]))
theorem Pay (ct ep dv bt cJ aq bw bh ae ao ak aj ah ab:Int)(aa:(List Int))(l:Int)(h0:0<=l)(h1:l<=1048576)(hw:Aap ⟨ct,ep,dv,bt,cJ,aq,bw,bh,⟨ae,ao,ak,aj,ah⟩,⟨ab,aa⟩⟩):Fun T 13 [i64 ct,i64 ep,i64 dv,i64 bt,i64 cJ,i64 aq,i64 bw,i64 bh,i64 ae,i64 ao,i64 ak,i64 aj,i64 ah,i64 ab,rL aa,i64 l]=some [i64 (szR l (bA ⟨ct,ep,dv,bt,cJ,aq,bw,bh,⟨ae,ao,ak,aj,ah⟩,⟨ab,aa⟩⟩))]:=by
 rw[aR (t:=Hbw) rfl];unfold Hbw
 unfold Aap at hw;simp only at hw;have w0:=hw;by_cases c0:((aK ⟨ab,aa⟩:Nat):Int)<=l
 rotate_left
 ·have e0:szR (l) (aK ⟨ab,aa⟩)=-1:=if_neg c0
  have d0:decide ((-1:Int)<0)=true:=rfl;have e:szR l (bA ⟨ct,ep,dv,bt,cJ,aq,bw,bh,⟨ae,ao,ak,aj,ah⟩,⟨ab,aa⟩⟩)=-1:=by unfold szR bA;simp only[];split<;>omega
  (refine aD ?_;repeat' (refine aC ?_ ?_<;>intro _<;>try simp (disch:=first|assumption|omega) only[S0,rA,rQ,rB,rT,rE,fG, *]))
 have e0:szR (l) (aK ⟨ab,aa⟩)=l-(aK ⟨ab,aa⟩:Nat):=if_pos c0;have d0:decide (l-((aK ⟨ab,aa⟩:Nat):Int)<0)=false:=by simp;omega
 have e:szR l (bA ⟨ct,ep,dv,bt,cJ,aq,bw,bh,⟨ae,ao,ak,aj,ah⟩,⟨ab,aa⟩⟩)=l-((aK ⟨ab,aa⟩:Nat):Int):=by unfold szR bA;simp only[];split<;>omega
 (refine aD ?_;repeat' (refine aC ?_ ?_<;>intro _<;>try simp (disch:=first|assumption|omega) only[S0,rA,rQ,rB,rT,rE,fG, *]))
theorem Yae (ct ep dv bt cJ aq bw bh ae ao ak aj ah ab:Int)(aa:(List Int))(hs:bA ⟨ct,ep,dv,bt,cJ,aq,bw,bh,⟨ae,ao,ak,aj,ah⟩,⟨ab,aa⟩⟩<=1048576):Fun T 28 [i64 ct,i64 ep,i64 dv,i64 bt,i64 cJ,i64 aq,i64 bw,i64 bh,i64 ae,i64 ao,i64 ak,i64 aj,i64 ah,i64 ab,rL aa]=some [i64 ct,i64 ep,i64 dv,i64 bt,i64 cJ,i64 aq,i64 bw,i64 bh,i64 ae,i64 ao,i64 ak,i64 aj,i64 ah,i64 ab,rL aa]:=by
 rw[aR (t:=Hbh) rfl];unfold Hbh
 unfold bA at hs;simp only at hs;have s0:aK ⟨ab,aa⟩<=1048576:=by omega
 (refine aD ?_;repeat' (refine aC ?_ ?_<;>intro _<;>try simp (disch:=first|assumption|omega) only[S0,rA,rQ,rB,rT,rE,Daa,Eao, *]))
theorem Pa1 (ct ep dv bt cJ aq bw bh ae ao ak aj ah ab:Int)(aa:(List Int))(gw ji jj gj jr cE gy fm bg b3 bn bm bo b4:Int)(bq:(List Int))(hs:bA ⟨ct,ep,dv,bt,cJ,aq,bw,bh,⟨ae,ao,ak,aj,ah⟩,⟨ab,aa⟩⟩<=1099511627776):Fun T 133 [i64 ct,i64 ep,i64 dv,i64 bt,i64 cJ,i64 aq,i64 bw,i64 bh,i64 ae,i64 ao,i64 ak,i64 aj,i64 ah,i64 ab,rL aa,i64 gw,i64 ji,i64 jj,i64 gj,i64 jr,i64 cE,i64 gy,i64 fm,i64 bg,i64 b3,i64 bn,i64 bm,i64 bo,i64 b4,rL bq]=some [.bool (decide ((⟨ct,ep,dv,bt,cJ,aq,bw,bh,⟨ae,ao,ak,aj,ah⟩,⟨ab,aa⟩⟩:nD)=⟨gw,ji,jj,gj,jr,cE,gy,fm,⟨bg,b3,bn,bm,bo⟩,⟨b4,bq⟩⟩))]:=by
 rw[aR (t:=Was) rfl];unfold Was
 unfold bA at hs;simp only at hs;have s0:aK ⟨ab,aa⟩<=1099511627776:=by omega
 have e:decide ((⟨ct,ep,dv,bt,cJ,aq,bw,bh,⟨ae,ao,ak,aj,ah⟩,⟨ab,aa⟩⟩:nD)=⟨gw,ji,jj,gj,jr,cE,gy,fm,⟨bg,b3,bn,bm,bo⟩,⟨b4,bq⟩⟩)=((ct==gw)&&(ep==ji)&&(dv==jj)&&(bt==gj)&&(cJ==jr)&&(aq==cE)&&(bw==gy)&&(bh==fm)&&decide ((⟨ae,ao,ak,aj,ah⟩:Cak)=⟨bg,b3,bn,bm,bo⟩)&&decide ((⟨ab,aa⟩:eU)=⟨b4,bq⟩)):=by
  simp only[nD.mk.injEq,Pbx,Qbf,Qbt]
 rw[e]
 (refine aD ?_;repeat' (refine aC ?_ ?_<;>intro _<;>try simp (disch:=first|assumption|omega) only[S0,rA,rQ,rB,rT,rE,Dac,Eas, *]))
theorem yZ (xs:(List nD))(l:Int)(h0:0<=l)(h1:l<=1048576)(hw:xs.length<=140737488351232/\∀ y0∈xs,Aap y0):Fun T 12 [rL xs,i64 l]=some [i64 (szR l (szL bA xs))]:=by
 rw[aR (t:=Hbx) rfl];unfold Hbx
 obtain⟨yy,po⟩:=hw;by_cases c:(xs.length:Int)<=l
 ·have d:decide (l-(xs.length:Int)<0)=false:=by simp;omega
  simp (disch:=first|assumption|omega) only[S0,rA,rQ,rB,rT,rE, *];rw[Kaa xs bA (l-xs.length) rfl (by omega) (by omega)]
  ·by_cases hd:((xs.map bA).sum:Int)<=l-xs.length
   ·have e:szR l (szL bA xs)=l-xs.length-((xs.map bA).sum:Nat):=by unfold szR;rw[show (szL bA xs)=xs.length+(xs.map bA).sum from rfl,if_pos (by omega)];omega
    rw[decide_eq_true hd]
    (refine aD ?_;repeat' (refine aC ?_ ?_<;>intro _<;>try simp (disch:=first|assumption|omega) only[S0,rA,rQ,rB,rT,rE, *]))
   ·have e:szR l (szL bA xs)=-1:=by unfold szR;rw[show (szL bA xs)=xs.length+(xs.map bA).sum from rfl,if_neg (by omega)]
    rw[decide_eq_false hd]
    (refine aD ?_;repeat' (refine aC ?_ ?_<;>intro _<;>try simp (disch:=first|assumption|omega) only[S0,rA,rQ,rB,rT,rE, *]))
  ·intro i m hi hb hl hm ni hf hr hd
   have hq:=po _ (at_mem hi)
   (refine aD ?_;repeat' (refine aC ?_ ?_<;>intro _<;>try simp (disch:=first|assumption|omega) only[S0,rA,rQ,rB,rT,rE,aU,Pay, *]))
  ·intro i m hi hb hl hm ni hf hr hd
   have hq:=po _ (at_mem hi)
   (refine aD ?_;repeat' (refine aC ?_ ?_<;>intro _<;>try simp (disch:=first|assumption|omega) only[S0,rA,rQ,rB,rT,rE,aU,Pay, *]))
  ·intro m hl
   (refine aD ?_;repeat' (refine aC ?_ ?_<;>intro _<;>try simp (disch:=first|assumption|omega) only[S0,rA,rQ,rB,rT,rE, *]))
 ·have e:szR l (szL bA xs)=-1:=by unfold szR;rw[show (szL bA xs)=xs.length+(xs.map bA).sum from rfl,if_neg (by omega)]
  have d:decide (l-(xs.length:Int)<0)=true:=by simp;omega
  (refine aD ?_;repeat' (refine aC ?_ ?_<;>intro _<;>try simp (disch:=first|assumption|omega) only[S0,rA,rQ,rB,rT,rE, *]))
theorem Uad (xs:(List nD))(hs:szL bA xs<=1048576):Fun T 27 [rL xs]=some [rL xs]:=by
 rw[aR (t:=Hbi) rfl];unfold Hbi
 have hl:xs.length<=1048576:=Pbl gB hs;simp (disch:=first|assumption|omega) only[S0,rA,rQ,rB,rT,rE,wU,Pbt, *];rw[Dar xs rfl]
 ·(refine aD ?_;repeat' (refine aC ?_ ?_<;>intro _<;>try simp (disch:=first|assumption|omega) only[S0,rA,rQ,rB,rT,rE, *]))
 ·intro i ys hi hb cF eW
  have hq:bA (atI xs i)<=1048576:=by
   have:=fT (f:=bA) (at_mem hi);omega
  (refine aD ?_;repeat' (refine aC ?_ ?_<;>intro _<;>try simp (disch:=first|assumption|omega) only[S0,rA,rQ,rB,rT,rE,aU,Jaq,Yae, *]))
 ·intro ys eW
  (refine aD ?_;repeat' (refine aC ?_ ?_<;>intro _<;>try simp (disch:=first|assumption|omega) only[S0,rA,rQ,rB,rT,rE, *]))
theorem Uaj (xs ys:(List nD))(hs:szL bA xs<=1099511627776):Fun T 132 [rL xs,rL ys]=some [.bool (decide (xs=ys))]:=by
 rw[aR (t:=Wat) rfl];unfold Wat
 have hx:xs.length<=1099511627776:=Pbl gB hs;by_cases hl:ys.length=xs.length
 ·simp (disch:=first|assumption|omega) only[S0,rA,rQ,rB,rT,rE, *]
  rw[Ead 1 xs.length (fun i=>decide (atI xs i=atI ys i)) [.bool false],qY hl.symm]
  ·(refine aD ?_;repeat' (refine aC ?_ ?_<;>intro _<;>try simp (disch:=first|assumption|omega) only[S0,rA,rQ,rB,rT,rE, *]))
  ·intro i hi hp
   have hb:InB xs (i:Int):=aP.2 hi;have cF:InB ys (i:Int):=aP.2 (by omega);have h2:decide ((i:Int)<xs.length)=true:=by simp;omega
   have hq:bA (atI xs i)<=1099511627776:=by
    have:=fT (f:=bA) (at_mem hi);omega
   (refine aD ?_;repeat' (refine aC ?_ ?_<;>intro _<;>try simp (disch:=first|assumption|omega) only[S0,rA,rQ,rB,rT,rE,aU,Pa1, *]))
  ·intro i hi hp
   have hb:InB xs (i:Int):=aP.2 hi;have cF:InB ys (i:Int):=aP.2 (by omega);have h2:decide ((i:Int)<xs.length)=true:=by simp;omega
   have hq:bA (atI xs i)<=1099511627776:=by
    have:=fT (f:=bA) (at_mem hi);omega
   (refine aD ?_;repeat' (refine aC ?_ ?_<;>intro _<;>try simp (disch:=first|assumption|omega) only[S0,rA,rQ,rB,rT,rE,aU,Pa1, *]))
  ·have h2:decide ((xs.length:Int)<xs.length)=false:=by simp
   (refine aD ?_;repeat' (refine aC ?_ ?_<;>intro _<;>try simp (disch:=first|assumption|omega) only[S0,rA,rQ,rB,rT,rE, *]))
 ·have eW:((xs.length:Int)==(ys.length:Int))=false:=by simp;omega
  have e:=zX (fun h=>hl h.symm)
  (refine aD ?_;repeat' (refine aC ?_ ?_<;>intro _<;>try simp (disch:=first|assumption|omega) only[S0,rA,rQ,rB,rT,rE, *]))
theorem Ral (bt cJ ae ao ak aj ah:Int):Fun T 30 [i64 bt,i64 cJ,i64 ae,i64 ao,i64 ak,i64 aj,i64 ah]=some [i64 bt,i64 cJ,i64 ae,i64 ao,i64 ak,i64 aj,i64 ah]:=by
 rw[aR (t:=Hbf) rfl];unfold Hbf
 (refine aD ?_;repeat' (refine aC ?_ ?_<;>intro _<;>try simp (disch:=first|assumption|omega) only[S0,rA,rQ,rB,rT,rE,Daa, *]))
theorem Hah (bt cJ ae ao ak aj ah:Int)(gj jr bg b3 bn bm bo:Int):Fun T 135 [i64 bt,i64 cJ,i64 ae,i64 ao,i64 ak,i64 aj,i64 ah,i64 gj,i64 jr,i64 bg,i64 b3,i64 bn,i64 bm,i64 bo]=some [.bool (decide ((⟨bt,cJ,⟨ae,ao,ak,aj,ah⟩⟩:bW)=⟨gj,jr,⟨bg,b3,bn,bm,bo⟩⟩))]:=by
 rw[aR (t:=Waq) rfl];unfold Waq
 have e:decide ((⟨bt,cJ,⟨ae,ao,ak,aj,ah⟩⟩:bW)=⟨gj,jr,⟨bg,b3,bn,bm,bo⟩⟩)=((bt==gj)&&(cJ==jr)&&decide ((⟨ae,ao,ak,aj,ah⟩:Cak)=⟨bg,b3,bn,bm,bo⟩)):=by
  simp only[bW.mk.injEq,Pbx,Qbf,Qbt]
 rw[e]
 (refine aD ?_;repeat' (refine aC ?_ ?_<;>intro _<;>try simp (disch:=first|assumption|omega) only[S0,rA,rQ,rB,rT,rE,Dac, *]))
theorem qG (xs:(List bW))(l:Int)(h0:0<=l)(h1:l<=1048576)(hw:xs.length<=140737488351232):Fun T 14 [rL xs,i64 l]=some [i64 (szR l (szL (fun _=>0) xs))]:=by
 rw[aR (t:=Hbv) rfl];unfold Hbv
 have es:szL (fun _=>0) xs=xs.length:=dF;rw[es];by_cases c:(xs.length:Int)<=l
 ·have e:szR l xs.length=l-xs.length:=if_pos c
  have d:decide (l-(xs.length:Int)<0)=false:=by simp;omega
  (refine aD ?_;repeat' (refine aC ?_ ?_<;>intro _<;>try simp (disch:=first|assumption|omega) only[S0,rA,rQ,rB,rT,rE, *]))
 ·have e:szR l xs.length=-1:=if_neg c
  have d:decide (l-(xs.length:Int)<0)=true:=by simp;omega
  (refine aD ?_;repeat' (refine aC ?_ ?_<;>intro _<;>try simp (disch:=first|assumption|omega) only[S0,rA,rQ,rB,rT,rE, *]))
theorem Na7 (xs:(List bW))(hs:szL (fun _=>0) xs<=1048576):Fun T 29 [rL xs]=some [rL xs]:=by
 rw[aR (t:=Hbg) rfl];unfold Hbg
 have hl:xs.length<=1048576:=Pbl gB hs;simp (disch:=first|assumption|omega) only[S0,rA,rQ,rB,rT,rE,wU,Pbt, *];rw[Dar xs rfl]
 ·(refine aD ?_;repeat' (refine aC ?_ ?_<;>intro _<;>try simp (disch:=first|assumption|omega) only[S0,rA,rQ,rB,rT,rE, *]))
 ·intro i ys hi hb cF eW
  (refine aD ?_;repeat' (refine aC ?_ ?_<;>intro _<;>try simp (disch:=first|assumption|omega) only[S0,rA,rQ,rB,rT,rE,aU,Jaq,Ral, *]))
 ·intro ys eW
  (refine aD ?_;repeat' (refine aC ?_ ?_<;>intro _<;>try simp (disch:=first|assumption|omega) only[S0,rA,rQ,rB,rT,rE, *]))
theorem Oab (xs ys:(List bW))(hs:szL (fun _=>0) xs<=1099511627776):Fun T 134 [rL xs,rL ys]=some [.bool (decide (xs=ys))]:=by
 rw[aR (t:=War) rfl];unfold War
 have hx:xs.length<=1099511627776:=Pbl gB hs;by_cases hl:ys.length=xs.length
 ·simp (disch:=first|assumption|omega) only[S0,rA,rQ,rB,rT,rE, *]
  rw[Ead 1 xs.length (fun i=>decide (atI xs i=atI ys i)) [.bool false],qY hl.symm]
  ·(refine aD ?_;repeat' (refine aC ?_ ?_<;>intro _<;>try simp (disch:=first|assumption|omega) only[S0,rA,rQ,rB,rT,rE, *]))
  ·intro i hi hp
   have hb:InB xs (i:Int):=aP.2 hi;have cF:InB ys (i:Int):=aP.2 (by omega);have h2:decide ((i:Int)<xs.length)=true:=by simp;omega
   (refine aD ?_;repeat' (refine aC ?_ ?_<;>intro _<;>try simp (disch:=first|assumption|omega) only[S0,rA,rQ,rB,rT,rE,aU,Hah, *]))
  ·intro i hi hp
   have hb:InB xs (i:Int):=aP.2 hi;have cF:InB ys (i:Int):=aP.2 (by omega);have h2:decide ((i:Int)<xs.length)=true:=by simp;omega
   (refine aD ?_;repeat' (refine aC ?_ ?_<;>intro _<;>try simp (disch:=first|assumption|omega) only[S0,rA,rQ,rB,rT,rE,aU,Hah, *]))
  ·have h2:decide ((xs.length:Int)<xs.length)=false:=by simp
   (refine aD ?_;repeat' (refine aC ?_ ?_<;>intro _<;>try simp (disch:=first|assumption|omega) only[S0,rA,rQ,rB,rT,rE, *]))
 ·have eW:((xs.length:Int)==(ys.length:Int))=false:=by simp;omega
  have e:=zX (fun h=>hl h.symm)
  (refine aD ?_;repeat' (refine aC ?_ ?_<;>intro _<;>try simp (disch:=first|assumption|omega) only[S0,rA,rQ,rB,rT,rE, *]))
theorem Pax (az:(List mD))(bl:(List nD))(av:(List bW))(l:Int)(h0:0<=l)(h1:l<=1048576)(hw:Ha4 ⟨az,bl,av⟩):Fun T 1 [rL az,rL bl,rL av,i64 l]=some [i64 (szR l (fQ ⟨az,bl,av⟩))]:=by
 rw[aR (t:=tm1) rfl];unfold tm1
 unfold Ha4 at hw;simp only at hw;obtain⟨w0,w1,w2⟩:=hw;by_cases c0:((szL aW az:Nat):Int)<=l
 rotate_left
 ·have e0:szR (l) (szL aW az)=-1:=if_neg c0
  have d0:decide ((-1:Int)<0)=true:=rfl;have e:szR l (fQ ⟨az,bl,av⟩)=-1:=by unfold szR fQ;simp only[];split<;>omega
  (refine aD ?_;repeat' (refine aC ?_ ?_<;>intro _<;>try simp (disch:=first|assumption|omega) only[S0,rA,rQ,rB,rT,rE,yY,yZ,qG, *]))
 have e0:szR (l) (szL aW az)=l-(szL aW az:Nat):=if_pos c0;have d0:decide (l-((szL aW az:Nat):Int)<0)=false:=by simp;omega
 by_cases c1:((szL bA bl:Nat):Int)<=l-((szL aW az:Nat):Int)
 rotate_left
 ·have e1:szR (l-((szL aW az:Nat):Int)) (szL bA bl)=-1:=if_neg c1
  have d1:decide ((-1:Int)<0)=true:=rfl;have e:szR l (fQ ⟨az,bl,av⟩)=-1:=by unfold szR fQ;simp only[];split<;>omega
  (refine aD ?_;repeat' (refine aC ?_ ?_<;>intro _<;>try simp (disch:=first|assumption|omega) only[S0,rA,rQ,rB,rT,rE,yY,yZ,qG, *]))
 have e1:szR (l-((szL aW az:Nat):Int)) (szL bA bl)=l-((szL aW az:Nat):Int)-(szL bA bl:Nat):=if_pos c1;have d1:decide (l-((szL aW az:Nat):Int)-((szL bA bl:Nat):Int)<0)=false:=by simp;omega
 by_cases c2:((szL (fun _=>0) av:Nat):Int)<=l-((szL aW az:Nat):Int)-((szL bA bl:Nat):Int)
 rotate_left
 ·have e2:szR (l-((szL aW az:Nat):Int)-((szL bA bl:Nat):Int)) (szL (fun _=>0) av)=-1:=if_neg c2
  have d2:decide ((-1:Int)<0)=true:=rfl;have e:szR l (fQ ⟨az,bl,av⟩)=-1:=by unfold szR fQ;simp only[];split<;>omega
  (refine aD ?_;repeat' (refine aC ?_ ?_<;>intro _<;>try simp (disch:=first|assumption|omega) only[S0,rA,rQ,rB,rT,rE,yY,yZ,qG, *]))
 have e2:szR (l-((szL aW az:Nat):Int)-((szL bA bl:Nat):Int)) (szL (fun _=>0) av)=l-((szL aW az:Nat):Int)-((szL bA bl:Nat):Int)-(szL (fun _=>0) av:Nat):=if_pos c2;have d2:decide (l-((szL aW az:Nat):Int)-((szL bA bl:Nat):Int)-((szL (fun _=>0) av:Nat):Int)<0)=false:=by simp;omega
 have e:szR l (fQ ⟨az,bl,av⟩)=l-((szL aW az:Nat):Int)-((szL bA bl:Nat):Int)-((szL (fun _=>0) av:Nat):Int):=by unfold szR fQ;simp only[];split<;>omega
 (refine aD ?_;repeat' (refine aC ?_ ?_<;>intro _<;>try simp (disch:=first|assumption|omega) only[S0,rA,rQ,rB,rT,rE,yY,yZ,qG, *]))
theorem Yad (az:(List mD))(bl:(List nD))(av:(List bW))(hs:fQ ⟨az,bl,av⟩<=1048576):Fun T 15 [rL az,rL bl,rL av]=some [rL az,rL bl,rL av]:=by
 rw[aR (t:=Hbu) rfl];unfold Hbu
 unfold fQ at hs;simp only at hs;have s0:szL aW az<=1048576:=by omega
 have s1:szL bA bl<=1048576:=by omega
 have s2:szL (fun _=>0) av<=1048576:=by omega
 (refine aD ?_;repeat' (refine aC ?_ ?_<;>intro _<;>try simp (disch:=first|assumption|omega) only[S0,rA,rQ,rB,rT,rE,Uac,Uad,Na7, *]))
theorem Yag (az:(List mD))(bl:(List nD))(av:(List bW))(mi:(List mD))(pH:(List nD))(kq:(List bW))(hs:fQ ⟨az,bl,av⟩<=1099511627776):Fun T 120 [rL az,rL bl,rL av,rL mi,rL pH,rL kq]=some [.bool (decide ((⟨az,bl,av⟩:Bam)=⟨mi,pH,kq⟩))]:=by
 rw[aR (t:=Wa6) rfl];unfold Wa6
 unfold fQ at hs;simp only at hs;have s0:szL aW az<=1099511627776:=by omega
 have s1:szL bA bl<=1099511627776:=by omega
 have s2:szL (fun _=>0) av<=1099511627776:=by omega
 have e:decide ((⟨az,bl,av⟩:Bam)=⟨mi,pH,kq⟩)=(decide ((az:(List mD))=mi)&&decide ((bl:(List nD))=pH)&&decide ((av:(List bW))=kq)):=by
  simp only[Bam.mk.injEq,Pbx,Qbf,Qbt]
 rw[e]
 (refine aD ?_;repeat' (refine aC ?_ ?_<;>intro _<;>try simp (disch:=first|assumption|omega) only[S0,rA,rQ,rB,rT,rE,Uai,Uaj,Oab, *]))
theorem bM (x lo up:Int):Fun T 66 [i64 x,i64 lo,i64 up]=some [.bool (inR x lo up)]:=by
 rw[aR (t:=Gbf) rfl];unfold Gbf;unfold inR
 (refine aD ?_;repeat' (refine aC ?_ ?_<;>intro _<;>try simp (disch:=first|assumption|omega) only[S0,rA,rQ,rB,rT,rE, *]))
theorem bY (x lo up:Int):Fun T 36 [i64 x,i64 lo,i64 up]=some [.bool (inR x lo up)]:=by
 rw[aR (t:=Gb9) rfl];unfold Gb9;unfold inR
 (refine aD ?_;repeat' (refine aC ?_ ?_<;>intro _<;>try simp (disch:=first|assumption|omega) only[S0,rA,rQ,rB,rT,rE, *]))
theorem gT (n:Int):Fun T 61 [i64 n]=some [.bool (eB n)]:=by
 rw[aR (t:=Gbk) rfl];unfold Gbk;unfold eB
 (refine aD ?_;repeat' (refine aC ?_ ?_<;>intro _<;>try simp (disch:=first|assumption|omega) only[S0,rA,rQ,rB,rT,rE, *]))
theorem fD (n:Int):Fun T 33 [i64 n]=some [.bool (eB n)]:=by
 rw[aR (t:=Hbc) rfl];unfold Hbc;unfold eB
 (refine aD ?_;repeat' (refine aC ?_ ?_<;>intro _<;>try simp (disch:=first|assumption|omega) only[S0,rA,rQ,rB,rT,rE, *]))
theorem Gad (n:Int):Fun T 73 [i64 n]=some [.bool (inR n 0 3)]:=by
 rw[aR (t:=Fb9) rfl];unfold Fb9
 (refine aD ?_;repeat' (refine aC ?_ ?_<;>intro _<;>try simp (disch:=first|assumption|omega) only[S0,rA,rQ,rB,rT,rE,bM, *]))
theorem Fa4 (n:Int):Fun T 39 [i64 n]=some [.bool (inR n 0 3)]:=by
 rw[aR (t:=Gb6) rfl];unfold Gb6
 (refine aD ?_;repeat' (refine aC ?_ ?_<;>intro _<;>try simp (disch:=first|assumption|omega) only[S0,rA,rQ,rB,rT,rE,bY, *]))
theorem Nai (k i f t a:Int):Fun T 38 [i64 k,i64 i,i64 f,i64 t,i64 a]=some [i64 (Jak ⟨k,i,f,t,a⟩)]:=by
 rw[aR (t:=Gb7) rfl];unfold Gb7;unfold Jak
 (refine aD ?_;repeat' (refine aC ?_ ?_<;>intro _<;>try simp (disch:=first|assumption|omega) only[S0,rA,rQ,rB,rT,rE,Fa4,bY, *]))
theorem fE (k i f t a:Int):Fun T 37 [i64 k,i64 i,i64 f,i64 t,i64 a]=some [.bool (Baf ⟨k,i,f,t,a⟩)]:=by
 rw[aR (t:=Gb8) rfl];unfold Gb8;unfold Baf
 (refine aD ?_;repeat' (refine aC ?_ ?_<;>intro _<;>try simp (disch:=first|assumption|omega) only[S0,rA,rQ,rB,rT,rE,Nai,Ban,Zab, *]))
 all_goals (refine Daf ?_;simp only[Obh,Pbo,Ob6,Bool.not_eq_false',Rba,Rbe,Obp,beq_iff_eq,beq_eq_false_iff_ne,decide_eq_true_eq,decide_eq_false_iff_not,ne_eq]at *;grind)
theorem eH (k i f t a:Int):Fun T 72 [i64 k,i64 i,i64 f,i64 t,i64 a]=some [.bool (Baf ⟨k,i,f,t,a⟩)]:=by
 rw[aR (t:=Gba) rfl];unfold Gba;unfold Baf
 (refine aD ?_;repeat' (refine aC ?_ ?_<;>intro _<;>try simp (disch:=first|assumption|omega) only[S0,rA,rQ,rB,rT,rE,bM,Gad,Ban, *]))
theorem dQ (n rep no:Int)(hg:eB n=true):Fun T 35 [i64 n,i64 rep,i64 no]=some [.bool (inst n rep no)]:=by
 rw[aR (t:=Hba) rfl];unfold Hba;unfold inst
 have hn:=bL hg
 (refine aD ?_;repeat' (refine aC ?_ ?_<;>intro _<;>try simp (disch:=first|assumption|omega) only[S0,rA,rQ,rB,rT,rE,bY, *]))
theorem bE (n rep no:Int):Fun T 67 [i64 n,i64 rep,i64 no]=some [.bool (eB n&&inst n rep no)]:=by
 rw[aR (t:=Gbe) rfl];unfold Gbe;unfold inst
 cases hg:eB n
 ·(refine aD ?_;repeat' (refine aC ?_ ?_<;>intro _<;>try simp (disch:=first|assumption|omega) only[S0,rA,rQ,rB,rT,rE,gT, *]))
 have hn:=bL hg
 (refine aD ?_;repeat' (refine aC ?_ ?_<;>intro _<;>try simp (disch:=first|assumption|omega) only[S0,rA,rQ,rB,rT,rE,gT,bM, *]))
theorem Qa6 (xs:List Int)(lo up:Int)(hx:xs.length<=1099511627776):Fun T 47 [rL xs,i64 lo,i64 up]=some [.bool (xs.all fun x=>inR x lo up)]:=by
 rw[aR (t:=Gby) rfl];unfold Gby
 simp (disch:=first|assumption|omega) only[S0,rA,rQ,rB,rT,rE,aU, *];rw[Mbf 1 xs (fun x=>inR x lo up) [.bool false]]
 ·(refine aD ?_;repeat' (refine aC ?_ ?_<;>intro _<;>try simp (disch:=first|assumption|omega) only[S0,rA,rQ,rB,rT,rE, *]))
 ·intro i hi hb hl hp
  (refine aD ?_;repeat' (refine aC ?_ ?_<;>intro _<;>try simp (disch:=first|assumption|omega) only[S0,rA,rQ,rB,rT,rE,aU,bY, *]))
 ·intro i hi hb hl hp
  (refine aD ?_;repeat' (refine aC ?_ ?_<;>intro _<;>try simp (disch:=first|assumption|omega) only[S0,rA,rQ,rB,rT,rE,aU,bY, *]))
 ·intro hl
  (refine aD ?_;repeat' (refine aC ?_ ?_<;>intro _<;>try simp (disch:=first|assumption|omega) only[S0,rA,rQ,rB,rT,rE, *]))
theorem mH (n s:Int)(xs:List Int)(hx:xs.length<=1099511627776):Fun T 46 [i64 n,i64 s,rL xs]=some [.bool (iR n ⟨s,xs⟩)]:=by
 rw[aR (t:=Gbz) rfl];unfold Gbz;unfold iR
 (refine aD ?_;repeat' (refine aC ?_ ?_<;>intro _<;>try simp (disch:=first|assumption|omega) only[S0,rA,rQ,rB,rT,rE,bY,Qa6, *]))
theorem tZ (x:Int):Fun T 77 [i64 x]=some [.bool (!inR x 0 6)]:=by
 rw[aR (t:=Fb5) rfl];unfold Fb5
 (refine aD ?_;repeat' (refine aC ?_ ?_<;>intro _<;>try simp (disch:=first|assumption|omega) only[S0,rA,rQ,rB,rT,rE,bM, *]))
theorem Ia6  (xs:List Int)(hx:xs.length<=1099511627776):Fun T 76 [rL xs]=some [i64 (ixF (fun x=>!inR x 0 6) xs)]:=by
 rw[aR (t:=Fb6) rfl];unfold Fb6
 simp (disch:=first|assumption|omega) only[S0,rA,rQ,rB,rT,rE,aU, *];rw[Ea9 1 xs (fun x=>!inR x 0 6) (fun i=>[i64 i])]
 ·cases h:xs.any (fun x=>!inR x 0 6)
  ·have e:ixF (fun x=>!inR x 0 6) xs=-1:=by
    have h2:=eP (fun x=>!inR x 0 6) xs;rw[h]at h2;unfold ixF at h2 ⊢;split at h2<;>simp_all
   rw[e];simp (disch:=first|assumption|omega) only[S0,rA,rQ,rB,rT,rE]
  ·simp (disch:=first|assumption|omega) only[S0,rA,rQ,rB,rT,rE]
 ·intro i hi hb hl hp
  (refine aD ?_;repeat' (refine aC ?_ ?_<;>intro _<;>try simp (disch:=first|assumption|omega) only[S0,rA,rQ,rB,rT,rE,aU,tZ, *]))
 ·intro i hi hb hl hp
  (refine aD ?_;repeat' (refine aC ?_ ?_<;>intro _<;>try simp (disch:=first|assumption|omega) only[S0,rA,rQ,rB,rT,rE,aU,tZ, *]))
 ·intro hl
  (refine aD ?_;repeat' (refine aC ?_ ?_<;>intro _<;>try simp (disch:=first|assumption|omega) only[S0,rA,rQ,rB,rT,rE, *]))
theorem Jag  (xs:List Int)(hx:xs.length<=1099511627776):Fun T 75 [rL xs]=some [.bool (xs.any (fun x=>!inR x 0 6))]:=by
 rw[aR (t:=Fb7) rfl];unfold Fb7
 (refine aD ?_;repeat' (refine aC ?_ ?_<;>intro _<;>try simp (disch:=first|assumption|omega) only[S0,rA,rQ,rB,rT,rE,Ia6,eP, *]))
theorem kE (n s:Int)(xs:List Int)(hx:xs.length<=1099511627776):Fun T 74 [i64 n,i64 s,rL xs]=some [.bool (eB n&&iR n ⟨s,xs⟩)]:=by
 rw[aR (t:=Fb8) rfl];unfold Fb8;unfold iR
 have e:xs.any (fun x=>!inR x 0 6)=!xs.all fun x=>inR x 0 6:=by rw[Pb8]
 (refine aD ?_;repeat' (refine aC ?_ ?_<;>intro _<;>try simp (disch:=first|assumption|omega) only[S0,rA,rQ,rB,rT,rE,gT,bM,Jag,e,Bool.not_not, *]))
theorem Naj (xs ys:List Int)(hx:xs.length<=1099511627776):Fun T 45 [rL xs,rL ys]=some [.bool (decide (xs=ys))]:=by
 rw[aR (t:=Gb0) rfl];unfold Gb0
 by_cases hl:ys.length=xs.length
 ·simp (disch:=first|assumption|omega) only[S0,rA,rQ,rB,rT,rE, *]
  rw[Ead 1 xs.length (fun i=>decide (atI xs i=atI ys i)) [.bool false],qY hl.symm]
  ·(refine aD ?_;repeat' (refine aC ?_ ?_<;>intro _<;>try simp (disch:=first|assumption|omega) only[S0,rA,rQ,rB,rT,rE, *]))
  ·intro i hi hp
   have hb:InB xs (i:Int):=aP.2 hi;have cF:InB ys (i:Int):=aP.2 (by omega);have h2:decide ((i:Int)<xs.length)=true:=by simp;omega
   have h3:(atI xs i==atI ys i)=true:=by simpa using hp
   (refine aD ?_;repeat' (refine aC ?_ ?_<;>intro _<;>try simp (disch:=first|assumption|omega) only[S0,rA,rQ,rB,rT,rE,aU, *]))
  ·intro i hi hp
   have hb:InB xs (i:Int):=aP.2 hi;have cF:InB ys (i:Int):=aP.2 (by omega);have h2:decide ((i:Int)<xs.length)=true:=by simp;omega
   have h3:(atI xs i==atI ys i)=false:=by simpa using hp
   (refine aD ?_;repeat' (refine aC ?_ ?_<;>intro _<;>try simp (disch:=first|assumption|omega) only[S0,rA,rQ,rB,rT,rE,aU, *]))
  ·have h2:decide ((xs.length:Int)<xs.length)=false:=by simp
   (refine aD ?_;repeat' (refine aC ?_ ?_<;>intro _<;>try simp (disch:=first|assumption|omega) only[S0,rA,rQ,rB,rT,rE, *]))
 ·have eW:((xs.length:Int)==(ys.length:Int))=false:=by simp;omega
  have e:=zX (fun h=>hl h.symm)
  (refine aD ?_;repeat' (refine aC ?_ ?_<;>intro _<;>try simp (disch:=first|assumption|omega) only[S0,rA,rQ,rB,rT,rE, *]))
theorem slices_Equal_int (xs ys:List Int)(hx:xs.length<=1099511627776):Fun T 80 [rL xs,rL ys]=some [.bool (decide (xs=ys))]:=by
 rw[aR (t:=Fb2) rfl];unfold Fb2
 by_cases hl:ys.length=xs.length
 ·simp (disch:=first|assumption|omega) only[S0,rA,rQ,rB,rT,rE, *]
  rw[Ead 1 xs.length (fun i=>decide (atI xs i=atI ys i)) [.bool false],qY hl.symm]
  ·(refine aD ?_;repeat' (refine aC ?_ ?_<;>intro _<;>try simp (disch:=first|assumption|omega) only[S0,rA,rQ,rB,rT,rE, *]))
  ·intro i hi hp
   have hb:InB xs (i:Int):=aP.2 hi;have cF:InB ys (i:Int):=aP.2 (by omega);have h2:decide ((i:Int)<xs.length)=true:=by simp;omega
   have h3:(atI xs i==atI ys i)=true:=by simpa using hp
   (refine aD ?_;repeat' (refine aC ?_ ?_<;>intro _<;>try simp (disch:=first|assumption|omega) only[S0,rA,rQ,rB,rT,rE,aU, *]))
  ·intro i hi hp
   have hb:InB xs (i:Int):=aP.2 hi;have cF:InB ys (i:Int):=aP.2 (by omega);have h2:decide ((i:Int)<xs.length)=true:=by simp;omega
   have h3:(atI xs i==atI ys i)=false:=by simpa using hp
   (refine aD ?_;repeat' (refine aC ?_ ?_<;>intro _<;>try simp (disch:=first|assumption|omega) only[S0,rA,rQ,rB,rT,rE,aU, *]))
  ·have h2:decide ((xs.length:Int)<xs.length)=false:=by simp
   (refine aD ?_;repeat' (refine aC ?_ ?_<;>intro _<;>try simp (disch:=first|assumption|omega) only[S0,rA,rQ,rB,rT,rE, *]))
 ·have eW:((xs.length:Int)==(ys.length:Int))=false:=by simp;omega
  have e:=zX (fun h=>hl h.symm)
  (refine aD ?_;repeat' (refine aC ?_ ?_<;>intro _<;>try simp (disch:=first|assumption|omega) only[S0,rA,rQ,rB,rT,rE, *]))
theorem lM (s s':Int)(xs ys:List Int)(hx:xs.length<=1099511627776):Fun T 44 [i64 s,rL xs,i64 s',rL ys]=some [.bool (decide ((⟨s,xs⟩:eU)=⟨s',ys⟩))]:=by
 rw[aR (t:=Gb1) rfl];unfold Gb1
 have e:decide ((⟨s,xs⟩:eU)=⟨s',ys⟩)=(s==s'&&decide (xs=ys)):=by simp[eU.mk.injEq,Pbx]
 (refine aD ?_;repeat' (refine aC ?_ ?_<;>intro _<;>try simp (disch:=first|assumption|omega) only[S0,rA,rQ,rB,rT,rE,Naj,e, *]))
theorem fJ (s s':Int)(xs ys:List Int)(hx:xs.length<=1099511627776):Fun T 79 [i64 s,rL xs,i64 s',rL ys]=some [.bool (decide ((⟨s,xs⟩:eU)=⟨s',ys⟩))]:=by
 rw[aR (t:=Fb3) rfl];unfold Fb3
 have e:decide ((⟨s,xs⟩:eU)=⟨s',ys⟩)=(s==s'&&decide (xs=ys)):=by simp[eU.mk.injEq,Pbx]
 (refine aD ?_;repeat' (refine aC ?_ ?_<;>intro _<;>try simp (disch:=first|assumption|omega) only[S0,rA,rQ,rB,rT,rE,slices_Equal_int,e, *]))
theorem pU (n:Int)(hg:eB n=true):Fun T 43 [i64 n]=some [i64 (none0 n).seq,rL (none0 n).deps]:=by
 rw[aR (t:=Gb2) rfl];unfold Gb2;unfold none0
 have hn:=bL hg
 (refine aD ?_;repeat' (refine aC ?_ ?_<;>intro _<;>try simp (disch:=first|assumption|omega) only[S0,rA,rQ,rB,rT,rE,wU, *]))
theorem eD (n:Int)(hg:eB n=true):Fun T 78 [i64 n]=some [i64 (none0 n).seq,rL (none0 n).deps]:=by
 rw[aR (t:=Fb4) rfl];unfold Fb4;unfold none0
 have hn:=bL hg
 (refine aD ?_;repeat' (refine aC ?_ ?_<;>intro _<;>try simp (disch:=first|assumption|omega) only[S0,rA,rQ,rB,rT,rE,wU, *]))
theorem uY (n bal zk sta k i f t a sq:Int)(xs:List Int)(hg:eB n=true)(hx:xs.length<=1099511627776) :
  Fun T 42 [i64 n,i64 bal,i64 zk,i64 sta,i64 k,i64 i,i64 f,i64 t,i64 a,i64 sq,rL xs]=some [.bool (rowOk n ⟨bal,zk,sta,⟨k,i,f,t,a⟩,⟨sq,xs⟩⟩)]:=by
 rw[aR (t:=Gb3) rfl];unfold Gb3;unfold rowOk
 (refine aD ?_;repeat' (refine aC ?_ ?_<;>intro _<;>try simp (disch:=first|assumption|omega) only[S0,rA,rQ,rB,rT,rE,bY,Ban,pU,lM,fE,mH, *]))
theorem tV (n bal zk sta k i f t a sq:Int)(xs:List Int)(hg:eB n=true)(hx:xs.length<=1099511627776) :
  Fun T 71 [i64 n,i64 bal,i64 zk,i64 sta,i64 k,i64 i,i64 f,i64 t,i64 a,i64 sq,rL xs]=some [.bool (rowOk n ⟨bal,zk,sta,⟨k,i,f,t,a⟩,⟨sq,xs⟩⟩)]:=by
 rw[aR (t:=Gbb) rfl];unfold Gbb;unfold rowOk
 have h1:=@Bb2 ⟨k,i,f,t,a⟩;have h2:=Ias hg;have h3:decide ((⟨sq,xs⟩:eU)=none0 n)=true->iR n ⟨sq,xs⟩=true:=fun h=>by rw[of_decide_eq_true h];exact h2
 (refine aD ?_;repeat' (refine aC ?_ ?_<;>intro _<;>try simp (disch:=first|assumption|omega) only[S0,rA,rQ,rB,rT,rE,bM,Ban,eD,fJ,eH,kE, *]))
 all_goals (refine Daf ?_;simp only[Obh,Pbo,Ob6,Bool.not_eq_false',Rba,Rbe,Obp,beq_iff_eq,beq_eq_false_iff_ne,decide_eq_true_eq,decide_eq_false_iff_not,ne_eq]at *;grind)
theorem slices_Clone_int (xs:List Int)(hx:xs.length<=10000000000):Fun T 70 [rL xs]=some [rL xs]:=by
 rw[Wag (e:=Mbd) rfl]
 cases xs with
 |nil=>rfl
 | cons x xs =>
  show Fun (Mae [(70,.tm Cbt)]) 70 [rL (x::xs)]=_
  rw[aR (t:=Cbt) rfl];unfold Cbt;have rk:(x::xs).length<=100000000000:=by omega
  have h0:(aY.mk 1 0).run []=some [.rows 1 []]:=rfl;have h1:(x::xs).isEmpty=false:=rfl;simp (disch:=first|assumption|omega) only[SA,SB,SC,SP,SQ,SZ,reduceIte,reduceCtorEq,Nat.reduceAdd,Nat.reduceEqDiff,Ibw,Ebi,h0,h1,Wac]
theorem rV (s:Int)(xs:List Int)(hx:xs.length<=10000000000):Fun T 69 [i64 s,rL xs]=some [i64 s,rL xs]:=by
 rw[aR (t:=Gbc) rfl];unfold Gbc
 (refine aD ?_;repeat' (refine aC ?_ ?_<;>intro _<;>try simp (disch:=first|assumption|omega) only[S0,rA,rQ,rB,rT,rE,slices_Clone_int, *]))
theorem Las (eK iy iz iS lO ee fW eE cq et cV cQ cT cm:Int)(bd:(List Int))(hx:bd.length<=10000000000):Fun T 68 [i64 eK,i64 iy,i64 iz,i64 iS,i64 lO,i64 ee,i64 fW,i64 eE,i64 cq,i64 et,i64 cV,i64 cQ,i64 cT,i64 cm,rL bd]=some [i64 ee,i64 fW,i64 eE,i64 cq,i64 et,i64 cV,i64 cQ,i64 cT,i64 cm,rL bd]:=by
 rw[aR (t:=Gbd) rfl];unfold Gbd
 (refine aD ?_;repeat' (refine aC ?_ ?_<;>intro _<;>try simp (disch:=first|assumption|omega) only[S0,rA,rQ,rB,rT,rE,rV, *]))
theorem Kai (n:Int)(eK iy iz iS lO ee fW eE cq et cV cQ cT cm:Int)(bd:(List Int))(hx:bd.length<=10000000000):Fun T 51 [i64 n,i64 eK,i64 iy,i64 iz,i64 iS,i64 lO,i64 ee,i64 fW,i64 eE,i64 cq,i64 et,i64 cV,i64 cQ,i64 cT,i64 cm,rL bd]=some [.bool (vW n ⟨eK,iy,iz,iS,lO,ee,fW,eE,⟨cq,et,cV,cQ,cT⟩,⟨cm,bd⟩⟩)]:=by
 rw[aR (t:=Gbu) rfl];unfold Gbu;unfold vW
 have rk:bd.length<=1099511627776:=by omega
 cases hg:eB n
 ·(refine aD ?_;repeat' (refine aC ?_ ?_<;>intro _<;>try simp (disch:=first|assumption|omega) only[S0,rA,rQ,rB,rT,rE,fD, *]))
 have hn:=bL hg
 (refine aD ?_;repeat' (refine aC ?_ ?_<;>intro _<;>try simp (disch:=first|assumption|omega) only[S0,rA,rQ,rB,rT,rE,fD,bY,dQ,uY,mH,fE,Ban,pU,lM, *]))
 all_goals (refine Daf ?_;simp only[Obh,Pbo,Ob6,Bool.not_eq_false',Rba,Rbe,Obp,beq_iff_eq,beq_eq_false_iff_ne,decide_eq_true_eq,decide_eq_false_iff_not,ne_eq]at *;grind)
theorem Lat (n:Int)(eK iy iz iS lO ee fW eE cq et cV cQ cT cm:Int)(bd:(List Int))(hx:bd.length<=10000000000):Fun T 65 [i64 n,i64 eK,i64 iy,i64 iz,i64 iS,i64 lO,i64 ee,i64 fW,i64 eE,i64 cq,i64 et,i64 cV,i64 cQ,i64 cT,i64 cm,rL bd]=some [.bool (vW n ⟨eK,iy,iz,iS,lO,ee,fW,eE,⟨cq,et,cV,cQ,cT⟩,⟨cm,bd⟩⟩)]:=by
 rw[aR (t:=Gbg) rfl];unfold Gbg;unfold vW
 have rk:bd.length<=1099511627776:=by omega
 cases hg:eB n
 ·(refine aD ?_;repeat' (refine aC ?_ ?_<;>intro _<;>try simp (disch:=first|assumption|omega) only[S0,rA,rQ,rB,rT,rE,bE,bM, *]))
 have hn:=bL hg;have hk:inR eK 1 7=true->1<=eK/\eK<=7:=by simp[inR]
 (refine aD ?_;repeat' (refine aC ?_ ?_<;>intro _<;>try simp (disch:=first|assumption|omega) only[S0,rA,rQ,rB,rT,rE,bE,bM,Las,tV,kE,eH,Ban,eD,fJ, *]))
 all_goals (refine Daf ?_;simp only[Obh,Pbo,Ob6,Bool.not_eq_false',Rba,Rbe,Obp,beq_iff_eq,beq_eq_false_iff_ne,decide_eq_true_eq,decide_eq_false_iff_not,ne_eq]at *;grind)
theorem nV (n:Int)(rows:List (List dO))(hs:Eab rows):Fun T 41 [i64 n,rL rows]=some [.bool (fP ⟨n,rows⟩)]:=by
 rw[aR (t:=Gb4) rfl];unfold Gb4;unfold fP
 obtain⟨nk,lz⟩:=hs;cases hg:eB n
 ·(refine aD ?_;repeat' (refine aC ?_ ?_<;>intro _<;>try simp (disch:=first|assumption|omega) only[S0,rA,rQ,rB,rT,rE,fD, *]))
 cases hl:(rows.length:Int)==n
 ·(refine aD ?_;repeat' (refine aC ?_ ?_<;>intro _<;>try simp (disch:=first|assumption|omega) only[S0,rA,rQ,rB,rT,rE,fD, *]))
 simp (disch:=first|assumption|omega) only[S0,rA,rQ,rB,rT,rE,fD, *];rw[Eb2 1 rows (fun l=>l.all (fun r=>rowOk n r)&&decide ((l.length:Int)<=6)) [.bool false]]
 ·(refine aD ?_;repeat' (refine aC ?_ ?_<;>intro _<;>try simp (disch:=first|assumption|omega) only[S0,rA,rQ,rB,rT,rE, *]))
 ·intro i hi hb ar hm
  obtain⟨mm,l8⟩:=lz _ hm;simp (disch:=first|assumption|omega) only[S0,rA,rQ,rB,rT,rE,aU, *];rw[Eb2 3 (atI rows i) (fun r=>rowOk n r) [.bool false]]
  ·have e:decide (6<((atI rows (i:Int)).length:Int))=!decide (((atI rows (i:Int)).length:Int)<=6):=by
    by_cases h:((atI rows (i:Int)).length:Int)<=6
    ·simp[h]
    ·simp[h];omega
   (refine aD ?_;repeat' (refine aC ?_ ?_<;>intro _<;>try simp (disch:=first|assumption|omega) only[S0,rA,rQ,rB,rT,rE,e, *]))
  ·intro j hj lp kz yc
   have hq3:=l8 _ yc;have hq4:(atI (atI rows (i:Int)) (j:Int)).attr.deps.length<=1099511627776:=by omega
   (refine aD ?_;repeat' (refine aC ?_ ?_<;>intro _<;>try simp (disch:=first|assumption|omega) only[S0,rA,rQ,rB,rT,rE,aU,uY, *]))
  ·intro ln
   (refine aD ?_;repeat' (refine aC ?_ ?_<;>intro _<;>try simp (disch:=first|assumption|omega) only[S0,rA,rQ,rB,rT,rE, *]))
 ·intro ln
  (refine aD ?_;repeat' (refine aC ?_ ?_<;>intro _<;>try simp (disch:=first|assumption|omega) only[S0,rA,rQ,rB,rT,rE, *]))
theorem nN (du fN e9 cz dz cN cS cW cw:Int)(bk:(List Int))(n:Int)(rows:List (List dO))(hg:eB n=true)(hx:bk.length<=1099511627776):Fun T 88 [i64 du,i64 fN,i64 e9,i64 cz,i64 dz,i64 cN,i64 cS,i64 cW,i64 cw,rL bk,i64 n,rL rows]=some [.bool (!rowOk n ⟨du,fN,e9,⟨cz,dz,cN,cS,cW⟩,⟨cw,bk⟩⟩)]:=by
 rw[aR (t:=Fbu) rfl];unfold Fbu
 (refine aD ?_;repeat' (refine aC ?_ ?_<;>intro _<;>try simp (disch:=first|assumption|omega) only[S0,rA,rQ,rB,rT,rE,tV, *]))
theorem Car (n:Int)(rows:List (List dO))(hg:eB n=true)(xs:List dO)(hx:xs.length<=1099511627776)(hq:∀ x∈xs,x.attr.deps.length<=1099511627776):Fun T 87 [rL xs,i64 n,rL rows]=some [i64 (ixF (fun r=>!rowOk n r) xs)]:=by
 rw[aR (t:=Fbv) rfl];unfold Fbv
 simp (disch:=first|assumption|omega) only[S0,rA,rQ,rB,rT,rE,aU, *];rw[Ea9 1 xs (fun r=>!rowOk n r) (fun i=>[i64 i])]
 ·cases h:xs.any (fun r=>!rowOk n r)
  ·have e:ixF (fun r=>!rowOk n r) xs=-1:=by
    have h2:=eP (fun r=>!rowOk n r) xs;rw[h]at h2;unfold ixF at h2 ⊢;split at h2<;>simp_all
   rw[e];simp (disch:=first|assumption|omega) only[S0,rA,rQ,rB,rT,rE]
  ·simp (disch:=first|assumption|omega) only[S0,rA,rQ,rB,rT,rE]
 ·intro i hi hb hl hp
  have je:=hq _ (at_mem hi)
  try simp only at je hp
  (refine aD ?_;repeat' (refine aC ?_ ?_<;>intro _<;>try simp (disch:=first|assumption|omega) only[S0,rA,rQ,rB,rT,rE,aU,nN, *]))
 ·intro i hi hb hl hp
  have je:=hq _ (at_mem hi)
  try simp only at je hp
  (refine aD ?_;repeat' (refine aC ?_ ?_<;>intro _<;>try simp (disch:=first|assumption|omega) only[S0,rA,rQ,rB,rT,rE,aU,nN, *]))
 ·intro hl
  (refine aD ?_;repeat' (refine aC ?_ ?_<;>intro _<;>try simp (disch:=first|assumption|omega) only[S0,rA,rQ,rB,rT,rE, *]))
theorem Cay (n:Int)(rows:List (List dO))(hg:eB n=true)(xs:List dO)(hx:xs.length<=1099511627776)(hq:∀ x∈xs,x.attr.deps.length<=1099511627776):Fun T 86 [rL xs,i64 n,rL rows]=some [.bool (xs.any (fun r=>!rowOk n r))]:=by
 rw[aR (t:=Fbw) rfl];unfold Fbw
 (refine aD ?_;repeat' (refine aC ?_ ?_<;>intro _<;>try simp (disch:=first|assumption|omega) only[S0,rA,rQ,rB,rT,rE,Car,eP, *]))
theorem rU (l:List dO)(n:Int)(rows:List (List dO))(hg:eB n=true)(hx:l.length<=1099511627776)(hq:∀ x∈l,x.attr.deps.length<=1099511627776):Fun T 85 [rL l,i64 n,rL rows]=some [.bool (decide (6<(l.length:Int))||l.any fun r=>!rowOk n r)]:=by
 rw[aR (t:=Fbx) rfl];unfold Fbx
 (refine aD ?_;repeat' (refine aC ?_ ?_<;>intro _<;>try simp (disch:=first|assumption|omega) only[S0,rA,rQ,rB,rT,rE,Cay, *]))
theorem Gab (n:Int)(rows:List (List dO))(hg:eB n=true)(xs:List (List dO))(hx:xs.length<=1099511627776)(hq:∀ x∈xs,x.length<=1099511627776/\∀ y∈x,y.attr.deps.length<=1099511627776):Fun T 84 [rL xs,i64 n,rL rows]=some [i64 (ixF (fun l=>decide (6<(l.length:Int))||l.any fun r=>!rowOk n r) xs)]:=by
 rw[aR (t:=Fby) rfl];unfold Fby
 simp (disch:=first|assumption|omega) only[S0,rA,rQ,rB,rT,rE,aU, *];rw[Ea9 1 xs (fun l=>decide (6<(l.length:Int))||l.any fun r=>!rowOk n r) (fun i=>[i64 i])]
 ·cases h:xs.any (fun l=>decide (6<(l.length:Int))||l.any fun r=>!rowOk n r)
  ·have e:ixF (fun l=>decide (6<(l.length:Int))||l.any fun r=>!rowOk n r) xs=-1:=by
    have h2:=eP (fun l=>decide (6<(l.length:Int))||l.any fun r=>!rowOk n r) xs;rw[h]at h2;unfold ixF at h2 ⊢;split at h2<;>simp_all
   rw[e];simp (disch:=first|assumption|omega) only[S0,rA,rQ,rB,rT,rE]
  ·simp (disch:=first|assumption|omega) only[S0,rA,rQ,rB,rT,rE]
 ·intro i hi hb hl hp
  have je:=hq _ (at_mem hi)
  try simp only at je hp
  obtain⟨mm,l8⟩:=je
  (refine aD ?_;repeat' (refine aC ?_ ?_<;>intro _<;>try simp (disch:=first|assumption|omega) only[S0,rA,rQ,rB,rT,rE,aU,rU, *]))
 ·intro i hi hb hl hp
  have je:=hq _ (at_mem hi)
  try simp only at je hp
  obtain⟨mm,l8⟩:=je
  (refine aD ?_;repeat' (refine aC ?_ ?_<;>intro _<;>try simp (disch:=first|assumption|omega) only[S0,rA,rQ,rB,rT,rE,aU,rU, *]))
 ·intro hl
  (refine aD ?_;repeat' (refine aC ?_ ?_<;>intro _<;>try simp (disch:=first|assumption|omega) only[S0,rA,rQ,rB,rT,rE, *]))
theorem Gah (n:Int)(rows:List (List dO))(hg:eB n=true)(xs:List (List dO))(hx:xs.length<=1099511627776)(hq:∀ x∈xs,x.length<=1099511627776/\∀ y∈x,y.attr.deps.length<=1099511627776):Fun T 83 [rL xs,i64 n,rL rows]=some [.bool (xs.any (fun l=>decide (6<(l.length:Int))||l.any fun r=>!rowOk n r))]:=by
 rw[aR (t:=Fbz) rfl];unfold Fbz
 (refine aD ?_;repeat' (refine aC ?_ ?_<;>intro _<;>try simp (disch:=first|assumption|omega) only[S0,rA,rQ,rB,rT,rE,Gab,eP, *]))
theorem oC (n:Int)(rows:List (List dO))(hs:Eab rows):Fun T 82 [i64 n,rL rows]=some [.bool (fP ⟨n,rows⟩)]:=by
 rw[aR (t:=Fb0) rfl];unfold Fb0;unfold fP
 obtain⟨nk,lz⟩:=hs;have hs3:∀ x∈rows,x.length<=1099511627776/\∀ y∈x,y.attr.deps.length<=1099511627776:=fun x hx=>⟨by have:=(lz x hx).1;omega,fun y hy=>by have:=(lz x hx).2 y hy;omega⟩
 have e:(rows.any fun l=>decide (6<(l.length:Int))||l.any fun r=>!rowOk n r)=!rows.all fun l=>l.all (fun r=>rowOk n r)&&decide ((l.length:Int)<=6):=by
  rw[Pb8];congr 1;funext l;rw[<- Pb8,Bool.not_and,Bool.or_comm];congr 1;by_cases h:(l.length:Int)<=6
  ·simp[h]
  ·simp[h];omega
 (refine aD ?_;repeat' (refine aC ?_ ?_<;>intro _<;>try simp (disch:=first|assumption|omega) only[S0,rA,rQ,rB,rT,rE,gT,Gah,e,Bool.not_not, *]))
theorem Qa5 (xs:List Int)(hx:xs.length<=10000000000):Fun T 57 [rL xs]=some [rL xs]:=by
 rw[aR (t:=Gbo) rfl];unfold Gbo
 have h0:(aY.mk 1 0).run []=some [.rows 1 []]:=rfl
 (refine aD ?_;repeat' (refine aC ?_ ?_<;>intro _<;>try simp (disch:=first|assumption|omega) only[S0,rA,rQ,rB,rT,rE,h0,Wac, *]))
theorem Fa3 (s:Int)(xs:List Int)(hx:xs.length<=10000000000):Fun T 56 [i64 s,rL xs]=some [i64 s,rL xs]:=by
 rw[aR (t:=Gbp) rfl];unfold Gbp
 (refine aD ?_;repeat' (refine aC ?_ ?_<;>intro _<;>try simp (disch:=first|assumption|omega) only[S0,rA,rQ,rB,rT,rE,Qa5, *]))
theorem Iaf (du fN e9 cz dz cN cS cW cw:Int)(bk:(List Int))(hx:bk.length<=10000000000):Fun T 55 [i64 du,i64 fN,i64 e9,i64 cz,i64 dz,i64 cN,i64 cS,i64 cW,i64 cw,rL bk]=some [i64 du,i64 fN,i64 e9,i64 cz,i64 dz,i64 cN,i64 cS,i64 cW,i64 cw,rL bk]:=by
 rw[aR (t:=Gbq) rfl];unfold Gbq
 (refine aD ?_;repeat' (refine aC ?_ ?_<;>intro _<;>try simp (disch:=first|assumption|omega) only[S0,rA,rQ,rB,rT,rE,Fa3, *]))
theorem Ea0 (du fN e9 cz dz cN cS cW cw:Int)(bk:(List Int))(hx:bk.length<=10000000000):Fun T 114 [i64 du,i64 fN,i64 e9,i64 cz,i64 dz,i64 cN,i64 cS,i64 cW,i64 cw,rL bk]=some [i64 du,i64 fN,i64 e9,i64 cz,i64 dz,i64 cN,i64 cS,i64 cW,i64 cw,rL bk]:=by
 rw[aR (t:=Xab) rfl];unfold Xab
 (refine aD ?_;repeat' (refine aC ?_ ?_<;>intro _<;>try simp (disch:=first|assumption|omega) only[S0,rA,rQ,rB,rT,rE,rV, *]))
theorem Tab (n:Int)(rows:List (List dO))(rep no:Int)(hg:eB n=true)(hs:Eab rows)(hb:InB rows rep)(h1:1<=no)(h2:no<=1000):Fun T 54 [i64 n,rL rows,i64 rep,i64 no]=some [i64 (jI ⟨n,rows⟩ rep no).ballot,i64 (jI ⟨n,rows⟩ rep no).vote,i64 (jI ⟨n,rows⟩ rep no).state,i64 (jI ⟨n,rows⟩ rep no).cmd.kind,i64 (jI ⟨n,rows⟩ rep no).cmd.id,i64 (jI ⟨n,rows⟩ rep no).cmd.src,i64 (jI ⟨n,rows⟩ rep no).cmd.dst,i64 (jI ⟨n,rows⟩ rep no).cmd.amt,i64 (jI ⟨n,rows⟩ rep no).attr.seq,rL (jI ⟨n,rows⟩ rep no).attr.deps]:=by
 rw[aR (t:=Gbr) rfl];unfold Gbr;unfold jI row0
 have hq:=hs.2 _ (jL hb);by_cases h:no<=(atI rows rep).length
 ·have h3:decide (((atI rows rep).length:Int)<no)=false:=by simp;omega
  have lp:InB (atI rows rep) (no-1):=by unfold InB;omega
  have l8:=hq.2 _ (jL lp)
  (refine aD ?_;repeat' (refine aC ?_ ?_<;>intro _<;>try simp (disch:=first|assumption|omega) only[S0,rA,rQ,rB,rT,rE,aU,Iaf, *]))
 ·have h3:decide (((atI rows rep).length:Int)<no)=true:=by simp;omega
  (refine aD ?_;repeat' (refine aC ?_ ?_<;>intro _<;>try simp (disch:=first|assumption|omega) only[S0,rA,rQ,rB,rT,rE,aU,pU, *]))
theorem Gae (n:Int)(rows:List (List dO))(rep no:Int)(hg:eB n=true)(hs:Eab rows)(hb:InB rows rep)(h1:1<=no)(h2:no<=1000):Fun T 113 [i64 n,rL rows,i64 rep,i64 no]=some [i64 (jI ⟨n,rows⟩ rep no).ballot,i64 (jI ⟨n,rows⟩ rep no).vote,i64 (jI ⟨n,rows⟩ rep no).state,i64 (jI ⟨n,rows⟩ rep no).cmd.kind,i64 (jI ⟨n,rows⟩ rep no).cmd.id,i64 (jI ⟨n,rows⟩ rep no).cmd.src,i64 (jI ⟨n,rows⟩ rep no).cmd.dst,i64 (jI ⟨n,rows⟩ rep no).cmd.amt,i64 (jI ⟨n,rows⟩ rep no).attr.seq,rL (jI ⟨n,rows⟩ rep no).attr.deps]:=by
 rw[aR (t:=Xac) rfl];unfold Xac;unfold jI row0
 have hq:=hs.2 _ (jL hb);by_cases h:no<=(atI rows rep).length
 ·have h3:decide (no<=((atI rows rep).length:Int))=true:=by simp;omega
  have lp:InB (atI rows rep) (no-1):=by unfold InB;omega
  have l8:=hq.2 _ (jL lp)
  (refine aD ?_;repeat' (refine aC ?_ ?_<;>intro _<;>try simp (disch:=first|assumption|omega) only[S0,rA,rQ,rB,rT,rE,aU,Ea0, *]))
 ·have h3:decide (no<=((atI rows rep).length:Int))=false:=by simp;omega
  (refine aD ?_;repeat' (refine aC ?_ ?_<;>intro _<;>try simp (disch:=first|assumption|omega) only[S0,rA,rQ,rB,rT,rE,aU,eD, *]))
theorem uZ (xs:List Int)(n:Int)(hx:xs.length<=1099511627776):Fun T 50 [rL xs,i64 n]=some [.bool (Pa6 xs n)]:=by
 rw[aR (t:=Gbv) rfl];unfold Gbv;unfold Pa6
 simp (disch:=first|assumption|omega) only[S0,rA,rQ,rB,rT,rE];rw[Ea9 1 xs (fun x=>x==n) (fun _=>[.bool true])]
 ·(refine aD ?_;repeat' (refine aC ?_ ?_<;>intro _<;>try simp (disch:=first|assumption|omega) only[S0,rA,rQ,rB,rT,rE, *]))
 ·intro i hi hb hl hp
  (refine aD ?_;repeat' (refine aC ?_ ?_<;>intro _<;>try simp (disch:=first|assumption|omega) only[S0,rA,rQ,rB,rT,rE,aU, *]))
 ·intro i hi hb hl hp
  (refine aD ?_;repeat' (refine aC ?_ ?_<;>intro _<;>try simp (disch:=first|assumption|omega) only[S0,rA,rQ,rB,rT,rE,aU, *]))
 ·intro hl
  simp (disch:=first|assumption|omega) only[S0,rA,rQ,rB,rT,rE,hl]
theorem slices_Index_int (xs:List Int)(n:Int)(hx:xs.length<=1099511627776):Fun T 96 [rL xs,i64 n]=some [i64 (ixF (fun x=>n==x) xs)]:=by
 rw[aR (t:=Fbm) rfl];unfold Fbm
 simp (disch:=first|assumption|omega) only[S0,rA,rQ,rB,rT,rE];rw[Ea9 1 xs (fun x=>n==x) (fun i=>[i64 i])]
 ·cases h:xs.any (fun x=>n==x)
  ·have e:ixF (fun x=>n==x) xs=-1:=by
    have h2:=eP (fun x=>n==x) xs;rw[h]at h2;unfold ixF at h2 ⊢;split at h2<;>simp_all
   rw[e];simp (disch:=first|assumption|omega) only[S0,rA,rQ,rB,rT,rE]
  ·simp (disch:=first|assumption|omega) only[S0,rA,rQ,rB,rT,rE]
 ·intro i hi hb hl hp
  (refine aD ?_;repeat' (refine aC ?_ ?_<;>intro _<;>try simp (disch:=first|assumption|omega) only[S0,rA,rQ,rB,rT,rE,aU, *]))
 ·intro i hi hb hl hp
  (refine aD ?_;repeat' (refine aC ?_ ?_<;>intro _<;>try simp (disch:=first|assumption|omega) only[S0,rA,rQ,rB,rT,rE,aU, *]))
 ·intro hl
  simp (disch:=first|assumption|omega) only[S0,rA,rQ,rB,rT,rE,hl]
theorem slices_Contains_int (xs:List Int)(n:Int)(hx:xs.length<=1099511627776):Fun T 95 [rL xs,i64 n]=some [.bool (Pa6 xs n)]:=by
 rw[aR (t:=Fbn) rfl];unfold Fbn
 have e:Pa6 xs n=xs.any fun x=>n==x:=by
  unfold Pa6;congr 1;funext x;rw[Bool.eq_iff_iff,beq_iff_eq,beq_iff_eq];exact eq_comm
 simp (disch:=first|assumption|omega) only[S0,rA,rQ,rB,rT,rE,slices_Index_int,eP,e]
theorem Da1 (a b:Int):Fun T 53 [i64 a,i64 b]=some [i64 (max a b)]:=by
 rw[aR (t:=Gbs) rfl];unfold Gbs
 by_cases h:b<a
 ·have h2:decide (b<a)=true:=by simpa using h
  rw[Int.max_eq_left (by omega)];simp (disch:=first|assumption|omega) only[S0,rA,rQ,rB,rT,rE,h2]
 ·have h2:decide (b<a)=false:=by simpa using h
  rw[Int.max_eq_right (by omega)];simp (disch:=first|assumption|omega) only[S0,rA,rQ,rB,rT,rE,h2]
theorem nM (y x:List Int)(hx:x.length<=1099511627776):Fun T 118 [rL y,rL x]=some [.bool (decide (x=y))]:=by
 rw[aR (t:=Wa7) rfl];unfold Wa7
 simp (disch:=first|assumption|omega) only[S0,rA,rQ,rB,rT,rE,slices_Equal_int]
theorem Caq (x:List Int)(nh:x.length<=1099511627776)(xs:List (List Int))(hx:xs.length<=1099511627776):Fun T 117 [rL xs,rL x]=some [i64 (ixF (fun y=>decide (x=y)) xs)]:=by
 rw[aR (t:=Wa8) rfl];unfold Wa8
 simp (disch:=first|assumption|omega) only[S0,rA,rQ,rB,rT,rE,aU, *];rw[Ea9 1 xs (fun y=>decide (x=y)) (fun i=>[i64 i])]
 ·cases h:xs.any (fun y=>decide (x=y))
  ·have e:ixF (fun y=>decide (x=y)) xs=-1:=by
    have h2:=eP (fun y=>decide (x=y)) xs;rw[h]at h2;unfold ixF at h2 ⊢;split at h2<;>simp_all
   rw[e];simp (disch:=first|assumption|omega) only[S0,rA,rQ,rB,rT,rE]
  ·simp (disch:=first|assumption|omega) only[S0,rA,rQ,rB,rT,rE]
 ·intro i hi hb hl hp
  (refine aD ?_;repeat' (refine aC ?_ ?_<;>intro _<;>try simp (disch:=first|assumption|omega) only[S0,rA,rQ,rB,rT,rE,aU,nM, *]))
 ·intro i hi hb hl hp
  (refine aD ?_;repeat' (refine aC ?_ ?_<;>intro _<;>try simp (disch:=first|assumption|omega) only[S0,rA,rQ,rB,rT,rE,aU,nM, *]))
 ·intro hl
  (refine aD ?_;repeat' (refine aC ?_ ?_<;>intro _<;>try simp (disch:=first|assumption|omega) only[S0,rA,rQ,rB,rT,rE, *]))
theorem Cax (x:List Int)(nh:x.length<=1099511627776)(xs:List (List Int))(hx:xs.length<=1099511627776):Fun T 116 [rL xs,rL x]=some [.bool (xs.any (fun y=>decide (x=y)))]:=by
 rw[aR (t:=Wa9) rfl];unfold Wa9
 (refine aD ?_;repeat' (refine aC ?_ ?_<;>intro _<;>try simp (disch:=first|assumption|omega) only[S0,rA,rQ,rB,rT,rE,Caq,eP, *]))
theorem Cat (l:List (List Int))(x:List Int)(hl:l.length<=1099511627776)(hx:x.length<=1099511627776):Fun T 115 [rL l,rL x]=some [.bool (l.any fun y=>decide (x=y))]:=by
 rw[aR (t:=Xaa) rfl];unfold Xaa
 simp (disch:=first|assumption|omega) only[S0,rA,rQ,rB,rT,rE,Cax]
theorem Fap (a:Int):Fun T 102 [i64 a]=some [.bool false]:=by
 rw[aR (t:=Xan) rfl];unfold Xan
 simp (disch:=first|assumption|omega) only[S0,rA,rQ,rB,rT,rE]
theorem xL (a b:Int):Fun T 101 [i64 a,i64 b]=some [i64 (Bb1 a b)]:=by
 rw[aR (t:=Xao) rfl];unfold Xao;unfold Bb1
 by_cases h:a<b
 ·simp (disch:=first|assumption|omega) only[S0,rA,rQ,rB,rT,rE,Fap,h]
 ·by_cases h2:b<a
  ·simp (disch:=first|assumption|omega) only[S0,rA,rQ,rB,rT,rE,Fap,h,h2]
  ·simp (disch:=first|assumption|omega) only[S0,rA,rQ,rB,rT,rE,Fap,h,h2]
theorem yE (xs ys:List Int)(hx:xs.length<=1099511627776)(hy:ys.length<=1099511627776):Fun T 100 [rL xs,rL ys]=some [i64 (Ibc xs ys)]:=by
 rw[aR (t:=Xap) rfl];unfold Xap;unfold Ibc
 simp (disch:=first|assumption|omega) only[S0,rA,rQ,rB,rT,rE];rw[Cbz (T:=T) (match Sak xs ys with|some c=>(.ret,[i64 c])|none=>(.yield 1,[])) (fun i:Nat=>xs.length-i) (fun i=>i<=xs.length/\Sak (xs.drop i) (ys.drop i)=Sak xs ys) (fun i=>[i64 i]) 0 rfl ⟨by omega,by simp⟩ (by split<;>simp)]
 ·cases Sak xs ys with
  |some c=>simp (disch:=first|assumption|omega) only[S0,rA,rQ,rB,rT,rE]
  | none =>
   cases h:decide ((xs.length:Int)<ys.length)
   ·simp (disch:=first|assumption|omega) only[S0,rA,rQ,rB,rT,rE,h,Obp]
   ·simp (disch:=first|assumption|omega) only[S0,rA,rQ,rB,rT,rE,h]
 ·rintro i ⟨hi,he⟩
  rcases Ob2 i xs.length with ar|ma
  ·have h1:decide ((i:Int)<xs.length)=true:=by simp;omega
   have hb:InB xs (i:Int):=aP.2 ar
   rcases Ob2 i ys.length with kz|hge2
   ·have h2:decide ((ys.length:Int)<=i)=false:=by simp;omega
    have lp:InB ys (i:Int):=aP.2 kz;rw[Vax ar kz]at he;by_cases h3:atI xs (i:Int)<atI ys (i:Int)
    ·rw[if_pos h3]at he
     have e:Bb1 (atI xs (i:Int)) (atI ys (i:Int))=-1:=if_pos h3;rw[<- he];refine .inr ?_;simp (disch:=first|assumption|omega) only[S0,rA,rQ,rB,rT,rE,aU,xL,h1,h2,e]
    ·rw[if_neg h3]at he
     by_cases h4:atI ys (i:Int)<atI xs (i:Int)
     ·rw[if_pos h4]at he
      have e:Bb1 (atI xs (i:Int)) (atI ys (i:Int))=1:=by unfold Bb1;rw[if_neg h3,if_pos h4]
      rw[<- he];refine .inr ?_;simp (disch:=first|assumption|omega) only[S0,rA,rQ,rB,rT,rE,aU,xL,h1,h2,e]
     ·rw[if_neg h4]at he
      have e:Bb1 (atI xs (i:Int)) (atI ys (i:Int))=0:=by unfold Bb1;rw[if_neg h3,if_neg h4]
      refine .inl ⟨i+1,?_,⟨by omega,he⟩,by omega⟩;simp (disch:=first|assumption|omega) only[S0,rA,rQ,rB,rT,rE,aU,xL,h1,h2,e]
   ·have h2:decide ((ys.length:Int)<=i)=true:=by simp;omega
    rw[Zaa ar hge2]at he;rw[<- he];refine .inr ?_;simp (disch:=first|assumption|omega) only[S0,rA,rQ,rB,rT,rE,aU,h1,h2]
  ·have h1:decide ((i:Int)<xs.length)=false:=by simp;omega
   rw[List.drop_eq_nil_of_le ma]at he;have z6:Sak xs ys=none:=by rw[<- he];rfl
   rw[z6];refine .inr ?_;simp (disch:=first|assumption|omega) only[S0,rA,rQ,rB,rT,rE,h1]
theorem iU (xs:List Int)(lo up:Int)(hx:xs.length<=10000000000):Fun T 49 [rL xs,i64 lo,i64 up]=some [.bool (Tas xs lo up)]:=by
 rw[aR (t:=Gbw) rfl];unfold Gbw;unfold Tas
 simp (disch:=first|assumption|omega) only[S0,rA,rQ,rB,rT,rE];rw[Nas 1 xs.length (fun i=>inR (atI xs (i:Int)) lo up&&Naw xs i) [.bool false]]
 ·(refine aD ?_;repeat' (refine aC ?_ ?_<;>intro _<;>try simp (disch:=first|assumption|omega) only[S0,rA,rQ,rB,rT,rE, *]))
 ·intro i hi ar
  have hb:InB xs (i:Int):=aP.2 hi;unfold Naw;cases h1:inR (atI xs (i:Int)) lo up
  ·simp (disch:=first|assumption|omega) only[S0,rA,rQ,rB,rT,rE,aU,bY,ar,h1]
  ·cases i with
   | zero =>
    have a3y:decide ((0:Int)<xs.length)=true:=ar;have zy:InB xs 0:=hb;have b9:inR (atI xs 0) lo up=true:=h1;have d0:decide ((0:Int)<0)=false:=rfl;have d1:decide ((0:Nat)<0)=false:=rfl;simp (disch:=first|assumption|omega) only[S0,rA,rQ,rB,rT,rE,aU,bY,a3y,b9,d0,d1,Int.natCast_zero,Nat.lt_irrefl,Int.cast_ofNat_Int]
   | succ i =>
    have lp:InB xs ((i:Int)+1-1):=by unfold InB;omega
    have d1:decide ((0:Int)<(i:Int)+1)=true:=decide_eq_true (by omega);have d2:decide (0<i+1)=true:=decide_eq_true (by omega);have sY:InB xs ((i:Int)+1):=hb;have a0p:decide ((i:Int)+1<xs.length)=true:=ar;have gS:inR (atI xs ((i:Int)+1)) lo up=true:=h1;cases h2:decide (atI xs ((i:Int)+1)<=atI xs ((i:Int)+1-1))
    ·simp (disch:=first|assumption|omega) only[S0,rA,rQ,rB,rT,rE,aU,bY,a0p,gS,d1,d2,h2]
    ·simp (disch:=first|assumption|omega) only[S0,rA,rQ,rB,rT,rE,aU,bY,a0p,gS,d1,d2,h2]
 ·intro ar
  simp (disch:=first|assumption|omega) only[S0,rA,rQ,rB,rT,rE,ar]
theorem Laq (xs:List Int)(hx:xs.length<=10000000000):Fun T 91 [rL xs]=some [.bool (sF (Naw xs) xs.length)]:=by
 rw[aR (t:=Fbr) rfl];unfold Fbr
 have e:sF (Naw xs) xs.length=sF (fun i=>decide (i<1)||!decide (atI xs (i:Int)<=atI xs ((i:Int)-1))) xs.length:=by
  refine Hay fun i hi=>?_
  unfold Naw
  cases i with
  |zero=>rfl
  |succ i=>simp
 rw[e];simp (disch:=first|assumption|omega) only[S0,rA,rQ,rB,rT,rE];have h1:(D.int .i64 1)=i64 ((1:Nat):Int):=rfl;rw[h1,Ibu 1 1 xs.length (fun i=>!decide (atI xs (i:Int)<=atI xs ((i:Int)-1))) [.bool false]]
 ·(refine aD ?_;repeat' (refine aC ?_ ?_<;>intro _<;>try simp (disch:=first|assumption|omega) only[S0,rA,rQ,rB,rT,rE, *]))
 ·intro i hs hi ar
  have hb:InB xs (i:Int):=aP.2 hi;have lp:InB xs ((i:Int)-1):=by unfold InB;omega
  have hz:((0:Nat):Int)+1=1:=rfl;cases hq:decide (atI xs (i:Int)<=atI xs ((i:Int)-1))<;>simp (disch:=first|assumption|omega) only[S0,rA,rQ,rB,rT,rE,aU,ar,hz,hq]
 ·intro i hi ar
  simp (disch:=first|assumption|omega) only[S0,rA,rQ,rB,rT,rE,ar]
theorem oU (x n:Int)(hg:Ba4 n):Fun T 94 [i64 x,i64 n]=some [.bool (!inR x 0 (n-1))]:=by
 rw[aR (t:=Fbo) rfl];unfold Fbo
 unfold Ba4 at hg;simp (disch:=first|assumption|omega) only[S0,rA,rQ,rB,rT,rE,bM]
theorem Eax (n:Int)(hg:Ba4 n)(xs:List Int)(hx:xs.length<=1099511627776):Fun T 93 [rL xs,i64 n]=some [i64 (ixF (fun x=>!inR x 0 (n-1)) xs)]:=by
 rw[aR (t:=Fbp) rfl];unfold Fbp
 simp (disch:=first|assumption|omega) only[S0,rA,rQ,rB,rT,rE,aU, *];rw[Ea9 1 xs (fun x=>!inR x 0 (n-1)) (fun i=>[i64 i])]
 ·cases h:xs.any (fun x=>!inR x 0 (n-1))
  ·have e:ixF (fun x=>!inR x 0 (n-1)) xs=-1:=by
    have h2:=eP (fun x=>!inR x 0 (n-1)) xs;rw[h]at h2;unfold ixF at h2 ⊢;split at h2<;>simp_all
   rw[e];simp (disch:=first|assumption|omega) only[S0,rA,rQ,rB,rT,rE]
  ·simp (disch:=first|assumption|omega) only[S0,rA,rQ,rB,rT,rE]
 ·intro i hi hb hl hp
  (refine aD ?_;repeat' (refine aC ?_ ?_<;>intro _<;>try simp (disch:=first|assumption|omega) only[S0,rA,rQ,rB,rT,rE,aU,oU, *]))
 ·intro i hi hb hl hp
  (refine aD ?_;repeat' (refine aC ?_ ?_<;>intro _<;>try simp (disch:=first|assumption|omega) only[S0,rA,rQ,rB,rT,rE,aU,oU, *]))
 ·intro hl
  (refine aD ?_;repeat' (refine aC ?_ ?_<;>intro _<;>try simp (disch:=first|assumption|omega) only[S0,rA,rQ,rB,rT,rE, *]))
theorem Faj (n:Int)(hg:Ba4 n)(xs:List Int)(hx:xs.length<=1099511627776):Fun T 92 [rL xs,i64 n]=some [.bool (xs.any (fun x=>!inR x 0 (n-1)))]:=by
 rw[aR (t:=Fbq) rfl];unfold Fbq
 (refine aD ?_;repeat' (refine aC ?_ ?_<;>intro _<;>try simp (disch:=first|assumption|omega) only[S0,rA,rQ,rB,rT,rE,Eax,eP, *]))
theorem gJ (n:Int)(xs:List Int)(hg:Ba4 n)(hx:xs.length<=10000000000):Fun T 90 [i64 n,rL xs]=some [.bool (Tas xs 0 (n-1))]:=by
 rw[aR (t:=Fbs) rfl];unfold Fbs;unfold Tas
 have rk:xs.length<=1099511627776:=by omega
 have e:xs.any (fun x=>!inR x 0 (n-1))=!xs.all fun x=>inR x 0 (n-1):=by rw[Pb8]
 rw[Qaj,Qak xs (fun x=>inR x 0 (n-1)),Bool.and_comm];cases h:sF (Naw xs) xs.length
 ·simp (disch:=first|assumption|omega) only[S0,rA,rQ,rB,rT,rE,Laq,h]
 ·simp (disch:=first|assumption|omega) only[S0,rA,rQ,rB,rT,rE,Laq,Faj,h,e,Bool.not_not]
theorem pR (n me:Int)(jg mh eI eV cH eu de df dc bj:Int)(a8:(List Int))(bp:Int)(bb:(List Int))(gk:Bool)(gf:(List Int))(cI:(List dO))(hg:eB n=true)(hs:Pae ⟨jg,mh,eI,eV,⟨cH,eu,de,df,dc⟩,⟨bj,a8⟩,⟨bp,bb⟩,gk,gf,cI⟩):Fun T 48 [i64 n,i64 me,i64 jg,i64 mh,i64 eI,i64 eV,i64 cH,i64 eu,i64 de,i64 df,i64 dc,i64 bj,rL a8,i64 bp,rL bb,.bool gk,rL gf,rL cI]=some [.bool (Eav n me ⟨jg,mh,eI,eV,⟨cH,eu,de,df,dc⟩,⟨bj,a8⟩,⟨bp,bb⟩,gk,gf,cI⟩)]:=by
 rw[aR (t:=Gbx) rfl];unfold Gbx
 have hn:=bL hg;obtain⟨h1,h2,h3,h4,h5⟩:=hs;simp only at h1 h2 h3 h4 h5;have tw:a8.length<=1099511627776:=by omega
 have ua:bb.length<=1099511627776:=by omega
 have h3':gf.length<=1099511627776:=by omega
 have ea:decide ((⟨bj,a8⟩:eU)=none0 n)=decide ((⟨bj,a8⟩:eU)=⟨(none0 n).seq,(none0 n).deps⟩):=rfl;have eb:decide ((⟨bp,bb⟩:eU)=none0 n)=decide ((⟨bp,bb⟩:eU)=⟨(none0 n).seq,(none0 n).deps⟩):=rfl;unfold Eav;cases c1:inst n jg mh
 ·simp (disch:=first|assumption|omega) only[S0,rA,rQ,rB,rT,rE,dQ,c1]
 cases c2:inR eI 0 9999
 ·simp (disch:=first|assumption|omega) only[S0,rA,rQ,rB,rT,rE,dQ,bY,c1,c2]
 cases c3:Tas gf 0 (n-1)
 ·simp (disch:=first|assumption|omega) only[S0,rA,rQ,rB,rT,rE,dQ,bY,iU,c1,c2,c3]
 cases c4:Pa6 gf me
 ·simp (disch:=first|assumption|omega) only[S0,rA,rQ,rB,rT,rE,dQ,bY,iU,uZ,c1,c2,c3,c4]
 cases c5:iR n ⟨bj,a8⟩
 ·simp (disch:=first|assumption|omega) only[S0,rA,rQ,rB,rT,rE,dQ,bY,iU,uZ,mH,c1,c2,c3,c4,c5]
 cases c6:iR n ⟨bp,bb⟩
 ·simp (disch:=first|assumption|omega) only[S0,rA,rQ,rB,rT,rE,dQ,bY,iU,uZ,mH,c1,c2,c3,c4,c5,c6]
 simp (disch:=first|assumption|omega) only[S0,rA,rQ,rB,rT,rE,dQ,bY,iU,uZ,mH,c1,c2,c3,c4,c5,c6];rw[Eb2 1 cI (fun r=>rowOk n r&&!(r.state==3)) [.bool false]]
 ·have e0:((cI.length:Int)==0)=true->(cI.all fun r=>rowOk n r&&!(r.state==3))=true:=fun h=>by
   have:cI=[]:=List.length_eq_zero_iff.1 (by simpa using h);rw[this];rfl
  cases c7:cI.all fun r=>rowOk n r&&!(r.state==3)
  ·have e1:((cI.length:Int)==0)=false:=by
    cases h:((cI.length:Int)==0) with
    |false=>rfl
    |true=>rw[e0 h]at c7;cases c7
   rcases Ta0 eV with rfl|rfl|rfl|⟨p1,p2,p3⟩
   ·simp (disch:=first|assumption|omega) only[S0,rA,rQ,rB,rT,rE,e1]
   ·simp (disch:=first|assumption|omega) only[S0,rA,rQ,rB,rT,rE,e1]
   ·simp (disch:=first|assumption|omega) only[S0,rA,rQ,rB,rT,rE]
   ·simp (disch:=first|assumption|omega) only[S0,rA,rQ,rB,rT,rE,p1,p2,p3,Obp]
  ·clear e0
   rcases Ta0 eV with rfl|rfl|rfl|⟨p1,p2,p3⟩
   ·simp (disch:=first|assumption|omega) only[S0,rA,rQ,rB,rT,rE,fE]<;>repeat' (refine aC (fun _=>?_) (fun _=>?_)<;>try simp (disch:=first|assumption|omega) only[S0,rA,rQ,rB,rT,rE,fE, *])
   ·simp (disch:=first|assumption|omega) only[S0,rA,rQ,rB,rT,rE,fE]<;>repeat' (refine aC (fun _=>?_) (fun _=>?_)<;>try simp (disch:=first|assumption|omega) only[S0,rA,rQ,rB,rT,rE,fE,lM, *])
   ·cases k0:decide (({ kind:=cH,id:=eu,src:=de,dst:=df,amt:=dc }:Cak)={ kind:=0,id:=0,src:=0,dst:=0,amt:=0 })<;>cases k1:decide (({ seq:=bj,deps:=a8 }:eU)=eU.mk (none0 n).seq (none0 n).deps)<;>cases k2:decide (({ seq:=bp,deps:=bb }:eU)=eU.mk (none0 n).seq (none0 n).deps)
    all_goals (have k1':=ea.trans k1;have k2':=eb.trans k2;simp (disch:=first|assumption|omega) only[S0,rA,rQ,rB,rT,rE,pU,lM,Ban,k0,k1,k2,k1',k2'])
    all_goals (cases gk<;>simp (disch:=first|assumption|omega) only[S0,rA,rQ,rB,rT,rE])
   ·simp (disch:=first|assumption|omega) only[S0,rA,rQ,rB,rT,rE,p1,p2,p3,Obp]
 ·intro i hi hb ar hm
  have hq:=h5 _ hm;have je:(atI cI (i:Int)).attr.deps.length<=1099511627776:=by omega
  simp (disch:=first|assumption|omega) only[S0,rA,rQ,rB,rT,rE,aU,uY,ar]<;>repeat' (refine aC (fun _=>?_) (fun _=>?_)<;>try simp (disch:=first|assumption|omega) only[S0,rA,rQ,rB,rT,rE,aU,uY, *])
 ·intro ar
  simp (disch:=first|assumption|omega) only[S0,rA,rQ,rB,rT,rE,ar]
theorem tX (du fN e9 cz dz cN cS cW cw:Int)(bk:(List Int))(n:Int)(hg:eB n=true)(hx:bk.length<=1099511627776):Fun T 99 [i64 du,i64 fN,i64 e9,i64 cz,i64 dz,i64 cN,i64 cS,i64 cW,i64 cw,rL bk,i64 n]=some [.bool (!(rowOk n ⟨du,fN,e9,⟨cz,dz,cN,cS,cW⟩,⟨cw,bk⟩⟩&&!(e9==3)))]:=by
 rw[aR (t:=Fbj) rfl];unfold Fbj
 (refine aD ?_;repeat' (refine aC ?_ ?_<;>intro _<;>try simp (disch:=first|assumption|omega) only[S0,rA,rQ,rB,rT,rE,tV,Bool.not_not, *]))
theorem Ia5 (n:Int)(hg:eB n=true)(xs:List dO)(hx:xs.length<=1099511627776)(hq:∀ x∈xs,x.attr.deps.length<=1099511627776):Fun T 98 [rL xs,i64 n]=some [i64 (ixF (fun r=>!(rowOk n r&&!(r.state==3))) xs)]:=by
 rw[aR (t:=Fbk) rfl];unfold Fbk
 simp (disch:=first|assumption|omega) only[S0,rA,rQ,rB,rT,rE,aU, *];rw[Ea9 1 xs (fun r=>!(rowOk n r&&!(r.state==3))) (fun i=>[i64 i])]
 ·cases h:xs.any (fun r=>!(rowOk n r&&!(r.state==3)))
  ·have e:ixF (fun r=>!(rowOk n r&&!(r.state==3))) xs=-1:=by
    have h2:=eP (fun r=>!(rowOk n r&&!(r.state==3))) xs;rw[h]at h2;unfold ixF at h2 ⊢;split at h2<;>simp_all
   rw[e];simp (disch:=first|assumption|omega) only[S0,rA,rQ,rB,rT,rE]
  ·simp (disch:=first|assumption|omega) only[S0,rA,rQ,rB,rT,rE]
 ·intro i hi hb hl hp
  have je:=hq _ (at_mem hi)
  try simp only at je hp
  (refine aD ?_;repeat' (refine aC ?_ ?_<;>intro _<;>try simp (disch:=first|assumption|omega) only[S0,rA,rQ,rB,rT,rE,aU,tX, *]))
 ·intro i hi hb hl hp
  have je:=hq _ (at_mem hi)
  try simp only at je hp
  (refine aD ?_;repeat' (refine aC ?_ ?_<;>intro _<;>try simp (disch:=first|assumption|omega) only[S0,rA,rQ,rB,rT,rE,aU,tX, *]))
 ·intro hl
  (refine aD ?_;repeat' (refine aC ?_ ?_<;>intro _<;>try simp (disch:=first|assumption|omega) only[S0,rA,rQ,rB,rT,rE, *]))
theorem Jaf (n:Int)(hg:eB n=true)(xs:List dO)(hx:xs.length<=1099511627776)(hq:∀ x∈xs,x.attr.deps.length<=1099511627776):Fun T 97 [rL xs,i64 n]=some [.bool (xs.any (fun r=>!(rowOk n r&&!(r.state==3))))]:=by
 rw[aR (t:=Fbl) rfl];unfold Fbl
 (refine aD ?_;repeat' (refine aC ?_ ?_<;>intro _<;>try simp (disch:=first|assumption|omega) only[S0,rA,rQ,rB,rT,rE,Ia5,eP, *]))
theorem qH (n me:Int)(jg mh eI eV cH eu de df dc bj:Int)(a8:(List Int))(bp:Int)(bb:(List Int))(gk:Bool)(gf:(List Int))(cI:(List dO))(hg:eB n=true)(hs:Pae ⟨jg,mh,eI,eV,⟨cH,eu,de,df,dc⟩,⟨bj,a8⟩,⟨bp,bb⟩,gk,gf,cI⟩):Fun T 89 [i64 n,i64 me,i64 jg,i64 mh,i64 eI,i64 eV,i64 cH,i64 eu,i64 de,i64 df,i64 dc,i64 bj,rL a8,i64 bp,rL bb,.bool gk,rL gf,rL cI]=some [.bool (Eav n me ⟨jg,mh,eI,eV,⟨cH,eu,de,df,dc⟩,⟨bj,a8⟩,⟨bp,bb⟩,gk,gf,cI⟩)]:=by
 rw[aR (t:=Fbt) rfl];unfold Fbt
 have hn:=bL hg;have ym:Ba4 n:=Lap hg;obtain⟨h1,h2,h3,h4,h5⟩:=hs;simp only at h1 h2 h3 h4 h5;have tw:a8.length<=1099511627776:=by omega
 have ua:bb.length<=1099511627776:=by omega
 have h3':gf.length<=1099511627776:=by omega
 have uc:cI.length<=1099511627776:=by omega
 have s7:∀ x∈cI,x.attr.deps.length<=1099511627776:=fun x hx=>by have:=h5 x hx;omega
 have ea:decide ((⟨bj,a8⟩:eU)=none0 n)=decide ((⟨bj,a8⟩:eU)=⟨(none0 n).seq,(none0 n).deps⟩):=rfl;have eb:decide ((⟨bp,bb⟩:eU)=none0 n)=decide ((⟨bp,bb⟩:eU)=⟨(none0 n).seq,(none0 n).deps⟩):=rfl;have e3:(cI.any fun r=>!(rowOk n r&&!(r.state==3)))=!cI.all fun r=>rowOk n r&&!(r.state==3):=by rw[Pb8]
 unfold Eav;cases c1:inst n jg mh
 ·simp (disch:=first|assumption|omega) only[S0,rA,rQ,rB,rT,rE,bE,hg,c1]
 cases c2:inR eI 0 9999
 ·simp (disch:=first|assumption|omega) only[S0,rA,rQ,rB,rT,rE,bE,bM,hg,c1,c2]
 cases c3:Tas gf 0 (n-1)
 ·simp (disch:=first|assumption|omega) only[S0,rA,rQ,rB,rT,rE,bE,bM,gJ,hg,c1,c2,c3]
 cases c4:Pa6 gf me
 ·simp (disch:=first|assumption|omega) only[S0,rA,rQ,rB,rT,rE,bE,bM,gJ,slices_Contains_int,hg,c1,c2,c3,c4]
 cases c5:iR n ⟨bj,a8⟩
 ·simp (disch:=first|assumption|omega) only[S0,rA,rQ,rB,rT,rE,bE,bM,gJ,slices_Contains_int,kE,hg,c1,c2,c3,c4,c5]
 cases c6:iR n ⟨bp,bb⟩
 ·simp (disch:=first|assumption|omega) only[S0,rA,rQ,rB,rT,rE,bE,bM,gJ,slices_Contains_int,kE,hg,c1,c2,c3,c4,c5,c6]
 simp (disch:=first|assumption|omega) only[S0,rA,rQ,rB,rT,rE,bE,bM,gJ,slices_Contains_int,kE,hg,c1,c2,c3,c4,c5,c6]
 rcases Ta0 eV with rfl|rfl|rfl|⟨p1,p2,p3⟩
 ·simp (disch:=first|assumption|omega) only[S0,rA,rQ,rB,rT,rE,eH]<;>repeat' (refine aC (fun _=>?_) (fun _=>?_)<;>try simp (disch:=first|assumption|omega) only[S0,rA,rQ,rB,rT,rE,eH, *])
 ·cases c7:Baf ⟨cH,eu,de,df,dc⟩
  ·simp (disch:=first|assumption|omega) only[S0,rA,rQ,rB,rT,rE,eH,c7]
  cases c8:(cI.length:Int)==0
  ·simp (disch:=first|assumption|omega) only[S0,rA,rQ,rB,rT,rE,eH,c7,c8]
  cases c9:decide ((⟨bj,a8⟩:eU)=⟨bp,bb⟩)<;>cases yW:gk<;>simp (disch:=first|assumption|omega) only[S0,rA,rQ,rB,rT,rE,eH,fJ,c7,c8,c9,yW]
 ·cases c7:decide ((⟨cH,eu,de,df,dc⟩:Cak)=⟨0,0,0,0,0⟩)
  ·simp (disch:=first|assumption|omega) only[S0,rA,rQ,rB,rT,rE,eD,Ban,c7]
  cases c8:decide ((⟨bj,a8⟩:eU)=none0 n)
  ·simp (disch:=first|assumption|omega) only[S0,rA,rQ,rB,rT,rE,eD,fJ,Ban,c7,c8]
  cases c9:decide ((⟨bp,bb⟩:eU)=none0 n)
  ·simp (disch:=first|assumption|omega) only[S0,rA,rQ,rB,rT,rE,eD,fJ,Ban,c7,c8,c9]
  cases yW:gk
  rotate_left
  ·simp (disch:=first|assumption|omega) only[S0,rA,rQ,rB,rT,rE,eD,fJ,Ban,c7,c8,c9,yW]
  cases c11:(cI.length:Int)==(gf.length:Int)
  ·simp (disch:=first|assumption|omega) only[S0,rA,rQ,rB,rT,rE,eD,fJ,Ban,c7,c8,c9,yW,c11]
  simp (disch:=first|assumption|omega) only[S0,rA,rQ,rB,rT,rE,eD,fJ,Ban,c7,c8,c9,yW,c11,Jaf,e3,Bool.not_not]
 ·simp (disch:=first|assumption|omega) only[S0,rA,rQ,rB,rT,rE,p1,p2,p3,Obp]
theorem Cam (me n:Int)(rows:List (List dO))(leads:List gL)(hs:Eab rows)(lz:Iai leads):Fun T 40 [i64 me,i64 n,rL rows,rL leads]=some [.bool (Nay ⟨me,⟨n,rows⟩,leads⟩)]:=by
 rw[aR (t:=Gb5) rfl];unfold Gb5;unfold Nay
 obtain⟨hs3,hs4⟩:=lz;cases ht:fP ⟨n,rows⟩
 ·simp (disch:=first|assumption|omega) only[S0,rA,rQ,rB,rT,rE,nV,ht]
 have hg:eB n=true:=dL ht;have hn:=bL hg;cases hm:inR me 0 (n-1)
 ·simp (disch:=first|assumption|omega) only[S0,rA,rQ,rB,rT,rE,nV,bY,ht,hm]
 simp (disch:=first|assumption|omega) only[S0,rA,rQ,rB,rT,rE,nV,bY,ht,hm];rw[Nas 1 leads.length (Lai n me leads) [.bool false]]
 ·(refine aD ?_;repeat' (refine aC ?_ ?_<;>intro _<;>try simp (disch:=first|assumption|omega) only[S0,rA,rQ,rB,rT,rE, *]))
 ·intro i hi ar
  have hb:InB leads (i:Int):=aP.2 hi;have hq:=hs4 _ (at_mem hi);unfold Lai Uam;cases c1:Eav n me (atI leads (i:Int))
  ·simp (disch:=first|assumption|omega) only[S0,rA,rQ,rB,rT,rE,aU,pR,ar,c1]
  by_cases h0:0<(i:Int)
  ·have d0:decide (0<(i:Int))=true:=by simpa using h0
   have lp:InB leads ((i:Int)-1):=by unfold InB;omega
   simp (disch:=first|assumption|omega) only[S0,rA,rQ,rB,rT,rE,aU,pR,ar,c1,d0]<;>repeat' (refine aC (fun _=>?_) (fun _=>?_)<;>try simp (disch:=first|assumption|omega) only[S0,rA,rQ,rB,rT,rE,aU,pR, *])
  ·have d0:decide (0<(i:Int))=false:=by simpa using h0
   simp (disch:=first|assumption|omega) only[S0,rA,rQ,rB,rT,rE,aU,pR,ar,c1,d0]
 ·intro ar
  simp (disch:=first|assumption|omega) only[S0,rA,rQ,rB,rT,rE,ar]
theorem Cav (me n:Int)(rows:List (List dO))(leads:List gL)(hs:Eab rows)(lz:Iai leads):Fun T 81 [i64 me,i64 n,rL rows,rL leads]=some [.bool (Nay ⟨me,⟨n,rows⟩,leads⟩)]:=by
 rw[aR (t:=Fb1) rfl];unfold Fb1;unfold Nay
 obtain⟨hs3,hs4⟩:=lz;cases ht:fP ⟨n,rows⟩
 ·simp (disch:=first|assumption|omega) only[S0,rA,rQ,rB,rT,rE,oC,ht]
 have hg:eB n=true:=dL ht;have hn:=bL hg;cases hm:inR me 0 (n-1)
 ·simp (disch:=first|assumption|omega) only[S0,rA,rQ,rB,rT,rE,oC,bM,ht,hm]
 simp (disch:=first|assumption|omega) only[S0,rA,rQ,rB,rT,rE,oC,bM,ht,hm];rw[Nas 1 leads.length (Lai n me leads) [.bool false]]
 ·(refine aD ?_;repeat' (refine aC ?_ ?_<;>intro _<;>try simp (disch:=first|assumption|omega) only[S0,rA,rQ,rB,rT,rE, *]))
 ·intro i hi ar
  have hb:InB leads (i:Int):=aP.2 hi;have hq:=hs4 _ (at_mem hi);unfold Lai Uam;cases c1:Eav n me (atI leads (i:Int))
  ·simp (disch:=first|assumption|omega) only[S0,rA,rQ,rB,rT,rE,aU,qH,ar,c1]
  by_cases h0:0<(i:Int)
  ·have d0:decide (0<(i:Int))=true:=by simpa using h0
   have lp:InB leads ((i:Int)-1):=by unfold InB;omega
   have hc:=Obb (atI leads (i:Int)).rep (atI leads (i:Int)).no (atI leads ((i:Int)-1)).rep (atI leads ((i:Int)-1)).no;have l1:([(atI leads (i:Int)).rep,(atI leads (i:Int)).no]:List Int).length<=1099511627776:=by simp
   have l2:([(atI leads ((i:Int)-1)).rep,(atI leads ((i:Int)-1)).no]:List Int).length<=1099511627776:=by simp
   generalize hz:(decide ((atI leads (i:Int)).rep<(atI leads ((i:Int)-1)).rep)||((atI leads ((i:Int)-1)).rep==(atI leads (i:Int)).rep&&decide ((atI leads (i:Int)).no<=(atI leads ((i:Int)-1)).no)))=z at hc ⊢;cases z<;>simp (disch:=first|assumption|omega) only[S0,rA,rQ,rB,rT,rE,aU,Obe,qH,yE,ar,c1,d0,hc]
  ·have d0:decide (0<(i:Int))=false:=by simpa using h0
   simp (disch:=first|assumption|omega) only[S0,rA,rQ,rB,rT,rE,aU,qH,ar,c1,d0]
 ·intro ar
  simp (disch:=first|assumption|omega) only[S0,rA,rQ,rB,rT,rE,ar]
theorem Baw (n:Int)(l:List bW)(hg:eB n=true)(hl:l.length<=10000000000):Fun T 34 [i64 n,rL l]=some [.bool (Ma0 n l)]:=by
 rw[aR (t:=Hbb) rfl];unfold Hbb;unfold Ma0
 have hn:=bL hg;simp (disch:=first|assumption|omega) only[S0,rA,rQ,rB,rT,rE];rw[Nas 1 l.length (Fay n l) [.bool false]]
 ·(refine aD ?_;repeat' (refine aC ?_ ?_<;>intro _<;>try simp (disch:=first|assumption|omega) only[S0,rA,rQ,rB,rT,rE, *]))
 ·intro i hi ar
  have hb:InB l (i:Int):=aP.2 hi;unfold Fay;cases c1:inst n (atI l (i:Int)).rep (atI l (i:Int)).no
  ·simp (disch:=first|assumption|omega) only[S0,rA,rQ,rB,rT,rE,aU,dQ,ar,c1]
  cases c2:Baf (atI l (i:Int)).cmd
  ·simp (disch:=first|assumption|omega) only[S0,rA,rQ,rB,rT,rE,aU,dQ,fE,ar,c1,c2]
  cases c3:(atI l (i:Int)).cmd.kind==0
  rotate_left
  ·simp (disch:=first|assumption|omega) only[S0,rA,rQ,rB,rT,rE,aU,dQ,fE,ar,c1,c2,c3]
  simp (disch:=first|assumption|omega) only[S0,rA,rQ,rB,rT,rE,aU,Eb3,dQ,fE,ar,c1,c2,c3,Pbt,Int.toNat_zero,List.drop_zero];have e:(l.take i).any (fun b=>b.rep==(atI l (i:Int)).rep&&b.no==(atI l (i:Int)).no)=!(l.take i).all fun b=>!(b.rep==(atI l (i:Int)).rep&&b.no==(atI l (i:Int)).no):=by rw[Pb8];simp only[Bool.not_not]
  rw[e,Eb2 3 (l.take i) (fun b=>!(b.rep==(atI l (i:Int)).rep&&b.no==(atI l (i:Int)).no)) [.bool false]]
  ·(refine aD ?_;repeat' (refine aC ?_ ?_<;>intro _<;>try simp (disch:=first|assumption|omega) only[S0,rA,rQ,rB,rT,rE, *]))
  ·intro j hj lp kz hm
   have yr:j<10000000000:=by rw[Pb3]at hj;omega
   have s1:((atI l (i:Int)).rep==(atI (l.take i) (j:Int)).rep)=((atI (l.take i) (j:Int)).rep==(atI l (i:Int)).rep):=by rw[Bool.eq_iff_iff,beq_iff_eq,beq_iff_eq];exact eq_comm
   have s2:((atI l (i:Int)).no==(atI (l.take i) (j:Int)).no)=((atI (l.take i) (j:Int)).no==(atI l (i:Int)).no):=by rw[Bool.eq_iff_iff,beq_iff_eq,beq_iff_eq];exact eq_comm
   generalize h1:((atI (l.take i) (j:Int)).rep==(atI l (i:Int)).rep)=q1 at s1;generalize h2:((atI (l.take i) (j:Int)).no==(atI l (i:Int)).no)=q2 at s2;cases q1<;>cases q2<;>simp (disch:=first|assumption|omega) only[S0,rA,rQ,rB,rT,rE,aU,kz,h1,h2,s1,s2]
  ·intro kz
   simp (disch:=first|assumption|omega) only[S0,rA,rQ,rB,rT,rE,kz]
 ·intro ar
  simp (disch:=first|assumption|omega) only[S0,rA,rQ,rB,rT,rE,ar]
theorem Ba5 (vf zq pa q6 qg qh qb:Int)(rep no:Int):Fun T 105 [i64 vf,i64 zq,i64 pa,i64 q6,i64 qg,i64 qh,i64 qb,i64 rep,i64 no]=some [.bool (vf==rep&&zq==no)]:=by
 rw[aR (t:=Xak) rfl];unfold Xak
 (refine aD ?_;repeat' (refine aC ?_ ?_<;>intro _<;>try simp (disch:=first|assumption|omega) only[S0,rA,rQ,rB,rT,rE, *]))
theorem Rax (rep no:Int)(xs:List bW)(hx:xs.length<=1099511627776):Fun T 104 [rL xs,i64 rep,i64 no]=some [i64 (ixF (fun b=>b.rep==rep&&b.no==no) xs)]:=by
 rw[aR (t:=Xal) rfl];unfold Xal
 simp (disch:=first|assumption|omega) only[S0,rA,rQ,rB,rT,rE,aU, *];rw[Ea9 1 xs (fun b=>b.rep==rep&&b.no==no) (fun i=>[i64 i])]
 ·cases h:xs.any (fun b=>b.rep==rep&&b.no==no)
  ·have e:ixF (fun b=>b.rep==rep&&b.no==no) xs=-1:=by
    have h2:=eP (fun b=>b.rep==rep&&b.no==no) xs;rw[h]at h2;unfold ixF at h2 ⊢;split at h2<;>simp_all
   rw[e];simp (disch:=first|assumption|omega) only[S0,rA,rQ,rB,rT,rE]
  ·simp (disch:=first|assumption|omega) only[S0,rA,rQ,rB,rT,rE]
 ·intro i hi hb hl hp
  (refine aD ?_;repeat' (refine aC ?_ ?_<;>intro _<;>try simp (disch:=first|assumption|omega) only[S0,rA,rQ,rB,rT,rE,aU,Ba5, *]))
 ·intro i hi hb hl hp
  (refine aD ?_;repeat' (refine aC ?_ ?_<;>intro _<;>try simp (disch:=first|assumption|omega) only[S0,rA,rQ,rB,rT,rE,aU,Ba5, *]))
 ·intro hl
  (refine aD ?_;repeat' (refine aC ?_ ?_<;>intro _<;>try simp (disch:=first|assumption|omega) only[S0,rA,rQ,rB,rT,rE, *]))
theorem Gaf (reps:List mD)(bag:List nD)(l:List bW)(k:Nat)(rep no:Int)(hk:k<=l.length)(hl:l.length<=10000000000):Fun T 103 [rL reps,rL bag,rL l,i64 k,i64 rep,i64 no]=some [i64 (ixF (fun b=>b.rep==rep&&b.no==no) (l.take k))]:=by
 rw[aR (t:=Xam) rfl];unfold Xam
 have ht:(l.take k).length<=1099511627776:=by rw[Pb3];omega
 simp (disch:=first|assumption|omega) only[S0,rA,rQ,rB,rT,rE,Eb3,Rax,Pbt,Int.toNat_zero,List.drop_zero]
theorem nJ (reps:List mD)(bag:List nD)(asked:List bW)(h1:rM reps)(h2:Eac bag)(h3:asked.length<=10000000000):Fun T 32 [rL reps,rL bag,rL asked]=some [.bool (vV ⟨reps,bag,asked⟩)]:=by
 rw[aR (t:=Hbd) rfl];unfold Hbd;unfold vV
 obtain⟨h4,h5⟩:=h1;obtain⟨h6,h7⟩:=h2;cases hg:eB (reps.length:Int)
 ·simp (disch:=first|assumption|omega) only[S0,rA,rQ,rB,rT,rE,fD,hg]
 cases hb:decide (80<(bag.length:Int))
 rotate_left
 ·simp (disch:=first|assumption|omega) only[S0,rA,rQ,rB,rT,rE,fD,hg,hb]
 cases ha:Ma0 (reps.length:Int) asked
 ·simp (disch:=first|assumption|omega) only[S0,rA,rQ,rB,rT,rE,fD,Baw,hg,hb,ha]
 simp (disch:=first|assumption|omega) only[S0,rA,rQ,rB,rT,rE,fD,Baw,hg,hb,ha];rw[Nas 1 reps.length (Kay reps.length reps) [.bool false]]
 ·cases hr:sF (Kay reps.length reps) reps.length
  ·simp (disch:=first|assumption|omega) only[S0,rA,rQ,rB,rT,rE]
  ·simp (disch:=first|assumption|omega) only[S0,rA,rQ,rB,rT,rE]
   rw[Eb2 3 bag (fun m=>vW reps.length m) [.bool false]]
   ·(refine aD ?_;repeat' (refine aC ?_ ?_<;>intro _<;>try simp (disch:=first|assumption|omega) only[S0,rA,rQ,rB,rT,rE, *]))
   ·intro i hi zl ar hm
    have hq:=h7 _ hm;simp (disch:=first|assumption|omega) only[S0,rA,rQ,rB,rT,rE,aU,Kai,ar]<;>repeat' (refine aC (fun _=>?_) (fun _=>?_)<;>try simp (disch:=first|assumption|omega) only[S0,rA,rQ,rB,rT,rE, *])
   ·intro ar
    simp (disch:=first|assumption|omega) only[S0,rA,rQ,rB,rT,rE,ar]
 ·intro i hi ar
  have zl:InB reps (i:Int):=aP.2 hi;obtain⟨mm,l8⟩:=h5 _ (at_mem hi);unfold Kay;simp (disch:=first|assumption|omega) only[S0,rA,rQ,rB,rT,rE,aU,Cam,ar]<;>repeat' (refine aC (fun _=>?_) (fun _=>?_)<;>try simp (disch:=first|assumption|omega) only[S0,rA,rQ,rB,rT,rE, *])
 ·intro ar
  simp (disch:=first|assumption|omega) only[S0,rA,rQ,rB,rT,rE,ar]
theorem wO (eK iy iz iS lO ee fW eE cq et cV cQ cT cm:Int)(bd:(List Int))(n:Int)(hx:bd.length<=10000000000):Fun T 64 [i64 eK,i64 iy,i64 iz,i64 iS,i64 lO,i64 ee,i64 fW,i64 eE,i64 cq,i64 et,i64 cV,i64 cQ,i64 cT,i64 cm,rL bd,i64 n]=some [.bool (!vW n ⟨eK,iy,iz,iS,lO,ee,fW,eE,⟨cq,et,cV,cQ,cT⟩,⟨cm,bd⟩⟩)]:=by
 rw[aR (t:=Gbh) rfl];unfold Gbh
 simp (disch:=first|assumption|omega) only[S0,rA,rQ,rB,rT,rE,Lat]
theorem Lao (n:Int)(xs:List nD)(hx:xs.length<=1099511627776)(hq:∀ x∈xs,x.attr.deps.length<=10000000000):Fun T 63 [rL xs,i64 n]=some [i64 (ixF (fun m=>!vW n m) xs)]:=by
 rw[aR (t:=Gbi) rfl];unfold Gbi
 simp (disch:=first|assumption|omega) only[S0,rA,rQ,rB,rT,rE,aU, *];rw[Ea9 1 xs (fun m=>!vW n m) (fun i=>[i64 i])]
 ·cases h:xs.any (fun m=>!vW n m)
  ·have e:ixF (fun m=>!vW n m) xs=-1:=by
    have h2:=eP (fun m=>!vW n m) xs;rw[h]at h2;unfold ixF at h2 ⊢;split at h2<;>simp_all
   rw[e];simp (disch:=first|assumption|omega) only[S0,rA,rQ,rB,rT,rE]
  ·simp (disch:=first|assumption|omega) only[S0,rA,rQ,rB,rT,rE]
 ·intro i hi hb hl hp
  have je:=hq _ (at_mem hi)
  try simp only at je hp
  (refine aD ?_;repeat' (refine aC ?_ ?_<;>intro _<;>try simp (disch:=first|assumption|omega) only[S0,rA,rQ,rB,rT,rE,aU,wO, *]))
 ·intro i hi hb hl hp
  have je:=hq _ (at_mem hi)
  try simp only at je hp
  (refine aD ?_;repeat' (refine aC ?_ ?_<;>intro _<;>try simp (disch:=first|assumption|omega) only[S0,rA,rQ,rB,rT,rE,aU,wO, *]))
 ·intro hl
  (refine aD ?_;repeat' (refine aC ?_ ?_<;>intro _<;>try simp (disch:=first|assumption|omega) only[S0,rA,rQ,rB,rT,rE, *]))
theorem Cag (n:Int)(xs:List nD)(hx:xs.length<=1099511627776)(hq:∀ x∈xs,x.attr.deps.length<=10000000000):Fun T 62 [rL xs,i64 n]=some [.bool (xs.any (fun m=>!vW n m))]:=by
 rw[aR (t:=Gbj) rfl];unfold Gbj
 (refine aD ?_;repeat' (refine aC ?_ ?_<;>intro _<;>try simp (disch:=first|assumption|omega) only[S0,rA,rQ,rB,rT,rE,Lao,eP, *]))
theorem tY (reps:List mD)(bag:List nD)(asked:List bW)(h1:rM reps)(h2:Eac bag)(h3:asked.length<=10000000000):Fun T 60 [rL reps,rL bag,rL asked]=some [.bool (vV ⟨reps,bag,asked⟩)]:=by
 rw[aR (t:=Gbl) rfl];unfold Gbl;unfold vV
 obtain⟨h4,h5⟩:=h1;obtain⟨h6,h7⟩:=h2;have h6':bag.length<=1099511627776:=by omega
 have e:(bag.any fun m=>!vW reps.length m)=!bag.all fun m=>vW reps.length m:=by rw[Pb8]
 cases hg:eB (reps.length:Int)
 ·simp (disch:=first|assumption|omega) only[S0,rA,rQ,rB,rT,rE,gT,hg]
 have hn:=bL hg;cases hb:decide (80<(bag.length:Int))
 rotate_left
 ·simp (disch:=first|assumption|omega) only[S0,rA,rQ,rB,rT,rE,gT,hg,hb]
 cases hm:bag.all fun m=>vW reps.length m
 ·simp (disch:=first|assumption|omega) only[S0,rA,rQ,rB,rT,rE,gT,Cag,hg,hb,e,hm]
 simp (disch:=first|assumption|omega) only[S0,rA,rQ,rB,rT,rE,gT,Cag,hg,hb,e,hm];rw[Nas 1 reps.length (Kay reps.length reps) [.bool false]]
 ·cases hr:sF (Kay reps.length reps) reps.length
  ·simp (disch:=first|assumption|omega) only[S0,rA,rQ,rB,rT,rE]
  ·simp (disch:=first|assumption|omega) only[S0,rA,rQ,rB,rT,rE]
   unfold Ma0;rw[Nas 3 asked.length (Fay reps.length asked) [.bool false]]
   ·(refine aD ?_;repeat' (refine aC ?_ ?_<;>intro _<;>try simp (disch:=first|assumption|omega) only[S0,rA,rQ,rB,rT,rE, *]))
   ·intro i hi ar
    have zl:InB asked (i:Int):=aP.2 hi;have hle:i<=asked.length:=by omega
    unfold Fay;cases c1:inst (reps.length:Int) (atI asked (i:Int)).rep (atI asked (i:Int)).no
    ·simp (disch:=first|assumption|omega) only[S0,rA,rQ,rB,rT,rE,aU,bE,ar,c1,hg]
    cases c2:Baf (atI asked (i:Int)).cmd
    ·simp (disch:=first|assumption|omega) only[S0,rA,rQ,rB,rT,rE,aU,bE,eH,ar,c1,c2,hg]
    cases c3:(atI asked (i:Int)).cmd.kind==0
    rotate_left
    ·simp (disch:=first|assumption|omega) only[S0,rA,rQ,rB,rT,rE,aU,bE,eH,ar,c1,c2,c3,hg]
    rw[<- eP];cases c4:decide (0<=ixF (fun b:bW=>b.rep==(atI asked (i:Int)).rep&&b.no==(atI asked (i:Int)).no) (List.take i asked))<;>simp (disch:=first|assumption|omega) only[S0,rA,rQ,rB,rT,rE,aU,bE,eH,Gaf,ar,c1,c2,c3,c4,hg]
   ·intro ar
    simp (disch:=first|assumption|omega) only[S0,rA,rQ,rB,rT,rE,ar]
 ·intro i hi ar
  have zl:InB reps (i:Int):=aP.2 hi;obtain⟨mm,l8⟩:=h5 _ (at_mem hi);unfold Kay;generalize hz:Nay (atI reps (i:Int))=z;cases k1:(atI reps (i:Int)).me==(i:Int)
  ·simp (disch:=first|assumption|omega) only[S0,rA,rQ,rB,rT,rE,aU,ar,k1]
  cases k2:(atI reps (i:Int)).table.n==(reps.length:Int)
  ·simp (disch:=first|assumption|omega) only[S0,rA,rQ,rB,rT,rE,aU,ar,k1,k2]
  cases z<;>simp (disch:=first|assumption|omega) only[S0,rA,rQ,rB,rT,rE,aU,Cav,ar,k1,k2,hz]
 ·intro ar
  simp (disch:=first|assumption|omega) only[S0,rA,rQ,rB,rT,rE,ar]
theorem Cau (reps:List mD)(bag:List nD)(asked:List bW)(ms:List Int)(h1:rM reps)(h2:Eac bag)(h3:asked.length<=10000000000)(h4:ms.length<=10000000000):Fun T 59 [rL reps,rL bag,rL asked,rL ms]=some [.bool (Hae ⟨reps,bag,asked⟩ ms)]:=by
 rw[aR (t:=Gbm) rfl];unfold Gbm;unfold Hae
 cases hn:vV ⟨reps,bag,asked⟩
 ·simp (disch:=first|assumption|omega) only[S0,rA,rQ,rB,rT,rE,tY,hn,Qbs]
 cases hl:decide (0<(ms.length:Int))
 ·simp (disch:=first|assumption|omega) only[S0,rA,rQ,rB,rT,rE,tY,hn,hl,Qbj,Qbs]
 have hg:=Lap (Eam hn);simp only at hg;simp (disch:=first|assumption|omega) only[S0,rA,rQ,rB,rT,rE,tY,gJ,hn,hl,Qbj]
theorem Cas (a b:Int)(r:dO)(is:Bool)(no rep:Int)(hb:InB r.attr.deps rep):Fun T 109 [i64 a,i64 b,i64 r.ballot,i64 r.vote,i64 r.state,i64 r.cmd.kind,i64 r.cmd.id,i64 r.cmd.src,i64 r.cmd.dst,i64 r.cmd.amt,i64 r.attr.seq,rL r.attr.deps,.bool is,i64 no,i64 rep]=some [.bool (is||Aaz r rep no)]:=by
 rw[aR (t:=Xag) rfl];unfold Xag;unfold Aaz
 cases is
 ·cases c:(r.state==3)
  ·simp (disch:=first|assumption|omega) only[S0,rA,rQ,rB,rT,rE,c,Qbd,Qbs]
  ·simp (disch:=first|assumption|omega) only[S0,rA,rQ,rB,rT,rE,c,aU,Qbd,Qbj]
 ·simp (disch:=first|assumption|omega) only[S0,rA,rQ,rB,rT,rE,Bool.true_or]
theorem xC (n:Int)(rows:List (List dO))(is:Bool)(no rep:Int)(hs:Eab rows)(hb:∀ l∈rows,∀ r∈l,InB r.attr.deps rep):Fun T 108 [i64 n,rL rows,.bool is,i64 no,i64 rep]=some [.bool (is||rows.any fun l=>l.any fun r=>Aaz r rep no)]:=by
 rw[aR (t:=Xah) rfl];unfold Xah
 have nk:=hs.1
 have anyS:∀ {α:Type} [Inhabited α] (xs:List α) (p:α->Bool) (i:Nat),i<xs.length->((xs.take (i+1)).any p)=((xs.take i).any p||p (atI xs (i:Int))):=by
  intro α _ xs p i hi;rw[<- take_at hi,List.any_append];simp
 simp (disch:=first|assumption|omega) only[S0,rA,rQ,rB,rT,rE];rw[Na9 rows.length (fun i=>[i64 i,.bool (is||(rows.take i).any fun l=>l.any fun r=>Aaz r rep no)]) (.yield 1,[.bool (is||rows.any fun l=>l.any fun r=>Aaz r rep no)]) (by simp only[List.take_zero,List.any_nil,Bool.or_false];rfl) (by simp)]
 ·simp (disch:=first|assumption|omega) only[S0,rA,rQ,rB,rT,rE]
 ·intro i hi ar
  have zl:InB rows (i:Int):=aP.2 hi;have vn:=(hs.2 _ (at_mem hi)).1;have nf:=hb _ (at_mem hi);rw[anyS rows _ i hi,<- Bool.or_assoc];generalize (is||(rows.take i).any fun l=>l.any fun r=>Aaz r rep no)=b0;generalize hL:atI rows (i:Int)=L at vn nf ⊢;simp (disch:=first|assumption|omega) only[S0,rA,rQ,rB,rT,rE,aU,ar,hL];rw[Na9 L.length (fun j=>[i64 j,.bool (b0||(L.take j).any fun r=>Aaz r rep no)]) (.yield 3,[.bool (b0||L.any fun r=>Aaz r rep no)]) (by simp only[List.take_zero,List.any_nil,Bool.or_false];rfl) (by simp)]
  ·simp (disch:=first|assumption|omega) only[S0,rA,rQ,rB,rT,rE]
  ·intro j hj wu
   have hbj:InB L (j:Int):=aP.2 hj;have qm:=nf _ (at_mem hj);rw[anyS L _ j hj,<- Bool.or_assoc];generalize (b0||(L.take j).any fun r=>Aaz r rep no)=b1;generalize hR:atI L (j:Int)=r at qm ⊢;have e:=Cas (i:Int) ((j:Int)+1) r b1 no rep qm;simp (disch:=first|assumption|omega) only[S0,rA,rQ,rB,rT,rE,aU,wu,hR,e]
  ·intro wu
   rw[Qb5];simp (disch:=first|assumption|omega) only[S0,rA,rQ,rB,rT,rE,wu]
 ·intro ar
  rw[Qb5];simp (disch:=first|assumption|omega) only[S0,rA,rQ,rB,rT,rE,ar]
theorem Gac (n:Int)(rows:List (List dO))(ht:fP ⟨n,rows⟩=true)(hs:Eab rows):Fun T 107 [i64 n,rL rows]=some [rL (Iaw ⟨n,rows⟩)]:=by
 rw[aR (t:=Xai) rfl];unfold Xai
 have hlen:=jB ht;have hg:=dL ht;have hgr:=bL hg;simp only at hlen hg hgr;have h0:(aY.mk 1 0).run []=some [rL ([]:List (List Int))]:=rfl
 have hbd:∀ rep:Nat,rep<rows.length->∀ l∈rows,∀ r∈l,InB r.attr.deps (rep:Int):=by
  intro rep hr l hl r jy;obtain⟨d1,d2⟩:=Paj ((jO ht hl).2 r jy) hg;simp only at d1;unfold InB;omega
 have hM:Iaw ⟨n,rows⟩=rY (fun y=>Lad ⟨n,rows⟩ (atI y 0) (atI y 1)) rows.length:=by
  unfold Iaw rY;simp only;rw[show n.toNat=rows.length by omega]
 rw[hM];obtain⟨N,rfl⟩:∃ N:Nat,n=(N:Int):=⟨n.toNat,by omega⟩;have hN:rows.length=N:=by omega
 rw[hN];generalize hf:(fun y:List Int=>Lad ⟨(N:Int),rows⟩ (atI y 0) (atI y 1))=f;simp (disch:=first|assumption|omega) only[S0,rA,rQ,rB,rT,rE,h0];rw[Na9 N (fun k=>[rL (rY f k),i64 k]) (.yield 1,[rL (rY f N)]) (by rfl) (by simp)]
 ·simp (disch:=first|assumption|omega) only[S0,rA,rQ,rB,rT,rE]
 ·intro k hk ar
  have oT:InB rows (k:Int):=aP.2 (by omega);have hl6:=(jO ht (jL oT)).1;have n5:=Laa f k;simp (disch:=first|assumption|omega) only[S0,rA,rQ,rB,rT,rE,ar];rw[Na9 6 (fun m=>[rL (rY f k++nX f k m),i64 ((m:Int)+1)]) (.yield 3,[rL (rY f k++nX f k 6),i64 7]) (by rw[show nX f (k:Int) 0=[] from rfl,Pbc];rfl) (by simp)]
  ·rw[Ga8]
   simp (disch:=first|assumption|omega) only[S0,rA,rQ,rB,rT,rE]
  ·intro m hm _
   have d6:decide ((m:Int)+1<=6)=true:=by simp;omega
   have e:=xC (N:Int) rows (decide ((m:Int)+1<=((atI rows (k:Int)).length:Int))) ((m:Int)+1) (k:Int) hs (hbd k (by omega))
   have ef:f [(k:Int),(m:Int)+1]=(decide ((m:Int)+1<=((atI rows (k:Int)).length:Int))||rows.any fun l=>l.any fun r=>Aaz r (k:Int) ((m:Int)+1)):=by
    rw[<- hf];rfl
   rw[<- ef]at e;rw[Aa0];have yw:=Ka8 f (k:Int) m;have z2:(aY.mk 1 2).run [i64 (k:Int),i64 ((m:Int)+1)]=some [rL ([(k:Int),(m:Int)+1]:List Int)]:=rfl;have z3:(aY.mk 1 1).run [rL ([(k:Int),(m:Int)+1]:List Int)]=some [rL ([[(k:Int),(m:Int)+1]]:List (List Int))]:=rfl;have em:((m+1:Nat):Int)+1=(m:Int)+1+1:=by omega
   cases c:f [(k:Int),(m:Int)+1]
   ·rw[c]at e
    simp only[Obp,if_false,Pbc];simp (disch:=first|assumption|omega) only[S0,rA,rQ,rB,rT,rE,d6,aU,e,em]
   ·rw[c]at e
    have a1:(rY f k++nX f (k:Int) m).length+([[(k:Int),(m:Int)+1]]:List (List Int)).length<=100000000000:=by rw[Obv];simp only[Pbm,Qbc];omega
    simp only[if_true];rw[<- Obs];simp (disch:=first|assumption|omega) only[S0,rA,rQ,rB,rT,rE,d6,aU,e,z2,z3,Wac,em]
  ·intro _
   have d7:decide ((((0:Nat):Int)+1+1+1+1+1+1+1)<=6)=false:=by decide
   simp (disch:=first|assumption|omega) only[S0,rA,rQ,rB,rT,rE,d7];rfl
 ·intro ar
  simp (disch:=first|assumption|omega) only[S0,rA,rQ,rB,rT,rE,ar]
theorem wN (k:Int)(reps:List mD)(bag:List nD)(asked:List bW)(y:List Int)(hr:rM reps)(hn:vV ⟨reps,bag,asked⟩=true)(hy:eZ reps.length y)(hk:0<=k/\k<=(reps.length:Int)-1):Fun T 112 [i64 k,rL reps,rL bag,rL asked,rL y]=some [.bool (!((jI (sD ⟨reps,bag,asked⟩ k) (atI y 0) (atI y 1)).state==3))]:=by
 rw[aR (t:=Xad) rfl];unfold Xad;unfold sD
 have oT:InB reps k:=by unfold InB;omega
 obtain⟨i,rfl⟩:∃ i:Nat,k=(i:Int):=⟨k.toNat,by omega⟩;obtain⟨ht,hN,hg⟩:=tJ hn (i:=i) (aP.1 oT);obtain⟨mm,l8⟩:=hr.2 _ (jL oT);have hy2:y.length=2:=hy.1;have zy:InB y 0:=by unfold InB;omega
 have oi:InB y 1:=by unfold InB;omega
 simp only at ht hN;have vc:=hy.2;have hir:=jG vc;generalize hR:atI reps (i:Int)=R at ht hN mm l8;have qm:InB R.table.rows (atI y 0):=by have:=jB ht;unfold InB;omega
 have e:=Gae R.table.n R.table.rows (atI y 0) (atI y 1) (dL ht) mm qm (by omega) (by omega);simp (disch:=first|assumption|omega) only[S0,rA,rQ,rB,rT,rE,aU,hR,e]
theorem Lan (reps:List mD)(bag:List nD)(asked:List bW)(y:List Int)(hr:rM reps)(hn:vV ⟨reps,bag,asked⟩=true)(hy:eZ reps.length y)(xs:List Int)(hx:xs.length<=1099511627776)(hq:∀ x∈xs,0<=x/\x<=(reps.length:Int)-1):Fun T 111 [rL xs,rL reps,rL bag,rL asked,rL y]=some [i64 (ixF (fun k=>!((jI (sD ⟨reps,bag,asked⟩ k) (atI y 0) (atI y 1)).state==3)) xs)]:=by
 rw[aR (t:=Xae) rfl];unfold Xae
 simp (disch:=first|assumption|omega) only[S0,rA,rQ,rB,rT,rE,aU, *];rw[Ea9 1 xs (fun k=>!((jI (sD ⟨reps,bag,asked⟩ k) (atI y 0) (atI y 1)).state==3)) (fun i=>[i64 i])]
 ·cases h:xs.any (fun k=>!((jI (sD ⟨reps,bag,asked⟩ k) (atI y 0) (atI y 1)).state==3))
  ·have e:ixF (fun k=>!((jI (sD ⟨reps,bag,asked⟩ k) (atI y 0) (atI y 1)).state==3)) xs=-1:=by
    have h2:=eP (fun k=>!((jI (sD ⟨reps,bag,asked⟩ k) (atI y 0) (atI y 1)).state==3)) xs;rw[h]at h2;unfold ixF at h2 ⊢;split at h2<;>simp_all
   rw[e];simp (disch:=first|assumption|omega) only[S0,rA,rQ,rB,rT,rE]
  ·simp (disch:=first|assumption|omega) only[S0,rA,rQ,rB,rT,rE]
 ·intro i hi hb hl hp
  have je:=hq _ (at_mem hi)
  try simp only at je hp
  obtain⟨mm,l8⟩:=je
  (refine aD ?_;repeat' (refine aC ?_ ?_<;>intro _<;>try simp (disch:=first|assumption|omega) only[S0,rA,rQ,rB,rT,rE,aU,wN, *]))
 ·intro i hi hb hl hp
  have je:=hq _ (at_mem hi)
  try simp only at je hp
  obtain⟨mm,l8⟩:=je
  (refine aD ?_;repeat' (refine aC ?_ ?_<;>intro _<;>try simp (disch:=first|assumption|omega) only[S0,rA,rQ,rB,rT,rE,aU,wN, *]))
 ·intro hl
  (refine aD ?_;repeat' (refine aC ?_ ?_<;>intro _<;>try simp (disch:=first|assumption|omega) only[S0,rA,rQ,rB,rT,rE, *]))
theorem Maj (reps:List mD)(bag:List nD)(asked:List bW)(y:List Int)(hr:rM reps)(hn:vV ⟨reps,bag,asked⟩=true)(hy:eZ reps.length y)(xs:List Int)(hx:xs.length<=1099511627776)(hq:∀ x∈xs,0<=x/\x<=(reps.length:Int)-1):Fun T 110 [rL xs,rL reps,rL bag,rL asked,rL y]=some [.bool (xs.any (fun k=>!((jI (sD ⟨reps,bag,asked⟩ k) (atI y 0) (atI y 1)).state==3)))]:=by
 rw[aR (t:=Xaf) rfl];unfold Xaf
 (refine aD ?_;repeat' (refine aC ?_ ?_<;>intro _<;>try simp (disch:=first|assumption|omega) only[S0,rA,rQ,rB,rT,rE,Lan,eP, *]))
theorem Kao (l:List (List Int))(h2:∀ y∈l,y.length=2)(hl:l.length<=1000000):Fun T 119 [rL l]=some [rL ((vU id (l.map prL)).map toL)]:=by
 rw[Wag (e:=Da9) rfl];exact Cbc h2 hl
theorem Lar (reps:List mD)(bag:List nD)(asked:List bW)(ms:List Int)(hr:rM reps)(hn:vV ⟨reps,bag,asked⟩=true)(hm:∀ k∈ms,0<=k/\k<=(reps.length:Int)-1)(hl:ms.length<=10000000000):Fun T 106 [rL reps,rL bag,rL asked,rL ms]=some [rL (Zaz ⟨reps,bag,asked⟩ ms)]:=by
 rw[aR (t:=Xaj) rfl];unfold Xaj
 have h0:(aY.mk 1 0).run []=some [rL ([]:List (List Int))]:=rfl;have hg:=Eam hn;have hgr:=bL hg;simp only at hg hgr;have il:∀ out:List (List Int),out.Nodup->(∀ y∈out,eZ reps.length y)->out.length<=30:=fun out h1 h2=>zN hg h1 h2
 simp (disch:=first|assumption|omega) only[S0,rA,rQ,rB,rT,rE,h0];generalize hE:Er T (Tm.loop _ _) _=E
 have key:∃ q,E=some q/\∃ out,q=(.yield 1,[rL out])/\Zan ⟨reps,bag,asked⟩ ms (fun y=>eZ reps.length y/\Uaa ⟨reps,bag,asked⟩ ms (atI y 0) (atI y 1)=true) out:=by
  rw[<- hE];refine Hag (γ:=Nat×List (List Int)) (fun c=>ms.length-c.1) (fun c=>c.1<=ms.length/\Zan ⟨reps,bag,asked⟩ ms (fun y=>∃ a:Nat,a<c.1/\y∈Iaw (sD ⟨reps,bag,asked⟩ (atI ms (a:Int)))) c.2) (fun c=>[rL c.2,i64 c.1]) _ (0,[]) rfl ⟨Pby _,⟨List.nodup_nil,fun y=>by simp,by simp⟩⟩ ?_
  rintro⟨a,out⟩ ⟨h1,h2⟩
  simp only at h1 h2;by_cases ha:a<ms.length
  rotate_left
  ·have d:decide ((a:Int)<(ms.length:Int))=false:=by simpa using ha
   obtain rfl:a=ms.length:=by omega
   refine .inr ⟨(.yield 1,[rL out]),?_,by simp,out,rfl,⟨h2.nodup,fun y=>?_,h2.inst⟩⟩
   ·simp (disch:=first|assumption|omega) only[S0,rA,rQ,rB,rT,rE,d]
   ·rw[h2.iff]
    refine and_congr_left fun ho=>?_
    unfold Uaa;rw[List.any_eq_true];constructor
    ·rintro⟨a,ha,hy⟩
     have hka:=hm _ (at_mem ha);obtain⟨i,hi⟩:∃ i:Nat,atI ms (a:Int)=(i:Int):=⟨(atI ms (a:Int)).toNat,by omega⟩;have hN:=(tJ hn (i:=i) (by simp only;omega)).2.1;obtain⟨y1,y2⟩:=Iav.1 hy;unfold sD at y1 y2;rw[hi]at y1;simp only at hN y1;rw[hN,Pbt]at y1;exact⟨y1,_,at_mem ha,y2⟩
    ·rintro⟨y1,k,hk,y2⟩
     obtain⟨a,ha,rfl⟩:=Qb2 hk;refine⟨a,ha,?_⟩;rw[cB ha];have hka:=hm _ hk;obtain⟨i,hi⟩:∃ i:Nat,ms[a]=(i:Int):=⟨ms[a].toNat,by omega⟩;have hN:=(tJ hn (i:=i) (by simp only;omega)).2.1;refine Iav.2 ⟨?_,y2⟩;unfold sD;rw[hi];simp only at hN ⊢;rw[hN,Pbt];exact y1
  ·have d:decide ((a:Int)<(ms.length:Int))=true:=by simpa using ha
   have hb:InB ms (a:Int):=aP.2 ha;have hka:=hm _ (at_mem ha);have oT:InB reps (atI ms (a:Int)):=by unfold InB;omega
   obtain⟨i,hi⟩:∃ i:Nat,atI ms (a:Int)=(i:Int):=⟨(atI ms (a:Int)).toNat,by omega⟩;obtain⟨ht,hN,-⟩:=tJ hn (i:=i) (by simp only;omega);obtain⟨mm,l8⟩:=hr.2 _ (jL oT);have eT:sD ⟨reps,bag,asked⟩ (atI ms (a:Int))=(atI reps (atI ms (a:Int))).table:=rfl;simp only at ht hN;rw[hi]at oT mm l8
   have eS:∀ y,(∃ b:Nat,b<a+1/\y∈Iaw (sD ⟨reps,bag,asked⟩ (atI ms (b:Int))))↔(∃ b:Nat,b<a/\y∈Iaw (sD ⟨reps,bag,asked⟩ (atI ms (b:Int))))\/y∈Iaw (atI reps (i:Int)).table:=by
    intro y;rw[<- hi,<- eT];constructor
    ·rintro⟨b,hb,hy⟩
     rcases Ob2 b a with h|h
     ·exact .inl ⟨b,h,hy⟩
     ·obtain rfl:b=a:=by omega
      exact .inr hy
    ·rintro (⟨b,hb,hy⟩|hy)
     ·exact⟨b,by omega,hy⟩
     ·exact⟨a,by omega,hy⟩
   generalize hR:atI reps (i:Int)=R at ht hN mm l8 eS;have em:=Gac R.table.n R.table.rows ht mm
   have emi:∀ y∈Iaw R.table,eZ reps.length y:=by
    intro y hy;have:=(Iav.1 hy).1;rw[hN,Pbt]at this;exact this
   have eml:(Iaw R.table).length<=1000:=by
    have:=List.length_filter_le (fun y=>Lad R.table (atI y 0) (atI y 1)) (kG R.table.n.toNat);rw[xP]at this;unfold Iaw;omega
   have eMT:Iaw ⟨R.table.n,R.table.rows⟩=Iaw R.table:=rfl;rw[eMT]at em;generalize Iaw R.table=M at em emi eml eS;simp (disch:=first|assumption|omega) only[S0,rA,rQ,rB,rT,rE,d,aU,hi,hR,em];generalize hE2:Er T (Tm.loop _ _) _=E2
   have xt:∃ q,E2=some q/\∃ out',q=(.yield 3,[rL out'])/\Zan ⟨reps,bag,asked⟩ ms (fun y=>(∃ b:Nat,b<a/\y∈Iaw (sD ⟨reps,bag,asked⟩ (atI ms (b:Int))))\/y∈M) out':=by
    rw[<- hE2];refine Hag (γ:=Nat×List (List Int)) (fun c=>M.length-c.1) (fun c=>c.1<=M.length/\Zan ⟨reps,bag,asked⟩ ms (fun y=>(∃ b:Nat,b<a/\y∈Iaw (sD ⟨reps,bag,asked⟩ (atI ms (b:Int))))\/y∈M.take c.1) c.2) (fun c=>[rL c.2,rL M,i64 c.1]) _ (0,out) rfl ⟨Pby _,⟨h2.nodup,fun y=>by rw[h2.iff];simp,h2.inst⟩⟩ ?_
    rintro⟨b,o2⟩ ⟨g1,g2⟩
    simp only at g1 g2;by_cases nf:b<M.length
    rotate_left
    ·have d2:decide ((b:Int)<(M.length:Int))=false:=by simpa using nf
     obtain rfl:b=M.length:=by omega
     rw[Qb5]at g2;refine .inr ⟨(.yield 3,[rL o2]),?_,by simp,o2,rfl,g2⟩;simp (disch:=first|assumption|omega) only[S0,rA,rQ,rB,rT,rE,d2]
    ·have d2:decide ((b:Int)<(M.length:Int))=true:=by simpa using nf
     have zi:InB M (b:Int):=aP.2 nf;have vc:=emi _ (at_mem nf);have ba:=g2.step vc
     have eT2:∀ y,(((∃ b:Nat,b<a/\y∈Iaw (sD ⟨reps,bag,asked⟩ (atI ms (b:Int))))\/y∈M.take b)\/y=atI M (b:Int))↔((∃ b:Nat,b<a/\y∈Iaw (sD ⟨reps,bag,asked⟩ (atI ms (b:Int))))\/y∈M.take (b+1)):=by
      intro y;rw[<- take_at nf,List.mem_append,List.mem_singleton,or_assoc]
     have o2l:=il o2 g2.nodup g2.inst;generalize hY:atI M (b:Int)=y at vc ba eT2;have hyl:y.length=2:=vc.1;have ec:=Maj reps bag asked y hr hn vc ms (by omega) hm;have eo:(ms.any fun k=>!((jI (sD ⟨reps,bag,asked⟩ k) (atI y 0) (atI y 1)).state==3))=Aa1 ⟨reps,bag,asked⟩ ms y:=rfl;rw[eo]at ec;have eh:=Cat o2 y (by omega) (by omega);have z3:(aY.mk 1 1).run [rL y]=some [rL ([y]:List (List Int))]:=rfl;have a1:o2.length+([y]:List (List Int)).length<=100000000000:=by simp only[Pbm,Qbc];omega
     refine .inl ⟨(b+1,if Aa1 ⟨reps,bag,asked⟩ ms y&&!(o2.any fun z=>decide (y=z)) then o2++[y] else o2),?_,⟨by simp only;omega,⟨ba.nodup,fun z=>?_,ba.inst⟩⟩,by simp only;omega⟩
     ·simp only
      cases c1:Aa1 ⟨reps,bag,asked⟩ ms y
      ·rw[c1]at ec
       simp (disch:=first|assumption|omega) only[S0,rA,rQ,rB,rT,rE,d2,aU,hY,ec,Qbs,Obp]
      ·rw[c1]at ec
       cases c2:o2.any fun z=>decide (y=z)
       ·rw[c2]at eh
        simp (disch:=first|assumption|omega) only[S0,rA,rQ,rB,rT,rE,d2,aU,hY,ec,eh,z3,Wac,Qbr,Qbj]
       ·rw[c2]at eh
        simp (disch:=first|assumption|omega) only[S0,rA,rQ,rB,rT,rE,d2,aU,hY,ec,eh,Pb5,Bool.and_false,Obp]
     ·simp only
      rw[ba.iff,eT2]
   obtain⟨q,rfl,o3,rfl,g3⟩:=xt;simp (disch:=first|assumption|omega) only[S0,rA,rQ,rB,rT,rE];refine .inl ⟨(a+1,o3),rfl,⟨by simp only;omega,⟨g3.nodup,fun y=>?_,g3.inst⟩⟩,by simp only;omega⟩;simp only;rw[g3.iff,eS]
 obtain⟨q,rfl,out,rfl,hinv⟩:=key;have tU:=il out hinv.nodup hinv.inst;have hso:=Kao out (fun y hy=>(hinv.inst y hy).1) (by omega);rw[hinv.done]at hso;simp (disch:=first|assumption|omega) only[S0,rA,rQ,rB,rT,rE,hso]
theorem Kah (reps:List mD)(bag:List nD)(asked:List bW)(ms:List Int)(hr:rM reps)(hn:vV ⟨reps,bag,asked⟩=true)(hm:∀ k∈ms,0<=k/\k<=(reps.length:Int)-1)(hl:ms.length<=10000000000):Fun T 52 [rL reps,rL bag,rL asked,rL ms]=some [rL (Zaz ⟨reps,bag,asked⟩ ms)]:=by
 rw[aR (t:=Gbt) rfl];unfold Gbt
 have hg:=Eam hn;have hgr:=bL hg;simp only at hg hgr;obtain⟨N,hN⟩:∃ N:Nat,reps.length=N:=⟨_,rfl⟩
 have eM:(aY.make 8 [(.int .i64 0)]).run [i64 (reps.length:Int)]=some [rL (Ob3 reps.length (0:Int))]:=by
  have:=wU.1 (n:=(reps.length:Int)) (by omega) (by omega);rwa[Pbt]at this
 have a0c:∀ k∈ms,∃ i:Nat,k=(i:Int)/\i<reps.length/\fP (atI reps (i:Int)).table=true/\(atI reps (i:Int)).table.n=reps.length/\Eab (atI reps (i:Int)).table.rows:=by
  intro k hk;have qc:=hm k hk;obtain⟨i,rfl⟩:∃ i:Nat,k=(i:Int):=⟨k.toNat,by omega⟩;have hi:i<reps.length:=by omega
  obtain⟨ht,hN2,-⟩:=tJ hn (i:=i) hi;exact⟨i,rfl,hi,ht,hN2,(hr.2 _ (at_mem hi)).1⟩
 simp (disch:=first|assumption|omega) only[S0,rA,rQ,rB,rT,rE,eM];generalize hE:Er T (Tm.loop _ _) _=E
 have key:∃ q,E=some q/\∃ most,q=(.yield 1,[rL most])/\Cov reps.length most (fun j no=>Uaa ⟨reps,bag,asked⟩ ms j no=true):=by
  rw[<- hE];refine Hag (γ:=Nat×List Int) (fun c=>ms.length-c.1) (fun c=>c.1<=ms.length/\Cov reps.length c.2 (fun j no=>(ms.take c.1).any (fun m=>Lad (sD ⟨reps,bag,asked⟩ m) j no)=true)) (fun c=>[rL c.2,i64 c.1]) _ (0,Ob3 reps.length 0) rfl ⟨Pby _,(Cov.start _).congr fun j no _ _ _=>by simp⟩ ?_
  rintro⟨a,mo⟩ ⟨h1,h2⟩
  simp only at h1 h2;by_cases ha:a<ms.length
  rotate_left
  ·have d:decide ((a:Int)<(ms.length:Int))=false:=by simpa using ha
   obtain rfl:a=ms.length:=by omega
   rw[Qb5]at h2;refine .inr ⟨(.yield 1,[rL mo]),?_,by simp,mo,rfl,h2⟩;simp (disch:=first|assumption|omega) only[S0,rA,rQ,rB,rT,rE,d]
  have d:decide ((a:Int)<(ms.length:Int))=true:=by simpa using ha
  have hb:InB ms (a:Int):=aP.2 ha;obtain⟨i,hi,hir,ht,hTn,vn⟩:=a0c _ (at_mem ha);have oT:InB reps (i:Int):=aP.2 hir
  have eS:∀ j no,((ms.take (a+1)).any (fun m=>Lad (sD ⟨reps,bag,asked⟩ m) j no)=true)↔((ms.take a).any (fun m=>Lad (sD ⟨reps,bag,asked⟩ m) j no)=true\/Lad (atI reps (i:Int)).table j no=true):=by
   intro j no;rw[<- take_at ha,List.any_append,Pbo,hi];simp[sD]
  generalize hR:atI reps (i:Int)=R at ht hTn vn eS;have wh:=jB ht;have re:=fun l hl=>jO ht (l:=l) hl
  have htg:=dL ht;have hsm1:=vn.1;simp (disch:=first|assumption|omega) only[S0,rA,rQ,rB,rT,rE,d,aU,hi,hR]
  -- qq rows of one table
  generalize hE2:Er T (Tm.loop _ _) _=E2
  have xt:∃ q,E2=some q/\∃ m2,q=(.yield 3,[rL m2])/\Cov reps.length m2 (fun j no=>(ms.take a).any (fun m=>Lad (sD ⟨reps,bag,asked⟩ m) j no)=true\/Lad R.table j no=true):=by
   rw[<- hE2]
   refine Hag (γ:=Nat×List Int) (fun c=>R.table.rows.length-c.1) (fun c=>c.1<=R.table.rows.length/\Cov reps.length c.2 (fun j no=>(ms.take a).any (fun m=>Lad (sD ⟨reps,bag,asked⟩ m) j no)=true\/∃ b:Nat,b<c.1/\((j=b/\no<=((atI R.table.rows (b:Int)).length:Int))\/∃ r∈atI R.table.rows (b:Int),Aaz r j no=true))) (fun c=>[rL c.2,i64 c.1]) _ (0,mo) rfl
    ⟨Pby _,h2.congr fun j no _ _ _=>by simp⟩ ?_
   rintro⟨b,m3⟩ ⟨g1,g2⟩
   simp only at g1 g2;by_cases nf:b<R.table.rows.length
   rotate_left
   ·have d2:decide ((b:Int)<(R.table.rows.length:Int))=false:=by simpa using nf
    obtain rfl:b=R.table.rows.length:=by omega
    refine .inr ⟨(.yield 3,[rL m3]),?_,by simp,m3,rfl,g2.congr fun j no j0 j1 _=>?_⟩
    ·simp (disch:=first|assumption|omega) only[S0,rA,rQ,rB,rT,rE,d2]
    ·refine or_congr_right ?_
     rw[Bbd];constructor
     ·rintro⟨b,hb,⟨rfl,h⟩|⟨r,jy,h⟩⟩
      ·exact .inl h
      ·exact .inr ⟨_,at_mem hb,r,jy,h⟩
     ·rintro (h|⟨l,ln,r,jy,h⟩)
      ·exact⟨j.toNat,by omega,.inl ⟨by omega,by rw[show ((j.toNat:Nat):Int)=j by omega];exact h⟩⟩
      ·obtain⟨b,hb,rfl⟩:=Qb2 ln
       exact⟨b,hb,.inr ⟨r,by rw[cB hb];exact jy,h⟩⟩
   have d2:decide ((b:Int)<(R.table.rows.length:Int))=true:=by simpa using nf
   have zi:InB R.table.rows (b:Int):=aP.2 nf;have sY:InB m3 (b:Int):=by unfold InB;rw[g2.len];omega
   obtain⟨hl6,vp⟩:=re _ (at_mem nf);have a5r:=(vn.2 _ (at_mem nf)).1;obtain⟨Q0,hQ0⟩:∃ Q0:Int->Int->Prop,Q0=(fun (j no:Int)=>((ms.take a).any (fun m=>Lad (sD ⟨reps,bag,asked⟩ m) j no)=true\/∃ b':Nat,b'<b/\((j=b'/\no<=((atI R.table.rows (b':Int)).length:Int))\/∃ r∈atI R.table.rows (b':Int),Aaz r j no=true))):=⟨_,rfl⟩;have g2':Cov reps.length m3 Q0:=by rw[hQ0];exact g2
   have g3:=g2'.most (j0:=(b:Int)) (v:=((atI R.table.rows (b:Int)).length:Int)) (by omega) (by omega) (by omega) (by omega)
   have eS2:∀ j no,((ms.take a).any (fun m=>Lad (sD ⟨reps,bag,asked⟩ m) j no)=true\/∃ b':Nat,b'<b+1/\((j=b'/\no<=((atI R.table.rows (b':Int)).length:Int))\/∃ r∈atI R.table.rows (b':Int),Aaz r j no=true)) ↔
     ((Q0 j no\/(j=b/\no<=((atI R.table.rows (b:Int)).length:Int)))\/∃ r∈atI R.table.rows (b:Int),Aaz r j no=true):=by
    intro j no;rw[hQ0];constructor
    ·rintro (h|⟨b',cF,h⟩)
     ·exact .inl (.inl (.inl h))
     ·rcases Ob2 b' b with h3|h3
      ·exact .inl (.inl (.inr ⟨b',h3,h⟩))
      ·obtain rfl:b'=b:=by omega
       rcases h with h|h
       ·exact .inl (.inr h)
       ·exact .inr h
    ·rintro (((h|⟨b',cF,h⟩)|h)|h)
     ·exact .inl h
     ·exact .inr ⟨b',by omega,h⟩
     ·exact .inr ⟨b,by omega,.inl h⟩
     ·exact .inr ⟨b,by omega,.inr h⟩
   generalize hL:atI R.table.rows (b:Int)=L at hl6 vp a5r g3 eS2;generalize hM3:lH m3 (b:Int) (max (atI m3 (b:Int)) (L.length:Int))=m4 at g3;simp (disch:=first|assumption|omega) only[S0,rA,rQ,rB,rT,rE,d2,aU,hL,Da1,Jaq,hM3]
   -- its settled rows
   generalize hE3:Er T (Tm.loop _ _) _=E3
   have a2x:∃ q,E3=some q/\∃ m5,q=(.yield 5,[rL m5])/\Cov reps.length m5 (fun j no=>(Q0 j no\/(j=b/\no<=(L.length:Int)))\/∃ r∈L,Aaz r j no=true):=by
    rw[<- hE3]
    refine Hag (γ:=Nat×List Int) (fun c=>L.length-c.1) (fun c=>c.1<=L.length/\Cov reps.length c.2 (fun j no=>(Q0 j no\/(j=b/\no<=(L.length:Int)))\/∃ r∈L.take c.1,Aaz r j no=true)) (fun c=>[rL c.2,i64 c.1]) _ (0,m4) rfl
     ⟨Pby _,g3.congr fun j no _ _ _=>by simp⟩ ?_
    rintro⟨c,m5⟩ ⟨f1,f2⟩
    simp only at f1 f2;by_cases ju:c<L.length
    rotate_left
    ·have d3:decide ((c:Int)<(L.length:Int))=false:=by simpa using ju
     obtain rfl:c=L.length:=by omega
     rw[Qb5]at f2;refine .inr ⟨(.yield 5,[rL m5]),?_,by simp,m5,rfl,f2⟩;simp (disch:=first|assumption|omega) only[S0,rA,rQ,rB,rT,rE,d3]
    have d3:decide ((c:Int)<(L.length:Int))=true:=by simpa using ju
    have hbc:InB L (c:Int):=aP.2 ju;have pT:=vp _ (at_mem ju);obtain⟨dl,d6⟩:=Paj pT htg;obtain⟨Q1,hQ1⟩:∃ Q1:Int->Int->Prop,Q1=(fun (j no:Int)=>((Q0 j no\/(j=b/\no<=(L.length:Int)))\/∃ r∈L.take c,Aaz r j no=true)):=⟨_,rfl⟩;have f2':Cov reps.length m5 Q1:=by rw[hQ1];exact f2
    have eS3:∀ j no,((Q0 j no\/(j=b/\no<=(L.length:Int)))\/∃ r∈L.take (c+1),Aaz r j no=true)↔(Q1 j no\/Aaz (atI L (c:Int)) j no=true):=by
     intro j no;rw[hQ1,<- take_at ju];simp only;rw[or_assoc (a:=(Q0 j no\/(j=b/\no<=(L.length:Int))))];refine or_congr_right ?_;constructor
     ·rintro⟨r,jy,h⟩
      rcases List.mem_append.1 jy with jy|jy
      ·exact .inl ⟨r,jy,h⟩
      ·rw[List.mem_singleton.1 jy]at h;exact .inr h
     ·rintro (⟨r,jy,h⟩|h)
      ·exact⟨r,List.mem_append.2 (.inl jy),h⟩
      ·exact⟨_,List.mem_append.2 (.inr (List.mem_singleton.2 rfl)),h⟩
    generalize hRr:atI L (c:Int)=r at dl d6 eS3;simp (disch:=first|assumption|omega) only[S0,rA,rQ,rB,rT,rE,d3,aU,hRr]
    -- what it hangs on
    generalize hE4:Er T (Tm.loop _ _) _=E4
    have a4a:∃ q,E4=some q/\∃ m6,q=(.yield 7,[rL m6])/\Cov reps.length m6 (fun j no=>Q1 j no\/Aaz r j no=true):=by
     rw[<- hE4]
     refine Hag (γ:=Nat×List Int) (fun c=>r.attr.deps.length-c.1) (fun c=>c.1<=r.attr.deps.length/\Cov reps.length c.2 (fun j no=>Q1 j no\/(j<c.1/\Aaz r j no=true))) (fun c=>[rL c.2,i64 c.1]) _ (0,m5) rfl
      ⟨Pby _,f2'.congr fun j no j0 _ _=>by constructor;exact .inl;rintro (h|⟨h,-⟩);exact h;simp only at h;omega⟩ ?_
     rintro⟨e,m6⟩ ⟨k1,k2⟩
     simp only at k1 k2;by_cases sk:e<r.attr.deps.length
     rotate_left
     ·have d4:decide ((e:Int)<(r.attr.deps.length:Int))=false:=by simpa using sk
      refine .inr ⟨(.yield 7,[rL m6]),?_,by simp,m6,rfl,k2.congr fun j no j0 j1 _=>?_⟩
      ·simp (disch:=first|assumption|omega) only[S0,rA,rQ,rB,rT,rE,d4]
      ·exact or_congr_right ⟨fun h=>h.2,fun h=>⟨by omega,h⟩⟩
     have d4:decide ((e:Int)<(r.attr.deps.length:Int))=true:=by simpa using sk
     have hbe:InB r.attr.deps (e:Int):=aP.2 sk;have zj:InB m6 (e:Int):=by unfold InB;rw[k2.len];omega
     have hd:=d6 _ (at_mem sk);cases c3:(r.state==3)
     ·refine .inl ⟨(e+1,m6),?_,⟨by simp only;omega,k2.congr fun j no j0 j1 _=>?_⟩,by simp only;omega⟩
      ·simp (disch:=first|assumption|omega) only[S0,rA,rQ,rB,rT,rE,d4,aU,c3]
      ·have hf:Aaz r j no=false:=by unfold Aaz;rw[c3];rfl
       rw[hf];simp
     ·have k3:=k2.most (j0:=(e:Int)) (v:=atI r.attr.deps (e:Int)) (by omega) (by omega) (by omega) (by omega)
      refine .inl ⟨(e+1,lH m6 (e:Int) (max (atI m6 (e:Int)) (atI r.attr.deps (e:Int)))),?_,⟨by simp only;omega,k3.congr fun j no j0 j1 _=>?_⟩,by simp only;omega⟩
      ·simp (disch:=first|assumption|omega) only[S0,rA,rQ,rB,rT,rE,d4,aU,c3,Da1,Jaq]
      ·have hf:Aaz r j no=decide (no<=atI r.attr.deps j):=by unfold Aaz;rw[c3];rfl
       rw[hf,decide_eq_true_eq,or_assoc];refine or_congr_right ?_;constructor
       ·rintro (⟨h1,h2⟩|⟨rfl,h2⟩)
        ·exact⟨by simp only;omega,h2⟩
        ·exact⟨by simp only;omega,h2⟩
       ·rintro⟨h1,h2⟩
        by_cases hj:j<(e:Int)
        ·exact .inl ⟨hj,h2⟩
        ·simp only at h1
         obtain rfl:j=(e:Int):=by omega
         exact .inr ⟨rfl,h2⟩
    obtain⟨q,rfl,m6,rfl,k2⟩:=a4a;simp (disch:=first|assumption|omega) only[S0,rA,rQ,rB,rT,rE];exact .inl ⟨(c+1,m6),rfl,⟨by simp only;omega,k2.congr fun j no _ _ _=>(eS3 j no).symm⟩,by simp only;omega⟩
   obtain⟨q,rfl,m5,rfl,f2⟩:=a2x;simp (disch:=first|assumption|omega) only[S0,rA,rQ,rB,rT,rE];exact .inl ⟨(b+1,m5),rfl,⟨by simp only;omega,f2.congr fun j no _ _ _=>(eS2 j no).symm⟩,by simp only;omega⟩
  obtain⟨q,rfl,m2,rfl,g2⟩:=xt;simp (disch:=first|assumption|omega) only[S0,rA,rQ,rB,rT,rE];exact .inl ⟨(a+1,m2),rfl,⟨by simp only;omega,g2.congr fun j no _ _ _=>(eS j no).symm⟩,by simp only;omega⟩
 obtain⟨q,rfl,most,rfl,th⟩:=key;have hML:=th.len
 -- what is gathered
 have hO:Zaz ⟨reps,bag,asked⟩ ms=rY (fun y=>Uaa ⟨reps,bag,asked⟩ ms (atI y 0) (atI y 1)&&Aa1 ⟨reps,bag,asked⟩ ms y) reps.length:=rfl;rw[hO];generalize hf:(fun y:List Int=>Uaa ⟨reps,bag,asked⟩ ms (atI y 0) (atI y 1)&&Aa1 ⟨reps,bag,asked⟩ ms y)=f;have z0:D.rows 1 []=rL ([]:List (List Int)):=rfl;simp (disch:=first|assumption|omega) only[S0,rA,rQ,rB,rT,rE,z0];rw[Na9 reps.length (fun k=>[rL (rY f k),i64 k]) (.yield 9,[rL (rY f reps.length)]) (by rfl) (by simp)]
 ·simp (disch:=first|assumption|omega) only[S0,rA,rQ,rB,rT,rE]
 ·intro k hk ar
  have hbm:InB most (k:Int):=by unfold InB;rw[th.len];omega
  have qj:=th.rng _ (jL hbm);have xu:=fun no:Int=>th.iff (k:Int) no (by omega) (by omega)
  have n5:=Laa f k;obtain⟨M,hM⟩:∃ M:Nat,atI most (k:Int)=(M:Int):=⟨(atI most (k:Int)).toNat,by omega⟩;rw[hM]at qj xu
  have a4l:nX f (k:Int) M=nX f (k:Int) 6:=by
   refine Tax (by omega) fun i h1 h2=>?_
   have:=xu ((i:Int)+1) (by omega);rw[<- hf];show (Uaa ⟨reps,bag,asked⟩ ms (k:Int) ((i:Int)+1)&&_)=false
   cases hq:Uaa ⟨reps,bag,asked⟩ ms (k:Int) ((i:Int)+1)
   ·rfl
   ·have:=this.2 hq;omega
  simp (disch:=first|assumption|omega) only[S0,rA,rQ,rB,rT,rE,ar];rw[Na9 M (fun m=>[rL (rY f k++nX f k m),i64 ((m:Int)+1)]) (.yield 11,[rL (rY f k++nX f k M)]) (by rw[show nX f (k:Int) 0=[] from rfl,Pbc];rfl) (by simp)]
  ·rw[Ga8,<- a4l]
   simp (disch:=first|assumption|omega) only[S0,rA,rQ,rB,rT,rE]
  ·intro m yc _
   have d6:decide ((m:Int)+1<=(M:Int))=true:=by simp;omega
   have yw:=Ka8 f (k:Int) m;have hq:=(xu ((m:Int)+1) (by omega)).1 (by omega)
   have ef:f [(k:Int),(m:Int)+1]=Aa1 ⟨reps,bag,asked⟩ ms [(k:Int),(m:Int)+1]:=by
    rw[<- hf];show (Uaa ⟨reps,bag,asked⟩ ms (k:Int) ((m:Int)+1)&&_)=_
    rw[hq];rfl
   rw[Aa0,ef];have z2:(aY.mk 1 2).run [i64 (k:Int),i64 ((m:Int)+1)]=some [rL ([(k:Int),(m:Int)+1]:List Int)]:=rfl;have z3:(aY.mk 1 1).run [rL ([(k:Int),(m:Int)+1]:List Int)]=some [rL ([[(k:Int),(m:Int)+1]]:List (List Int))]:=rfl;have em:((m+1:Nat):Int)+1=(m:Int)+1+1:=by omega
   have a2u:∀ i,(ms.take i).all (fun q=>(jI (sD ⟨reps,bag,asked⟩ q) (k:Int) ((m:Int)+1)).state==3)=!((ms.take i).any fun q=>!((jI (sD ⟨reps,bag,asked⟩ q) (k:Int) ((m:Int)+1)).state==3)):=by
    intro i;rw[List.not_any_eq_all_not];simp
   simp (disch:=first|assumption|omega) only[S0,rA,rQ,rB,rT,rE,aU,hM,d6];rw[Na9 ms.length (fun i=>[.bool ((ms.take i).all fun q=>(jI (sD ⟨reps,bag,asked⟩ q) (k:Int) ((m:Int)+1)).state==3),i64 i]) (.yield 13,[.bool (!Aa1 ⟨reps,bag,asked⟩ ms [(k:Int),(m:Int)+1])]) (by rfl) (by simp)]
   ·cases c:Aa1 ⟨reps,bag,asked⟩ ms [(k:Int),(m:Int)+1]
    ·simp only[Obp,if_false,Pbc]
     simp (disch:=first|assumption|omega) only[S0,rA,rQ,rB,rT,rE,em,Qbr,Pb5,Obp]
    ·have a1:(rY f k++nX f (k:Int) m).length+([[(k:Int),(m:Int)+1]]:List (List Int)).length<=100000000000:=by rw[Obv];simp only[Pbm,Qbc];omega
     simp only[if_true];rw[<- Obs];simp (disch:=first|assumption|omega) only[S0,rA,rQ,rB,rT,rE,z2,z3,Wac,em,Qbr,Pb5]
   ·intro i hi tp
    have zl:InB ms (i:Int):=aP.2 hi;obtain⟨p,hp,a4h,ht,hTn,vn⟩:=a0c _ (at_mem hi);have hbp:InB reps (p:Int):=aP.2 a4h
    have es:((ms.take (i+1)).all fun q=>(jI (sD ⟨reps,bag,asked⟩ q) (k:Int) ((m:Int)+1)).state==3)=(((ms.take i).all fun q=>(jI (sD ⟨reps,bag,asked⟩ q) (k:Int) ((m:Int)+1)).state==3)&&((jI (atI reps (p:Int)).table (k:Int) ((m:Int)+1)).state==3)):=by
     rw[<- take_at hi,List.all_append,hp];simp[sD]
    rw[es];generalize ((ms.take i).all fun q=>(jI (sD ⟨reps,bag,asked⟩ q) (k:Int) ((m:Int)+1)).state==3)=b0;generalize hR:atI reps (p:Int)=R at ht hTn vn;have qm:InB R.table.rows (k:Int):=by have:=jB ht;unfold InB;omega
    have e:=Tab R.table.n R.table.rows (k:Int) ((m:Int)+1) (dL ht) vn qm (by omega) (by omega);have e':(jI ⟨R.table.n,R.table.rows⟩ (k:Int) ((m:Int)+1))=jI R.table (k:Int) ((m:Int)+1):=rfl;rw[e']at e;cases b0
    ·simp (disch:=first|assumption|omega) only[S0,rA,rQ,rB,rT,rE,tp,aU,hp,hR,Qbs]
    ·simp (disch:=first|assumption|omega) only[S0,rA,rQ,rB,rT,rE,tp,aU,hp,hR,e,Qbj]
   ·intro tp
    have:=a2u ms.length;rw[Qb5]at this ⊢;rw[this];simp (disch:=first|assumption|omega) only[S0,rA,rQ,rB,rT,rE,tp];rfl
  ·intro _
   have d6:decide ((M:Int)+1<=(M:Int))=false:=by simp;omega
   simp (disch:=first|assumption|omega) only[S0,rA,rQ,rB,rT,rE,aU,hM,d6]
 ·intro ar
  simp (disch:=first|assumption|omega) only[S0,rA,rQ,rB,rT,rE,ar]
theorem Da2 (reps:List mD)(bag:List nD)(asked:List bW)(ms:List Int)(h1:rM reps)(h2:Eac bag)(h3:asked.length<=10000000000)(h4:ms.length<=10000000000):Fun T 31 [rL reps,rL bag,rL asked,rL ms]=some [.bool (Cbu ⟨reps,bag,asked⟩ ms).1,.bool (Cbu ⟨reps,bag,asked⟩ ms).2]:=by
 rw[aR (t:=Hbe) rfl];unfold Hbe;unfold Cbu Hae
 cases hn:vV ⟨reps,bag,asked⟩
 ·simp (disch:=first|assumption|omega) only[S0,rA,rQ,rB,rT,rE,nJ,hn,Qbs,Obp]
 have wh:=h1.1
 have ez:((ms.length:Int)==0)=!decide (0<(ms.length:Int)):=by
  cases h:decide (0<(ms.length:Int))
  ·have:=of_decide_eq_false h
   have e:(ms.length:Int)=0:=by omega
   rw[e];rfl
  ·have:=of_decide_eq_true h
   have e:¬ (ms.length:Int)=0:=by omega
   rw[Pb5,beq_eq_false_iff_ne];exact e
 cases hl:decide (0<(ms.length:Int))
 ·rw[hl]at ez
  simp (disch:=first|assumption|omega) only[S0,rA,rQ,rB,rT,rE,nJ,hn,ez,Qbj,Qbs,Qbr,Obp]
 rw[hl]at ez;have e:=iU ms 0 ((reps.length:Int)-1) h4;cases hr:Tas ms 0 ((reps.length:Int)-1)
 ·rw[hr]at e
  simp (disch:=first|assumption|omega) only[S0,rA,rQ,rB,rT,rE,nJ,hn,ez,e,Qbj,Pb5,Qbr,Obp]
 ·rw[hr]at e
  have eo:=Kah reps bag asked ms h1 hn (fun k hk=>Pal hr k hk) h4;simp (disch:=first|assumption|omega) only[S0,rA,rQ,rB,rT,rE,nJ,hn,ez,e,eo,Qbj,Pb5,Obp]
theorem Ea1 (reps:List mD)(bag:List nD)(asked:List bW)(ms:List Int)(h1:rM reps)(h2:Eac bag)(h3:asked.length<=10000000000)(h4:ms.length<=10000000000):Fun T 58 [rL reps,rL bag,rL asked,rL ms]=some [.bool (Cbu ⟨reps,bag,asked⟩ ms).1,.bool (Cbu ⟨reps,bag,asked⟩ ms).2]:=by
 rw[aR (t:=Gbn) rfl];unfold Gbn;unfold Cbu
 have e:=Cau reps bag asked ms h1 h2 h3 h4;cases hm:Hae ⟨reps,bag,asked⟩ ms
 ·rw[hm]at e
  simp (disch:=first|assumption|omega) only[S0,rA,rQ,rB,rT,rE,e,Qbr,Obp]
 ·rw[hm]at e
  unfold Hae at hm;simp only[Obh]at hm;have eo:=Lar reps bag asked ms h1 hm.1.1 (fun k hk=>Pal hm.2 k hk) h4;simp (disch:=first|assumption|omega) only[S0,rA,rQ,rB,rT,rE,e,eo,Pb5,Obp]
theorem law (az:(List mD))(bl:(List nD))(av:(List bW))(members:(List Int))(a1h:Ha4 ⟨az,bl,av⟩)(lh:members.length<=140737488351232):Fun T 0 [rL az,rL bl,rL av,rL members]=some [.bool true]:=by
 rw[aR (t:=tm0) rfl];unfold tm0
 by_cases mf:(1048576:Int)<(members.length:Int)
 ·have ql:decide ((1048576:Int)<(members.length:Int))=true:=by simpa using mf
  (refine aD ?_;repeat' (refine aC ?_ ?_<;>intro _<;>try simp (disch:=first|assumption|omega) only[S0,rA,rQ,rB,rT,rE,lt0,Ib2, *]))
 have ql:decide ((1048576:Int)<(members.length:Int))=false:=by simpa using mf
 have s3_members:members.length<=1048576:=by omega
 by_cases c_x:((fQ ⟨az,bl,av⟩:Nat):Int)<=1048576
 rotate_left
 ·have e:szR (1048576) (fQ ⟨az,bl,av⟩)=-1:=if_neg c_x
  (refine aD ?_;repeat' (refine aC ?_ ?_<;>intro _<;>try simp (disch:=first|assumption|omega) only[S0,rA,rQ,rB,rT,rE,Pax,lt0,Ib2, *]))
 have e_x:szR (1048576) (fQ ⟨az,bl,av⟩)=1048576-((fQ ⟨az,bl,av⟩:Nat):Int):=if_pos c_x;have a5x:fQ ⟨az,bl,av⟩<=1048576:=by omega
 have xb:fQ ⟨az,bl,av⟩<=1099511627776:=by omega
 have ux:=a5x;rw[Ca2]at ux;simp only at ux;have m1_x_reps:szL aW az<=1099511627776:=by first|omega|(have h:=xb;rw[dF]at h;exact h)
 have m2_x_reps:ctL Fal az<=1125899906842624:=by have:=nS (c:=Fal) (f:=aW) (m:=16) (by omega) Ya7 az;omega
 have m1_x_bag:szL bA bl<=1099511627776:=by first|omega|(have h:=xb;rw[dF]at h;exact h)
 have m2_x_bag:ctL Fam bl<=1125899906842624:=by have:=nS (c:=Fam) (f:=bA) (m:=16) (by omega) Ya8 bl;omega
 have m1_x_asked:av.length<=1099511627776:=by first|omega|(have h:=xb;rw[dF]at h;exact h)
 have m2_x_asked:ctL uG av<=1125899906842624:=by have:=nS (c:=uG) (f:=(fun _=>0)) (m:=16) (by omega) Saf av;simp only[dF]at *;omega
 have s1_members:szL (fun _=>0) members<=1048576:=by rw[dF];omega
 have pd:szL (fun _=>0) members<=1099511627776:=by omega
 have m1_members:members.length<=1099511627776:=by first|omega|(have h:=pd;rw[dF]at h;exact h)
 have m2_members:ctL (fun _=>1) members<=1125899906842624:=by have:=nS (c:=(fun _=>1)) (f:=(fun _=>0)) (m:=16) (by omega) (fun _=>by simp) members;simp only[dF]at *;omega
 have n1:rM az:=Tak (by have:=Ca2 ⟨az,bl,av⟩;simp only at this;omega);have n2:Eac bl:=Tal (by have:=Ca2 ⟨az,bl,av⟩;simp only at this;omega)
 have n3:av.length<=10000000000:=by
  have:=Ca2 ⟨az,bl,av⟩;simp only at this;have:=gB (f:=fun _=>0) (xs:=av);omega
 have n4:members.length<=10000000000:=by omega
 (refine aD ?_;repeat' (refine aC ?_ ?_<;>intro _<;>try simp (disch:=first|assumption|omega) only[S0,rA,rQ,rB,rT,rE,Pax,Yad,Uae,Da2,Ea1,Yag,Uak,lt0,Ib2, *]))
theorem hpure:∀ ds,WTs [.sl 64 [.int .i64,.int .i64,.sl 24 [.sl 96 [.int .i64,.int .i64,.int .i64,.int .i64,.int .i64,.int .i64,.int .i64,.int .i64,.int .i64,.sl 8 [.int .i64]]],.sl 192 [.int .i64,.int .i64,.int .i64,.int .i64,.int .i64,.int .i64,.int .i64,.int .i64,.int .i64,.int .i64,.sl 8 [.int .i64],.int .i64,.sl 8 [.int .i64],.bool,.sl 8 [.int .i64],.sl 96 [.int .i64,.int .i64,.int .i64,.int .i64,.int .i64,.int .i64,.int .i64,.int .i64,.int .i64,.sl 8 [.int .i64]]]],.sl 136 [.int .i64,.int .i64,.int .i64,.int .i64,.int .i64,.int .i64,.int .i64,.int .i64,.int .i64,.int .i64,.int .i64,.int .i64,.int .i64,.int .i64,.sl 8 [.int .i64]],.sl 56 [.int .i64,.int .i64,.int .i64,.int .i64,.int .i64,.int .i64,.int .i64],.sl 8 [.int .i64]] ds->∃ n,jA T n 0 ds=some [.bool true]:=by
 intro ds h;simp only[WTs]at h;obtain⟨d0,r0,rfl,w0,d1,r1,rfl,w1,d2,r2,rfl,w2,d3,r3,rfl,w3,rfl⟩:=h;obtain⟨x,e_x,a1h⟩:=Ya2 [d0,d1,d2] (by simp only[WTs];exact⟨_,_,rfl,w0,_,_,rfl,w1,_,_,rfl,w2,rfl⟩);simp only[Enc.enc,List.cons.injEq,and_true]at e_x;obtain⟨rfl,rfl,rfl⟩:=e_x;obtain⟨members,mc,lh⟩:=Ebz [d3] (by simp only[WTs];exact⟨_,_,rfl,w3,rfl⟩);simp only[Enc.enc,List.cons.injEq,and_true]at mc;subst mc;exact Ab6 (law (x.reps) (x.bag) (x.asked) members a1h lh)
end FnExactFinishedIn
end Go.Proofs.YtcbkmmhkccnamaaGreat
