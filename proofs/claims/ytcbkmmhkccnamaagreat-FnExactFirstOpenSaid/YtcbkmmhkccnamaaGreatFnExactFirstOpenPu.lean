import Derived.Test.YtcbkmmhkccnamaaGreatFnExactFirstOpenTab
set_option linter.all false
open Bool renaming and_eq_true → Obz, false_eq_true → Ob9, not_eq_true' → Pbs, or_eq_true → Qbb, beq_eq_decide_eq → Qbm, not_true → Qbz, false_or → Qb6, decide_and → Qb8, true_and → Rbh, not_false → Rbj, false_and → Rbk, and_assoc → Rbl, and_eq_false_iff → Rb1, or_eq_false_iff → Rb5
open Int renaming toNat_natCast → Qbh
open List renaming mem_singleton → Ob3, append_assoc → Pbd, mem_append → Pbe, length_append → Pbg, replicate → Pbp, append_nil → Pbz, length_cons → Pb9, length_take → Qbs, not_all_eq_any_not → Qbx, length_nil → Qb4, getElem_of_mem → Rbt, take_length → Rbw
open List.cons renaming injEq → Qbf
open Nat renaming lt_or_ge → Pbo, le_trans → Pb8, zero_le → Qbn
namespace Go.Proofs.YtcbkmmhkccnamaaGreat
namespace FnExactFirstOpen
open Go Go.Proofs.YtcbkmmhkccnamaaGreat.Rf
open Nat renaming reduceAdd → rA, reduceEqDiff → rQ
open Int renaming reduceBEq → rB, reduceLT → rT, reduceLE → rE
set_option maxHeartbeats 4000000
set_option maxRecDepth 10000
theorem Dah (cr oR dz ep lg:Int):Fun T 22 [i64 cr,i64 oR,i64 dz,i64 ep,i64 lg]=some [i64 cr,i64 oR,i64 dz,i64 ep,i64 lg]:=by
 rw[aR (t:=Hb7) rfl];unfold Hb7
 (refine aD ?_;repeat' (refine aC ?_ ?_<;>intro _<;>try simp (disch:=first|assumption|omega) only[S0,rA,rQ,rB,rT,rE, *]))
theorem Daj (cr oR dz ep lg:Int)(gz tU jr ji pB:Int):Fun T 130 [i64 cr,i64 oR,i64 dz,i64 ep,i64 lg,i64 gz,i64 tU,i64 jr,i64 ji,i64 pB]=some [.bool (decide ((⟨cr,oR,dz,ep,lg⟩:Cat)=⟨gz,tU,jr,ji,pB⟩))]:=by
 rw[aR (t:=Wa9) rfl];unfold Wa9
 have e:decide ((⟨cr,oR,dz,ep,lg⟩:Cat)=⟨gz,tU,jr,ji,pB⟩)=((cr==gz)&&(oR==tU)&&(dz==jr)&&(ep==ji)&&(lg==pB)):=by
  simp only[Cat.mk.injEq,Qbm,Qb8,Rbl]
 rw[e]
 (refine aD ?_;repeat' (refine aC ?_ ?_<;>intro _<;>try simp (disch:=first|assumption|omega) only[S0,rA,rQ,rB,rT,rE, *]))
theorem Eaw (xs:(List Int))(l:Int)(h0:0<=l)(h1:l<=1048576)(hw:xs.length<=140737488351232):Fun T 9 [rL xs,i64 l]=some [i64 (szR l (szL (fun _=>0) xs))]:=by
 rw[aR (t:=tm9) rfl];unfold tm9
 have es:szL (fun _=>0) xs=xs.length:=dG;rw[es];by_cases c:(xs.length:Int)<=l
 ·have e:szR l xs.length=l-xs.length:=if_pos c
  have d:decide (l-(xs.length:Int)<0)=false:=by simp;omega
  (refine aD ?_;repeat' (refine aC ?_ ?_<;>intro _<;>try simp (disch:=first|assumption|omega) only[S0,rA,rQ,rB,rT,rE, *]))
 ·have e:szR l xs.length=-1:=if_neg c
  have d:decide (l-(xs.length:Int)<0)=true:=by simp;omega
  (refine aD ?_;repeat' (refine aC ?_ ?_<;>intro _<;>try simp (disch:=first|assumption|omega) only[S0,rA,rQ,rB,rT,rE, *]))
theorem Ual (xs:(List Int))(hs:szL (fun _=>0) xs<=1048576):Fun T 24 [rL xs]=some [rL xs]:=by
 rw[aR (t:=Hbz) rfl];unfold Hbz
 have hl:xs.length<=1048576:=Pb8 gH hs;simp (disch:=first|assumption|omega) only[S0,rA,rQ,rB,rT,rE,wZ,Qbh, *];rw[Da0 xs rfl]
 ·(refine aD ?_;repeat' (refine aC ?_ ?_<;>intro _<;>try simp (disch:=first|assumption|omega) only[S0,rA,rQ,rB,rT,rE, *]))
 ·intro i ys hi hb cI eW
  (refine aD ?_;repeat' (refine aC ?_ ?_<;>intro _<;>try simp (disch:=first|assumption|omega) only[S0,rA,rQ,rB,rT,rE,aQ,Ja0, *]))
 ·intro ys eW
  (refine aD ?_;repeat' (refine aC ?_ ?_<;>intro _<;>try simp (disch:=first|assumption|omega) only[S0,rA,rQ,rB,rT,rE, *]))
theorem Uar (xs ys:(List Int))(hs:szL (fun _=>0) xs<=1099511627776):Fun T 132 [rL xs,rL ys]=some [.bool (decide (xs=ys))]:=by
 rw[aR (t:=Wa7) rfl];unfold Wa7
 have hx:xs.length<=1099511627776:=Pb8 gH hs;by_cases hl:ys.length=xs.length
 ·simp (disch:=first|assumption|omega) only[S0,rA,rQ,rB,rT,rE, *]
  rw[Eak 1 xs.length (fun i=>decide (atI xs i=atI ys i)) [.bool false],rF hl.symm]
  ·(refine aD ?_;repeat' (refine aC ?_ ?_<;>intro _<;>try simp (disch:=first|assumption|omega) only[S0,rA,rQ,rB,rT,rE, *]))
  ·intro i hi hp
   have hb:InB xs (i:Int):=aO.2 hi;have cI:InB ys (i:Int):=aO.2 (by omega);have h2:decide ((i:Int)<xs.length)=true:=by simp;omega
   have h3:(atI xs i==atI ys i)=true:=by simpa using hp
   (refine aD ?_;repeat' (refine aC ?_ ?_<;>intro _<;>try simp (disch:=first|assumption|omega) only[S0,rA,rQ,rB,rT,rE,aQ, *]))
  ·intro i hi hp
   have hb:InB xs (i:Int):=aO.2 hi;have cI:InB ys (i:Int):=aO.2 (by omega);have h2:decide ((i:Int)<xs.length)=true:=by simp;omega
   have h3:(atI xs i==atI ys i)=false:=by simpa using hp
   (refine aD ?_;repeat' (refine aC ?_ ?_<;>intro _<;>try simp (disch:=first|assumption|omega) only[S0,rA,rQ,rB,rT,rE,aQ, *]))
  ·have h2:decide ((xs.length:Int)<xs.length)=false:=by simp
   (refine aD ?_;repeat' (refine aC ?_ ?_<;>intro _<;>try simp (disch:=first|assumption|omega) only[S0,rA,rQ,rB,rT,rE, *]))
 ·have eW:((xs.length:Int)==(ys.length:Int))=false:=by simp;omega
  have e:=Aae (fun h=>hl h.symm)
  (refine aD ?_;repeat' (refine aC ?_ ?_<;>intro _<;>try simp (disch:=first|assumption|omega) only[S0,rA,rQ,rB,rT,rE, *]))
theorem fJ (fy:Int)(cm:(List Int))(l:Int)(h0:0<=l)(h1:l<=1048576)(hw:uZ ⟨fy,cm⟩):Fun T 8 [i64 fy,rL cm,i64 l]=some [i64 (szR l (aK ⟨fy,cm⟩))]:=by
 rw[aR (t:=tm8) rfl];unfold tm8
 unfold uZ at hw;simp only at hw;have w0:=hw;by_cases c0:((szL (fun _=>0) cm:Nat):Int)<=l
 rotate_left
 ·have e0:szR (l) (szL (fun _=>0) cm)=-1:=if_neg c0
  have d0:decide ((-1:Int)<0)=true:=rfl;have e:szR l (aK ⟨fy,cm⟩)=-1:=by unfold szR aK;simp only[];split<;>omega
  (refine aD ?_;repeat' (refine aC ?_ ?_<;>intro _<;>try simp (disch:=first|assumption|omega) only[S0,rA,rQ,rB,rT,rE,Eaw, *]))
 have e0:szR (l) (szL (fun _=>0) cm)=l-(szL (fun _=>0) cm:Nat):=if_pos c0;have d0:decide (l-((szL (fun _=>0) cm:Nat):Int)<0)=false:=by simp;omega
 have e:szR l (aK ⟨fy,cm⟩)=l-((szL (fun _=>0) cm:Nat):Int):=by unfold szR aK;simp only[];split<;>omega
 (refine aD ?_;repeat' (refine aC ?_ ?_<;>intro _<;>try simp (disch:=first|assumption|omega) only[S0,rA,rQ,rB,rT,rE,Eaw, *]))
theorem Eav (fy:Int)(cm:(List Int))(hs:aK ⟨fy,cm⟩<=1048576):Fun T 23 [i64 fy,rL cm]=some [i64 fy,rL cm]:=by
 rw[aR (t:=Hb6) rfl];unfold Hb6
 unfold aK at hs;simp only at hs;have s0:szL (fun _=>0) cm<=1048576:=by omega
 (refine aD ?_;repeat' (refine aC ?_ ?_<;>intro _<;>try simp (disch:=first|assumption|omega) only[S0,rA,rQ,rB,rT,rE,Ual, *]))
theorem Eaz (fy:Int)(cm:(List Int))(pt:Int)(mL:(List Int))(hs:aK ⟨fy,cm⟩<=1099511627776):Fun T 131 [i64 fy,rL cm,i64 pt,rL mL]=some [.bool (decide ((⟨fy,cm⟩:eZ)=⟨pt,mL⟩))]:=by
 rw[aR (t:=Wa8) rfl];unfold Wa8
 unfold aK at hs;simp only at hs;have s0:szL (fun _=>0) cm<=1099511627776:=by omega
 have e:decide ((⟨fy,cm⟩:eZ)=⟨pt,mL⟩)=((fy==pt)&&decide ((cm:(List Int))=mL)):=by
  simp only[eZ.mk.injEq,Qbm,Qb8,Rbl]
 rw[e]
 (refine aD ?_;repeat' (refine aC ?_ ?_<;>intro _<;>try simp (disch:=first|assumption|omega) only[S0,rA,rQ,rB,rT,rE,Uar, *]))
theorem Pa5 (ar bw bg ae ao ah aj ak ab:Int)(aa:(List Int))(l:Int)(h0:0<=l)(h1:l<=1048576)(hw:mH ⟨ar,bw,bg,⟨ae,ao,ah,aj,ak⟩,⟨ab,aa⟩⟩):Fun T 7 [i64 ar,i64 bw,i64 bg,i64 ae,i64 ao,i64 ah,i64 aj,i64 ak,i64 ab,rL aa,i64 l]=some [i64 (szR l (aL ⟨ar,bw,bg,⟨ae,ao,ah,aj,ak⟩,⟨ab,aa⟩⟩))]:=by
 rw[aR (t:=tm7) rfl];unfold tm7
 unfold mH at hw;simp only at hw;have w0:=hw;by_cases c0:((aK ⟨ab,aa⟩:Nat):Int)<=l
 rotate_left
 ·have e0:szR (l) (aK ⟨ab,aa⟩)=-1:=if_neg c0
  have d0:decide ((-1:Int)<0)=true:=rfl;have e:szR l (aL ⟨ar,bw,bg,⟨ae,ao,ah,aj,ak⟩,⟨ab,aa⟩⟩)=-1:=by unfold szR aL;simp only[];split<;>omega
  (refine aD ?_;repeat' (refine aC ?_ ?_<;>intro _<;>try simp (disch:=first|assumption|omega) only[S0,rA,rQ,rB,rT,rE,fJ, *]))
 have e0:szR (l) (aK ⟨ab,aa⟩)=l-(aK ⟨ab,aa⟩:Nat):=if_pos c0;have d0:decide (l-((aK ⟨ab,aa⟩:Nat):Int)<0)=false:=by simp;omega
 have e:szR l (aL ⟨ar,bw,bg,⟨ae,ao,ah,aj,ak⟩,⟨ab,aa⟩⟩)=l-((aK ⟨ab,aa⟩:Nat):Int):=by unfold szR aL;simp only[];split<;>omega
 (refine aD ?_;repeat' (refine aC ?_ ?_<;>intro _<;>try simp (disch:=first|assumption|omega) only[S0,rA,rQ,rB,rT,rE,fJ, *]))
theorem Yan (ar bw bg ae ao ah aj ak ab:Int)(aa:(List Int))(hs:aL ⟨ar,bw,bg,⟨ae,ao,ah,aj,ak⟩,⟨ab,aa⟩⟩<=1048576):Fun T 21 [i64 ar,i64 bw,i64 bg,i64 ae,i64 ao,i64 ah,i64 aj,i64 ak,i64 ab,rL aa]=some [i64 ar,i64 bw,i64 bg,i64 ae,i64 ao,i64 ah,i64 aj,i64 ak,i64 ab,rL aa]:=by
 rw[aR (t:=Hb8) rfl];unfold Hb8
 unfold aL at hs;simp only at hs;have s0:aK ⟨ab,aa⟩<=1048576:=by omega
 (refine aD ?_;repeat' (refine aC ?_ ?_<;>intro _<;>try simp (disch:=first|assumption|omega) only[S0,rA,rQ,rB,rT,rE,Dah,Eav, *]))
theorem Pa9 (ar bw bg ae ao ah aj ak ab:Int)(aa:(List Int))(cF gx fm bh b3 bo bm bn b4:Int)(bq:(List Int))(hs:aL ⟨ar,bw,bg,⟨ae,ao,ah,aj,ak⟩,⟨ab,aa⟩⟩<=1099511627776):Fun T 129 [i64 ar,i64 bw,i64 bg,i64 ae,i64 ao,i64 ah,i64 aj,i64 ak,i64 ab,rL aa,i64 cF,i64 gx,i64 fm,i64 bh,i64 b3,i64 bo,i64 bm,i64 bn,i64 b4,rL bq]=some [.bool (decide ((⟨ar,bw,bg,⟨ae,ao,ah,aj,ak⟩,⟨ab,aa⟩⟩:dQ)=⟨cF,gx,fm,⟨bh,b3,bo,bm,bn⟩,⟨b4,bq⟩⟩))]:=by
 rw[aR (t:=Xaa) rfl];unfold Xaa
 unfold aL at hs;simp only at hs;have s0:aK ⟨ab,aa⟩<=1099511627776:=by omega
 have e:decide ((⟨ar,bw,bg,⟨ae,ao,ah,aj,ak⟩,⟨ab,aa⟩⟩:dQ)=⟨cF,gx,fm,⟨bh,b3,bo,bm,bn⟩,⟨b4,bq⟩⟩)=((ar==cF)&&(bw==gx)&&(bg==fm)&&decide ((⟨ae,ao,ah,aj,ak⟩:Cat)=⟨bh,b3,bo,bm,bn⟩)&&decide ((⟨ab,aa⟩:eZ)=⟨b4,bq⟩)):=by
  simp only[dQ.mk.injEq,Qbm,Qb8,Rbl]
 rw[e]
 (refine aD ?_;repeat' (refine aC ?_ ?_<;>intro _<;>try simp (disch:=first|assumption|omega) only[S0,rA,rQ,rB,rT,rE,Daj,Eaz, *]))
theorem mR (xs:(List dQ))(l:Int)(h0:0<=l)(h1:l<=1048576)(hw:xs.length<=140737488351232/\∀ y0∈xs,mH y0):Fun T 6 [rL xs,i64 l]=some [i64 (szR l (szL aL xs))]:=by
 rw[aR (t:=tm6) rfl];unfold tm6
 obtain⟨y3,pN⟩:=hw;by_cases c:(xs.length:Int)<=l
 ·have d:decide (l-(xs.length:Int)<0)=false:=by simp;omega
  simp (disch:=first|assumption|omega) only[S0,rA,rQ,rB,rT,rE, *];rw[Kak xs aL (l-xs.length) rfl (by omega) (by omega)]
  ·by_cases hd:((xs.map aL).sum:Int)<=l-xs.length
   ·have e:szR l (szL aL xs)=l-xs.length-((xs.map aL).sum:Nat):=by unfold szR;rw[show (szL aL xs)=xs.length+(xs.map aL).sum from rfl,if_pos (by omega)];omega
    rw[decide_eq_true hd]
    (refine aD ?_;repeat' (refine aC ?_ ?_<;>intro _<;>try simp (disch:=first|assumption|omega) only[S0,rA,rQ,rB,rT,rE, *]))
   ·have e:szR l (szL aL xs)=-1:=by unfold szR;rw[show (szL aL xs)=xs.length+(xs.map aL).sum from rfl,if_neg (by omega)]
    rw[decide_eq_false hd]
    (refine aD ?_;repeat' (refine aC ?_ ?_<;>intro _<;>try simp (disch:=first|assumption|omega) only[S0,rA,rQ,rB,rT,rE, *]))
  ·intro i m hi hb hl hm nf hf hr hd
   have hq:=pN _ (at_mem hi)
   (refine aD ?_;repeat' (refine aC ?_ ?_<;>intro _<;>try simp (disch:=first|assumption|omega) only[S0,rA,rQ,rB,rT,rE,aQ,Pa5, *]))
  ·intro i m hi hb hl hm nf hf hr hd
   have hq:=pN _ (at_mem hi)
   (refine aD ?_;repeat' (refine aC ?_ ?_<;>intro _<;>try simp (disch:=first|assumption|omega) only[S0,rA,rQ,rB,rT,rE,aQ,Pa5, *]))
  ·intro m hl
   (refine aD ?_;repeat' (refine aC ?_ ?_<;>intro _<;>try simp (disch:=first|assumption|omega) only[S0,rA,rQ,rB,rT,rE, *]))
 ·have e:szR l (szL aL xs)=-1:=by unfold szR;rw[show (szL aL xs)=xs.length+(xs.map aL).sum from rfl,if_neg (by omega)]
  have d:decide (l-(xs.length:Int)<0)=true:=by simp;omega
  (refine aD ?_;repeat' (refine aC ?_ ?_<;>intro _<;>try simp (disch:=first|assumption|omega) only[S0,rA,rQ,rB,rT,rE, *]))
theorem Lao (xs:(List dQ))(hs:szL aL xs<=1048576):Fun T 20 [rL xs]=some [rL xs]:=by
 rw[aR (t:=Hb9) rfl];unfold Hb9
 have hl:xs.length<=1048576:=Pb8 gH hs;simp (disch:=first|assumption|omega) only[S0,rA,rQ,rB,rT,rE,wZ,Qbh, *];rw[Da0 xs rfl]
 ·(refine aD ?_;repeat' (refine aC ?_ ?_<;>intro _<;>try simp (disch:=first|assumption|omega) only[S0,rA,rQ,rB,rT,rE, *]))
 ·intro i ys hi hb cI eW
  have hq:aL (atI xs i)<=1048576:=by
   have:=fZ (f:=aL) (at_mem hi);omega
  (refine aD ?_;repeat' (refine aC ?_ ?_<;>intro _<;>try simp (disch:=first|assumption|omega) only[S0,rA,rQ,rB,rT,rE,aQ,Ja0,Yan, *]))
 ·intro ys eW
  (refine aD ?_;repeat' (refine aC ?_ ?_<;>intro _<;>try simp (disch:=first|assumption|omega) only[S0,rA,rQ,rB,rT,rE, *]))
theorem Ea0 (xs ys:(List dQ))(hs:szL aL xs<=1099511627776):Fun T 128 [rL xs,rL ys]=some [.bool (decide (xs=ys))]:=by
 rw[aR (t:=Xab) rfl];unfold Xab
 have hx:xs.length<=1099511627776:=Pb8 gH hs;by_cases hl:ys.length=xs.length
 ·simp (disch:=first|assumption|omega) only[S0,rA,rQ,rB,rT,rE, *]
  rw[Eak 1 xs.length (fun i=>decide (atI xs i=atI ys i)) [.bool false],rF hl.symm]
  ·(refine aD ?_;repeat' (refine aC ?_ ?_<;>intro _<;>try simp (disch:=first|assumption|omega) only[S0,rA,rQ,rB,rT,rE, *]))
  ·intro i hi hp
   have hb:InB xs (i:Int):=aO.2 hi;have cI:InB ys (i:Int):=aO.2 (by omega);have h2:decide ((i:Int)<xs.length)=true:=by simp;omega
   have hq:aL (atI xs i)<=1099511627776:=by
    have:=fZ (f:=aL) (at_mem hi);omega
   (refine aD ?_;repeat' (refine aC ?_ ?_<;>intro _<;>try simp (disch:=first|assumption|omega) only[S0,rA,rQ,rB,rT,rE,aQ,Pa9, *]))
  ·intro i hi hp
   have hb:InB xs (i:Int):=aO.2 hi;have cI:InB ys (i:Int):=aO.2 (by omega);have h2:decide ((i:Int)<xs.length)=true:=by simp;omega
   have hq:aL (atI xs i)<=1099511627776:=by
    have:=fZ (f:=aL) (at_mem hi);omega
   (refine aD ?_;repeat' (refine aC ?_ ?_<;>intro _<;>try simp (disch:=first|assumption|omega) only[S0,rA,rQ,rB,rT,rE,aQ,Pa9, *]))
  ·have h2:decide ((xs.length:Int)<xs.length)=false:=by simp
   (refine aD ?_;repeat' (refine aC ?_ ?_<;>intro _<;>try simp (disch:=first|assumption|omega) only[S0,rA,rQ,rB,rT,rE, *]))
 ·have eW:((xs.length:Int)==(ys.length:Int))=false:=by simp;omega
  have e:=Aae (fun h=>hl h.symm)
  (refine aD ?_;repeat' (refine aC ?_ ?_<;>intro _<;>try simp (disch:=first|assumption|omega) only[S0,rA,rQ,rB,rT,rE, *]))
theorem Hal (xs:(List (List dQ)))(l:Int)(h0:0<=l)(h1:l<=1048576)(hw:xs.length<=140737488351232/\∀ y0∈xs,y0.length<=140737488351232/\∀ y1∈y0,mH y1):Fun T 5 [rL xs,i64 l]=some [i64 (szR l (szL (szL aL) xs))]:=by
 rw[aR (t:=tm5) rfl];unfold tm5
 obtain⟨y3,pN⟩:=hw;by_cases c:(xs.length:Int)<=l
 ·have d:decide (l-(xs.length:Int)<0)=false:=by simp;omega
  simp (disch:=first|assumption|omega) only[S0,rA,rQ,rB,rT,rE, *];rw[Kak xs (szL aL) (l-xs.length) rfl (by omega) (by omega)]
  ·by_cases hd:((xs.map (szL aL)).sum:Int)<=l-xs.length
   ·have e:szR l (szL (szL aL) xs)=l-xs.length-((xs.map (szL aL)).sum:Nat):=by unfold szR;rw[show (szL (szL aL) xs)=xs.length+(xs.map (szL aL)).sum from rfl,if_pos (by omega)];omega
    rw[decide_eq_true hd]
    (refine aD ?_;repeat' (refine aC ?_ ?_<;>intro _<;>try simp (disch:=first|assumption|omega) only[S0,rA,rQ,rB,rT,rE, *]))
   ·have e:szR l (szL (szL aL) xs)=-1:=by unfold szR;rw[show (szL (szL aL) xs)=xs.length+(xs.map (szL aL)).sum from rfl,if_neg (by omega)]
    rw[decide_eq_false hd]
    (refine aD ?_;repeat' (refine aC ?_ ?_<;>intro _<;>try simp (disch:=first|assumption|omega) only[S0,rA,rQ,rB,rT,rE, *]))
  ·intro i m hi hb hl hm nf hf hr hd
   have hq:=pN _ (at_mem hi)
   (refine aD ?_;repeat' (refine aC ?_ ?_<;>intro _<;>try simp (disch:=first|assumption|omega) only[S0,rA,rQ,rB,rT,rE,aQ,mR, *]))
  ·intro i m hi hb hl hm nf hf hr hd
   have hq:=pN _ (at_mem hi)
   (refine aD ?_;repeat' (refine aC ?_ ?_<;>intro _<;>try simp (disch:=first|assumption|omega) only[S0,rA,rQ,rB,rT,rE,aQ,mR, *]))
  ·intro m hl
   (refine aD ?_;repeat' (refine aC ?_ ?_<;>intro _<;>try simp (disch:=first|assumption|omega) only[S0,rA,rQ,rB,rT,rE, *]))
 ·have e:szR l (szL (szL aL) xs)=-1:=by unfold szR;rw[show (szL (szL aL) xs)=xs.length+(xs.map (szL aL)).sum from rfl,if_neg (by omega)]
  have d:decide (l-(xs.length:Int)<0)=true:=by simp;omega
  (refine aD ?_;repeat' (refine aC ?_ ?_<;>intro _<;>try simp (disch:=first|assumption|omega) only[S0,rA,rQ,rB,rT,rE, *]))
theorem Raz (xs:(List (List dQ)))(hs:szL (szL aL) xs<=1048576):Fun T 19 [rL xs]=some [rL xs]:=by
 rw[aR (t:=Iba) rfl];unfold Iba
 have hl:xs.length<=1048576:=Pb8 gH hs;simp (disch:=first|assumption|omega) only[S0,rA,rQ,rB,rT,rE,wZ,Qbh, *];rw[Da0 xs rfl]
 ·(refine aD ?_;repeat' (refine aC ?_ ?_<;>intro _<;>try simp (disch:=first|assumption|omega) only[S0,rA,rQ,rB,rT,rE, *]))
 ·intro i ys hi hb cI eW
  have hq:szL aL (atI xs i)<=1048576:=by
   have:=fZ (f:=(szL aL)) (at_mem hi);omega
  (refine aD ?_;repeat' (refine aC ?_ ?_<;>intro _<;>try simp (disch:=first|assumption|omega) only[S0,rA,rQ,rB,rT,rE,aQ,Ja0,Lao, *]))
 ·intro ys eW
  (refine aD ?_;repeat' (refine aC ?_ ?_<;>intro _<;>try simp (disch:=first|assumption|omega) only[S0,rA,rQ,rB,rT,rE, *]))
theorem Ra2 (xs ys:(List (List dQ)))(hs:szL (szL aL) xs<=1099511627776):Fun T 127 [rL xs,rL ys]=some [.bool (decide (xs=ys))]:=by
 rw[aR (t:=Xac) rfl];unfold Xac
 have hx:xs.length<=1099511627776:=Pb8 gH hs;by_cases hl:ys.length=xs.length
 ·simp (disch:=first|assumption|omega) only[S0,rA,rQ,rB,rT,rE, *]
  rw[Eak 1 xs.length (fun i=>decide (atI xs i=atI ys i)) [.bool false],rF hl.symm]
  ·(refine aD ?_;repeat' (refine aC ?_ ?_<;>intro _<;>try simp (disch:=first|assumption|omega) only[S0,rA,rQ,rB,rT,rE, *]))
  ·intro i hi hp
   have hb:InB xs (i:Int):=aO.2 hi;have cI:InB ys (i:Int):=aO.2 (by omega);have h2:decide ((i:Int)<xs.length)=true:=by simp;omega
   have hq:szL aL (atI xs i)<=1099511627776:=by
    have:=fZ (f:=(szL aL)) (at_mem hi);omega
   (refine aD ?_;repeat' (refine aC ?_ ?_<;>intro _<;>try simp (disch:=first|assumption|omega) only[S0,rA,rQ,rB,rT,rE,aQ,Ea0, *]))
  ·intro i hi hp
   have hb:InB xs (i:Int):=aO.2 hi;have cI:InB ys (i:Int):=aO.2 (by omega);have h2:decide ((i:Int)<xs.length)=true:=by simp;omega
   have hq:szL aL (atI xs i)<=1099511627776:=by
    have:=fZ (f:=(szL aL)) (at_mem hi);omega
   (refine aD ?_;repeat' (refine aC ?_ ?_<;>intro _<;>try simp (disch:=first|assumption|omega) only[S0,rA,rQ,rB,rT,rE,aQ,Ea0, *]))
  ·have h2:decide ((xs.length:Int)<xs.length)=false:=by simp
   (refine aD ?_;repeat' (refine aC ?_ ?_<;>intro _<;>try simp (disch:=first|assumption|omega) only[S0,rA,rQ,rB,rT,rE, *]))
 ·have eW:((xs.length:Int)==(ys.length:Int))=false:=by simp;omega
  have e:=Aae (fun h=>hl h.symm)
  (refine aD ?_;repeat' (refine aC ?_ ?_<;>intro _<;>try simp (disch:=first|assumption|omega) only[S0,rA,rQ,rB,rT,rE, *]))
theorem Bab (pc:Int)(cz:(List (List dQ)))(l:Int)(h0:0<=l)(h1:l<=1048576)(hw:Das ⟨pc,cz⟩):Fun T 4 [i64 pc,rL cz,i64 l]=some [i64 (szR l (bH ⟨pc,cz⟩))]:=by
 rw[aR (t:=tm4) rfl];unfold tm4
 unfold Das at hw;simp only at hw;have w0:=hw;by_cases c0:((szL (szL aL) cz:Nat):Int)<=l
 rotate_left
 ·have e0:szR (l) (szL (szL aL) cz)=-1:=if_neg c0
  have d0:decide ((-1:Int)<0)=true:=rfl;have e:szR l (bH ⟨pc,cz⟩)=-1:=by unfold szR bH;simp only[];split<;>omega
  (refine aD ?_;repeat' (refine aC ?_ ?_<;>intro _<;>try simp (disch:=first|assumption|omega) only[S0,rA,rQ,rB,rT,rE,Hal, *]))
 have e0:szR (l) (szL (szL aL) cz)=l-(szL (szL aL) cz:Nat):=if_pos c0;have d0:decide (l-((szL (szL aL) cz:Nat):Int)<0)=false:=by simp;omega
 have e:szR l (bH ⟨pc,cz⟩)=l-((szL (szL aL) cz:Nat):Int):=by unfold szR bH;simp only[];split<;>omega
 (refine aD ?_;repeat' (refine aC ?_ ?_<;>intro _<;>try simp (disch:=first|assumption|omega) only[S0,rA,rQ,rB,rT,rE,Hal, *]))
theorem Rav (pc:Int)(cz:(List (List dQ)))(hs:bH ⟨pc,cz⟩<=1048576):Fun T 18 [i64 pc,rL cz]=some [i64 pc,rL cz]:=by
 rw[aR (t:=Ibb) rfl];unfold Ibb
 unfold bH at hs;simp only at hs;have s0:szL (szL aL) cz<=1048576:=by omega
 (refine aD ?_;repeat' (refine aC ?_ ?_<;>intro _<;>try simp (disch:=first|assumption|omega) only[S0,rA,rQ,rB,rT,rE,Raz, *]))
theorem Ra0 (pc:Int)(cz:(List (List dQ)))(y_n:Int)(mA:(List (List dQ)))(hs:bH ⟨pc,cz⟩<=1099511627776):Fun T 126 [i64 pc,rL cz,i64 y_n,rL mA]=some [.bool (decide ((⟨pc,cz⟩:aU)=⟨y_n,mA⟩))]:=by
 rw[aR (t:=Xad) rfl];unfold Xad
 unfold bH at hs;simp only at hs;have s0:szL (szL aL) cz<=1099511627776:=by omega
 have e:decide ((⟨pc,cz⟩:aU)=⟨y_n,mA⟩)=((pc==y_n)&&decide ((cz:(List (List dQ)))=mA)):=by
  simp only[aU.mk.injEq,Qbm,Qb8,Rbl]
 rw[e]
 (refine aD ?_;repeat' (refine aC ?_ ?_<;>intro _<;>try simp (disch:=first|assumption|omega) only[S0,rA,rQ,rB,rT,rE,Ra2, *]))
theorem Lap (bt cL ar cC ae ao ah aj ak an:Int)(af:(List Int))(ab:Int)(aa:(List Int))(di:Bool)(cu:(List Int))(b6:(List dQ))(l:Int)(h0:0<=l)(h1:l<=1048576)(hw:uY ⟨bt,cL,ar,cC,⟨ae,ao,ah,aj,ak⟩,⟨an,af⟩,⟨ab,aa⟩,di,cu,b6⟩):Fun T 11 [i64 bt,i64 cL,i64 ar,i64 cC,i64 ae,i64 ao,i64 ah,i64 aj,i64 ak,i64 an,rL af,i64 ab,rL aa,.bool di,rL cu,rL b6,i64 l]=some [i64 (szR l (aS ⟨bt,cL,ar,cC,⟨ae,ao,ah,aj,ak⟩,⟨an,af⟩,⟨ab,aa⟩,di,cu,b6⟩))]:=by
 rw[aR (t:=Ibi) rfl];unfold Ibi
 unfold uY at hw;simp only at hw;obtain⟨w0,w1,w2,w3⟩:=hw;by_cases c0:((aK ⟨an,af⟩:Nat):Int)<=l
 rotate_left
 ·have e0:szR (l) (aK ⟨an,af⟩)=-1:=if_neg c0
  have d0:decide ((-1:Int)<0)=true:=rfl;have e:szR l (aS ⟨bt,cL,ar,cC,⟨ae,ao,ah,aj,ak⟩,⟨an,af⟩,⟨ab,aa⟩,di,cu,b6⟩)=-1:=by unfold szR aS;simp only[];split<;>omega
  (refine aD ?_;repeat' (refine aC ?_ ?_<;>intro _<;>try simp (disch:=first|assumption|omega) only[S0,rA,rQ,rB,rT,rE,fJ,fJ,Eaw,mR, *]))
 have e0:szR (l) (aK ⟨an,af⟩)=l-(aK ⟨an,af⟩:Nat):=if_pos c0;have d0:decide (l-((aK ⟨an,af⟩:Nat):Int)<0)=false:=by simp;omega
 by_cases c1:((aK ⟨ab,aa⟩:Nat):Int)<=l-((aK ⟨an,af⟩:Nat):Int)
 rotate_left
 ·have e1:szR (l-((aK ⟨an,af⟩:Nat):Int)) (aK ⟨ab,aa⟩)=-1:=if_neg c1
  have d1:decide ((-1:Int)<0)=true:=rfl;have e:szR l (aS ⟨bt,cL,ar,cC,⟨ae,ao,ah,aj,ak⟩,⟨an,af⟩,⟨ab,aa⟩,di,cu,b6⟩)=-1:=by unfold szR aS;simp only[];split<;>omega
  (refine aD ?_;repeat' (refine aC ?_ ?_<;>intro _<;>try simp (disch:=first|assumption|omega) only[S0,rA,rQ,rB,rT,rE,fJ,fJ,Eaw,mR, *]))
 have e1:szR (l-((aK ⟨an,af⟩:Nat):Int)) (aK ⟨ab,aa⟩)=l-((aK ⟨an,af⟩:Nat):Int)-(aK ⟨ab,aa⟩:Nat):=if_pos c1;have d1:decide (l-((aK ⟨an,af⟩:Nat):Int)-((aK ⟨ab,aa⟩:Nat):Int)<0)=false:=by simp;omega
 by_cases c2:((szL (fun _=>0) cu:Nat):Int)<=l-((aK ⟨an,af⟩:Nat):Int)-((aK ⟨ab,aa⟩:Nat):Int)
 rotate_left
 ·have e2:szR (l-((aK ⟨an,af⟩:Nat):Int)-((aK ⟨ab,aa⟩:Nat):Int)) (szL (fun _=>0) cu)=-1:=if_neg c2
  have d2:decide ((-1:Int)<0)=true:=rfl;have e:szR l (aS ⟨bt,cL,ar,cC,⟨ae,ao,ah,aj,ak⟩,⟨an,af⟩,⟨ab,aa⟩,di,cu,b6⟩)=-1:=by unfold szR aS;simp only[];split<;>omega
  (refine aD ?_;repeat' (refine aC ?_ ?_<;>intro _<;>try simp (disch:=first|assumption|omega) only[S0,rA,rQ,rB,rT,rE,fJ,fJ,Eaw,mR, *]))
 have e2:szR (l-((aK ⟨an,af⟩:Nat):Int)-((aK ⟨ab,aa⟩:Nat):Int)) (szL (fun _=>0) cu)=l-((aK ⟨an,af⟩:Nat):Int)-((aK ⟨ab,aa⟩:Nat):Int)-(szL (fun _=>0) cu:Nat):=if_pos c2;have d2:decide (l-((aK ⟨an,af⟩:Nat):Int)-((aK ⟨ab,aa⟩:Nat):Int)-((szL (fun _=>0) cu:Nat):Int)<0)=false:=by simp;omega
 by_cases c3:((szL aL b6:Nat):Int)<=l-((aK ⟨an,af⟩:Nat):Int)-((aK ⟨ab,aa⟩:Nat):Int)-((szL (fun _=>0) cu:Nat):Int)
 rotate_left
 ·have e3:szR (l-((aK ⟨an,af⟩:Nat):Int)-((aK ⟨ab,aa⟩:Nat):Int)-((szL (fun _=>0) cu:Nat):Int)) (szL aL b6)=-1:=if_neg c3
  have d3:decide ((-1:Int)<0)=true:=rfl;have e:szR l (aS ⟨bt,cL,ar,cC,⟨ae,ao,ah,aj,ak⟩,⟨an,af⟩,⟨ab,aa⟩,di,cu,b6⟩)=-1:=by unfold szR aS;simp only[];split<;>omega
  (refine aD ?_;repeat' (refine aC ?_ ?_<;>intro _<;>try simp (disch:=first|assumption|omega) only[S0,rA,rQ,rB,rT,rE,fJ,fJ,Eaw,mR, *]))
 have e3:szR (l-((aK ⟨an,af⟩:Nat):Int)-((aK ⟨ab,aa⟩:Nat):Int)-((szL (fun _=>0) cu:Nat):Int)) (szL aL b6)=l-((aK ⟨an,af⟩:Nat):Int)-((aK ⟨ab,aa⟩:Nat):Int)-((szL (fun _=>0) cu:Nat):Int)-(szL aL b6:Nat):=if_pos c3;have d3:decide (l-((aK ⟨an,af⟩:Nat):Int)-((aK ⟨ab,aa⟩:Nat):Int)-((szL (fun _=>0) cu:Nat):Int)-((szL aL b6:Nat):Int)<0)=false:=by simp;omega
 have e:szR l (aS ⟨bt,cL,ar,cC,⟨ae,ao,ah,aj,ak⟩,⟨an,af⟩,⟨ab,aa⟩,di,cu,b6⟩)=l-((aK ⟨an,af⟩:Nat):Int)-((aK ⟨ab,aa⟩:Nat):Int)-((szL (fun _=>0) cu:Nat):Int)-((szL aL b6:Nat):Int):=by unfold szR aS;simp only[];split<;>omega
 (refine aD ?_;repeat' (refine aC ?_ ?_<;>intro _<;>try simp (disch:=first|assumption|omega) only[S0,rA,rQ,rB,rT,rE,fJ,fJ,Eaw,mR, *]))
theorem Uai (bt cL ar cC ae ao ah aj ak an:Int)(af:(List Int))(ab:Int)(aa:(List Int))(di:Bool)(cu:(List Int))(b6:(List dQ))(hs:aS ⟨bt,cL,ar,cC,⟨ae,ao,ah,aj,ak⟩,⟨an,af⟩,⟨ab,aa⟩,di,cu,b6⟩<=1048576):Fun T 26 [i64 bt,i64 cL,i64 ar,i64 cC,i64 ae,i64 ao,i64 ah,i64 aj,i64 ak,i64 an,rL af,i64 ab,rL aa,.bool di,rL cu,rL b6]=some [i64 bt,i64 cL,i64 ar,i64 cC,i64 ae,i64 ao,i64 ah,i64 aj,i64 ak,i64 an,rL af,i64 ab,rL aa,.bool di,rL cu,rL b6]:=by
 rw[aR (t:=Hbx) rfl];unfold Hbx
 unfold aS at hs;simp only at hs;have s0:aK ⟨an,af⟩<=1048576:=by omega
 have s1:aK ⟨ab,aa⟩<=1048576:=by omega
 have s2:szL (fun _=>0) cu<=1048576:=by omega
 have s3:szL aL b6<=1048576:=by omega
 (refine aD ?_;repeat' (refine aC ?_ ?_<;>intro _<;>try simp (disch:=first|assumption|omega) only[S0,rA,rQ,rB,rT,rE,Dah,Eav,Ual,Lao, *]))
theorem Lar (bt cL ar cC ae ao ah aj ak an:Int)(af:(List Int))(ab:Int)(aa:(List Int))(di:Bool)(cu:(List Int))(b6:(List dQ))(gi jq cF kz bh b3 bo bm bn gb:Int)(fq:(List Int))(b4:Int)(bq:(List Int))(mz:Bool)(pS:(List Int))(mj:(List dQ))(hs:aS ⟨bt,cL,ar,cC,⟨ae,ao,ah,aj,ak⟩,⟨an,af⟩,⟨ab,aa⟩,di,cu,b6⟩<=1099511627776):Fun T 134 [i64 bt,i64 cL,i64 ar,i64 cC,i64 ae,i64 ao,i64 ah,i64 aj,i64 ak,i64 an,rL af,i64 ab,rL aa,.bool di,rL cu,rL b6,i64 gi,i64 jq,i64 cF,i64 kz,i64 bh,i64 b3,i64 bo,i64 bm,i64 bn,i64 gb,rL fq,i64 b4,rL bq,.bool mz,rL pS,rL mj]=some [.bool (decide ((⟨bt,cL,ar,cC,⟨ae,ao,ah,aj,ak⟩,⟨an,af⟩,⟨ab,aa⟩,di,cu,b6⟩:gT)=⟨gi,jq,cF,kz,⟨bh,b3,bo,bm,bn⟩,⟨gb,fq⟩,⟨b4,bq⟩,mz,pS,mj⟩))]:=by
 rw[aR (t:=Wa5) rfl];unfold Wa5
 unfold aS at hs;simp only at hs;have s0:aK ⟨an,af⟩<=1099511627776:=by omega
 have s1:aK ⟨ab,aa⟩<=1099511627776:=by omega
 have s2:szL (fun _=>0) cu<=1099511627776:=by omega
 have s3:szL aL b6<=1099511627776:=by omega
 have e:decide ((⟨bt,cL,ar,cC,⟨ae,ao,ah,aj,ak⟩,⟨an,af⟩,⟨ab,aa⟩,di,cu,b6⟩:gT)=⟨gi,jq,cF,kz,⟨bh,b3,bo,bm,bn⟩,⟨gb,fq⟩,⟨b4,bq⟩,mz,pS,mj⟩)=((bt==gi)&&(cL==jq)&&(ar==cF)&&(cC==kz)&&decide ((⟨ae,ao,ah,aj,ak⟩:Cat)=⟨bh,b3,bo,bm,bn⟩)&&decide ((⟨an,af⟩:eZ)=⟨gb,fq⟩)&&decide ((⟨ab,aa⟩:eZ)=⟨b4,bq⟩)&&(di==mz)&&decide ((cu:(List Int))=pS)&&decide ((b6:(List dQ))=mj)):=by
  simp only[gT.mk.injEq,Qbm,Qb8,Rbl]
 rw[e]
 (refine aD ?_;repeat' (refine aC ?_ ?_<;>intro _<;>try simp (disch:=first|assumption|omega) only[S0,rA,rQ,rB,rT,rE,Daj,Eaz,Uar,Ea0, *]))
theorem Bac (xs:(List gT))(l:Int)(h0:0<=l)(h1:l<=1048576)(hw:xs.length<=140737488351232/\∀ y0∈xs,uY y0):Fun T 10 [rL xs,i64 l]=some [i64 (szR l (szL aS xs))]:=by
 rw[aR (t:=Ibj) rfl];unfold Ibj
 obtain⟨y3,pN⟩:=hw;by_cases c:(xs.length:Int)<=l
 ·have d:decide (l-(xs.length:Int)<0)=false:=by simp;omega
  simp (disch:=first|assumption|omega) only[S0,rA,rQ,rB,rT,rE, *];rw[Kak xs aS (l-xs.length) rfl (by omega) (by omega)]
  ·by_cases hd:((xs.map aS).sum:Int)<=l-xs.length
   ·have e:szR l (szL aS xs)=l-xs.length-((xs.map aS).sum:Nat):=by unfold szR;rw[show (szL aS xs)=xs.length+(xs.map aS).sum from rfl,if_pos (by omega)];omega
    rw[decide_eq_true hd]
    (refine aD ?_;repeat' (refine aC ?_ ?_<;>intro _<;>try simp (disch:=first|assumption|omega) only[S0,rA,rQ,rB,rT,rE, *]))
   ·have e:szR l (szL aS xs)=-1:=by unfold szR;rw[show (szL aS xs)=xs.length+(xs.map aS).sum from rfl,if_neg (by omega)]
    rw[decide_eq_false hd]
    (refine aD ?_;repeat' (refine aC ?_ ?_<;>intro _<;>try simp (disch:=first|assumption|omega) only[S0,rA,rQ,rB,rT,rE, *]))
  ·intro i m hi hb hl hm nf hf hr hd
   have hq:=pN _ (at_mem hi)
   (refine aD ?_;repeat' (refine aC ?_ ?_<;>intro _<;>try simp (disch:=first|assumption|omega) only[S0,rA,rQ,rB,rT,rE,aQ,Lap, *]))
  ·intro i m hi hb hl hm nf hf hr hd
   have hq:=pN _ (at_mem hi)
   (refine aD ?_;repeat' (refine aC ?_ ?_<;>intro _<;>try simp (disch:=first|assumption|omega) only[S0,rA,rQ,rB,rT,rE,aQ,Lap, *]))
  ·intro m hl
   (refine aD ?_;repeat' (refine aC ?_ ?_<;>intro _<;>try simp (disch:=first|assumption|omega) only[S0,rA,rQ,rB,rT,rE, *]))
 ·have e:szR l (szL aS xs)=-1:=by unfold szR;rw[show (szL aS xs)=xs.length+(xs.map aS).sum from rfl,if_neg (by omega)]
  have d:decide (l-(xs.length:Int)<0)=true:=by simp;omega
  (refine aD ?_;repeat' (refine aC ?_ ?_<;>intro _<;>try simp (disch:=first|assumption|omega) only[S0,rA,rQ,rB,rT,rE, *]))
theorem Ray (xs:(List gT))(hs:szL aS xs<=1048576):Fun T 25 [rL xs]=some [rL xs]:=by
 rw[aR (t:=Hby) rfl];unfold Hby
 have hl:xs.length<=1048576:=Pb8 gH hs;simp (disch:=first|assumption|omega) only[S0,rA,rQ,rB,rT,rE,wZ,Qbh, *];rw[Da0 xs rfl]
 ·(refine aD ?_;repeat' (refine aC ?_ ?_<;>intro _<;>try simp (disch:=first|assumption|omega) only[S0,rA,rQ,rB,rT,rE, *]))
 ·intro i ys hi hb cI eW
  have hq:aS (atI xs i)<=1048576:=by
   have:=fZ (f:=aS) (at_mem hi);omega
  (refine aD ?_;repeat' (refine aC ?_ ?_<;>intro _<;>try simp (disch:=first|assumption|omega) only[S0,rA,rQ,rB,rT,rE,aQ,Ja0,Uai, *]))
 ·intro ys eW
  (refine aD ?_;repeat' (refine aC ?_ ?_<;>intro _<;>try simp (disch:=first|assumption|omega) only[S0,rA,rQ,rB,rT,rE, *]))
theorem Ra1 (xs ys:(List gT))(hs:szL aS xs<=1099511627776):Fun T 133 [rL xs,rL ys]=some [.bool (decide (xs=ys))]:=by
 rw[aR (t:=Wa6) rfl];unfold Wa6
 have hx:xs.length<=1099511627776:=Pb8 gH hs;by_cases hl:ys.length=xs.length
 ·simp (disch:=first|assumption|omega) only[S0,rA,rQ,rB,rT,rE, *]
  rw[Eak 1 xs.length (fun i=>decide (atI xs i=atI ys i)) [.bool false],rF hl.symm]
  ·(refine aD ?_;repeat' (refine aC ?_ ?_<;>intro _<;>try simp (disch:=first|assumption|omega) only[S0,rA,rQ,rB,rT,rE, *]))
  ·intro i hi hp
   have hb:InB xs (i:Int):=aO.2 hi;have cI:InB ys (i:Int):=aO.2 (by omega);have h2:decide ((i:Int)<xs.length)=true:=by simp;omega
   have hq:aS (atI xs i)<=1099511627776:=by
    have:=fZ (f:=aS) (at_mem hi);omega
   (refine aD ?_;repeat' (refine aC ?_ ?_<;>intro _<;>try simp (disch:=first|assumption|omega) only[S0,rA,rQ,rB,rT,rE,aQ,Lar, *]))
  ·intro i hi hp
   have hb:InB xs (i:Int):=aO.2 hi;have cI:InB ys (i:Int):=aO.2 (by omega);have h2:decide ((i:Int)<xs.length)=true:=by simp;omega
   have hq:aS (atI xs i)<=1099511627776:=by
    have:=fZ (f:=aS) (at_mem hi);omega
   (refine aD ?_;repeat' (refine aC ?_ ?_<;>intro _<;>try simp (disch:=first|assumption|omega) only[S0,rA,rQ,rB,rT,rE,aQ,Lar, *]))
  ·have h2:decide ((xs.length:Int)<xs.length)=false:=by simp
   (refine aD ?_;repeat' (refine aC ?_ ?_<;>intro _<;>try simp (disch:=first|assumption|omega) only[S0,rA,rQ,rB,rT,rE, *]))
 ·have eW:((xs.length:Int)==(ys.length:Int))=false:=by simp;omega
  have e:=Aae (fun h=>hl h.symm)
  (refine aD ?_;repeat' (refine aC ?_ ?_<;>intro _<;>try simp (disch:=first|assumption|omega) only[S0,rA,rQ,rB,rT,rE, *]))
theorem Pa6 (ir aw:Int)(au:(List (List dQ)))(bz:(List gT))(l:Int)(h0:0<=l)(h1:l<=1048576)(hw:Aav ⟨ir,⟨aw,au⟩,bz⟩):Fun T 3 [i64 ir,i64 aw,rL au,rL bz,i64 l]=some [i64 (szR l (aW ⟨ir,⟨aw,au⟩,bz⟩))]:=by
 rw[aR (t:=tm3) rfl];unfold tm3
 unfold Aav at hw;simp only at hw;obtain⟨w0,w1⟩:=hw;by_cases c0:((bH ⟨aw,au⟩:Nat):Int)<=l
 rotate_left
 ·have e0:szR (l) (bH ⟨aw,au⟩)=-1:=if_neg c0
  have d0:decide ((-1:Int)<0)=true:=rfl;have e:szR l (aW ⟨ir,⟨aw,au⟩,bz⟩)=-1:=by unfold szR aW;simp only[];split<;>omega
  (refine aD ?_;repeat' (refine aC ?_ ?_<;>intro _<;>try simp (disch:=first|assumption|omega) only[S0,rA,rQ,rB,rT,rE,Bab,Bac, *]))
 have e0:szR (l) (bH ⟨aw,au⟩)=l-(bH ⟨aw,au⟩:Nat):=if_pos c0;have d0:decide (l-((bH ⟨aw,au⟩:Nat):Int)<0)=false:=by simp;omega
 by_cases c1:((szL aS bz:Nat):Int)<=l-((bH ⟨aw,au⟩:Nat):Int)
 rotate_left
 ·have e1:szR (l-((bH ⟨aw,au⟩:Nat):Int)) (szL aS bz)=-1:=if_neg c1
  have d1:decide ((-1:Int)<0)=true:=rfl;have e:szR l (aW ⟨ir,⟨aw,au⟩,bz⟩)=-1:=by unfold szR aW;simp only[];split<;>omega
  (refine aD ?_;repeat' (refine aC ?_ ?_<;>intro _<;>try simp (disch:=first|assumption|omega) only[S0,rA,rQ,rB,rT,rE,Bab,Bac, *]))
 have e1:szR (l-((bH ⟨aw,au⟩:Nat):Int)) (szL aS bz)=l-((bH ⟨aw,au⟩:Nat):Int)-(szL aS bz:Nat):=if_pos c1;have d1:decide (l-((bH ⟨aw,au⟩:Nat):Int)-((szL aS bz:Nat):Int)<0)=false:=by simp;omega
 have e:szR l (aW ⟨ir,⟨aw,au⟩,bz⟩)=l-((bH ⟨aw,au⟩:Nat):Int)-((szL aS bz:Nat):Int):=by unfold szR aW;simp only[];split<;>omega
 (refine aD ?_;repeat' (refine aC ?_ ?_<;>intro _<;>try simp (disch:=first|assumption|omega) only[S0,rA,rQ,rB,rT,rE,Bab,Bac, *]))
theorem Yao (ir aw:Int)(au:(List (List dQ)))(bz:(List gT))(hs:aW ⟨ir,⟨aw,au⟩,bz⟩<=1048576):Fun T 17 [i64 ir,i64 aw,rL au,rL bz]=some [i64 ir,i64 aw,rL au,rL bz]:=by
 rw[aR (t:=Ibc) rfl];unfold Ibc
 unfold aW at hs;simp only at hs;have s0:bH ⟨aw,au⟩<=1048576:=by omega
 have s1:szL aS bz<=1048576:=by omega
 (refine aD ?_;repeat' (refine aC ?_ ?_<;>intro _<;>try simp (disch:=first|assumption|omega) only[S0,rA,rQ,rB,rT,rE,Rav,Ray, *]))
theorem Qaa (ir aw:Int)(au:(List (List dQ)))(bz:(List gT))(um im:Int)(fu:(List (List dQ)))(kv:(List gT))(hs:aW ⟨ir,⟨aw,au⟩,bz⟩<=1099511627776):Fun T 125 [i64 ir,i64 aw,rL au,rL bz,i64 um,i64 im,rL fu,rL kv]=some [.bool (decide ((⟨ir,⟨aw,au⟩,bz⟩:lJ)=⟨um,⟨im,fu⟩,kv⟩))]:=by
 rw[aR (t:=Xae) rfl];unfold Xae
 unfold aW at hs;simp only at hs;have s0:bH ⟨aw,au⟩<=1099511627776:=by omega
 have s1:szL aS bz<=1099511627776:=by omega
 have e:decide ((⟨ir,⟨aw,au⟩,bz⟩:lJ)=⟨um,⟨im,fu⟩,kv⟩)=((ir==um)&&decide ((⟨aw,au⟩:aU)=⟨im,fu⟩)&&decide ((bz:(List gT))=kv)):=by
  simp only[lJ.mk.injEq,Qbm,Qb8,Rbl]
 rw[e]
 (refine aD ?_;repeat' (refine aC ?_ ?_<;>intro _<;>try simp (disch:=first|assumption|omega) only[S0,rA,rQ,rB,rT,rE,Ra0,Ra1, *]))
theorem zH (xs:(List lJ))(l:Int)(h0:0<=l)(h1:l<=1048576)(hw:xs.length<=140737488351232/\∀ y0∈xs,Aav y0):Fun T 2 [rL xs,i64 l]=some [i64 (szR l (szL aW xs))]:=by
 rw[aR (t:=tm2) rfl];unfold tm2
 obtain⟨y3,pN⟩:=hw;by_cases c:(xs.length:Int)<=l
 ·have d:decide (l-(xs.length:Int)<0)=false:=by simp;omega
  simp (disch:=first|assumption|omega) only[S0,rA,rQ,rB,rT,rE, *];rw[Kak xs aW (l-xs.length) rfl (by omega) (by omega)]
  ·by_cases hd:((xs.map aW).sum:Int)<=l-xs.length
   ·have e:szR l (szL aW xs)=l-xs.length-((xs.map aW).sum:Nat):=by unfold szR;rw[show (szL aW xs)=xs.length+(xs.map aW).sum from rfl,if_pos (by omega)];omega
    rw[decide_eq_true hd]
    (refine aD ?_;repeat' (refine aC ?_ ?_<;>intro _<;>try simp (disch:=first|assumption|omega) only[S0,rA,rQ,rB,rT,rE, *]))
   ·have e:szR l (szL aW xs)=-1:=by unfold szR;rw[show (szL aW xs)=xs.length+(xs.map aW).sum from rfl,if_neg (by omega)]
    rw[decide_eq_false hd]
    (refine aD ?_;repeat' (refine aC ?_ ?_<;>intro _<;>try simp (disch:=first|assumption|omega) only[S0,rA,rQ,rB,rT,rE, *]))
  ·intro i m hi hb hl hm nf hf hr hd
   have hq:=pN _ (at_mem hi)
   (refine aD ?_;repeat' (refine aC ?_ ?_<;>intro _<;>try simp (disch:=first|assumption|omega) only[S0,rA,rQ,rB,rT,rE,aQ,Pa6, *]))
  ·intro i m hi hb hl hm nf hf hr hd
   have hq:=pN _ (at_mem hi)
   (refine aD ?_;repeat' (refine aC ?_ ?_<;>intro _<;>try simp (disch:=first|assumption|omega) only[S0,rA,rQ,rB,rT,rE,aQ,Pa6, *]))
  ·intro m hl
   (refine aD ?_;repeat' (refine aC ?_ ?_<;>intro _<;>try simp (disch:=first|assumption|omega) only[S0,rA,rQ,rB,rT,rE, *]))
 ·have e:szR l (szL aW xs)=-1:=by unfold szR;rw[show (szL aW xs)=xs.length+(xs.map aW).sum from rfl,if_neg (by omega)]
  have d:decide (l-(xs.length:Int)<0)=true:=by simp;omega
  (refine aD ?_;repeat' (refine aC ?_ ?_<;>intro _<;>try simp (disch:=first|assumption|omega) only[S0,rA,rQ,rB,rT,rE, *]))
theorem Uaj (xs:(List lJ))(hs:szL aW xs<=1048576):Fun T 16 [rL xs]=some [rL xs]:=by
 rw[aR (t:=Ibd) rfl];unfold Ibd
 have hl:xs.length<=1048576:=Pb8 gH hs;simp (disch:=first|assumption|omega) only[S0,rA,rQ,rB,rT,rE,wZ,Qbh, *];rw[Da0 xs rfl]
 ·(refine aD ?_;repeat' (refine aC ?_ ?_<;>intro _<;>try simp (disch:=first|assumption|omega) only[S0,rA,rQ,rB,rT,rE, *]))
 ·intro i ys hi hb cI eW
  have hq:aW (atI xs i)<=1048576:=by
   have:=fZ (f:=aW) (at_mem hi);omega
  (refine aD ?_;repeat' (refine aC ?_ ?_<;>intro _<;>try simp (disch:=first|assumption|omega) only[S0,rA,rQ,rB,rT,rE,aQ,Ja0,Yao, *]))
 ·intro ys eW
  (refine aD ?_;repeat' (refine aC ?_ ?_<;>intro _<;>try simp (disch:=first|assumption|omega) only[S0,rA,rQ,rB,rT,rE, *]))
theorem Uap (xs ys:(List lJ))(hs:szL aW xs<=1099511627776):Fun T 124 [rL xs,rL ys]=some [.bool (decide (xs=ys))]:=by
 rw[aR (t:=Xaf) rfl];unfold Xaf
 have hx:xs.length<=1099511627776:=Pb8 gH hs;by_cases hl:ys.length=xs.length
 ·simp (disch:=first|assumption|omega) only[S0,rA,rQ,rB,rT,rE, *]
  rw[Eak 1 xs.length (fun i=>decide (atI xs i=atI ys i)) [.bool false],rF hl.symm]
  ·(refine aD ?_;repeat' (refine aC ?_ ?_<;>intro _<;>try simp (disch:=first|assumption|omega) only[S0,rA,rQ,rB,rT,rE, *]))
  ·intro i hi hp
   have hb:InB xs (i:Int):=aO.2 hi;have cI:InB ys (i:Int):=aO.2 (by omega);have h2:decide ((i:Int)<xs.length)=true:=by simp;omega
   have hq:aW (atI xs i)<=1099511627776:=by
    have:=fZ (f:=aW) (at_mem hi);omega
   (refine aD ?_;repeat' (refine aC ?_ ?_<;>intro _<;>try simp (disch:=first|assumption|omega) only[S0,rA,rQ,rB,rT,rE,aQ,Qaa, *]))
  ·intro i hi hp
   have hb:InB xs (i:Int):=aO.2 hi;have cI:InB ys (i:Int):=aO.2 (by omega);have h2:decide ((i:Int)<xs.length)=true:=by simp;omega
   have hq:aW (atI xs i)<=1099511627776:=by
    have:=fZ (f:=aW) (at_mem hi);omega
   (refine aD ?_;repeat' (refine aC ?_ ?_<;>intro _<;>try simp (disch:=first|assumption|omega) only[S0,rA,rQ,rB,rT,rE,aQ,Qaa, *]))
  ·have h2:decide ((xs.length:Int)<xs.length)=false:=by simp
   (refine aD ?_;repeat' (refine aC ?_ ?_<;>intro _<;>try simp (disch:=first|assumption|omega) only[S0,rA,rQ,rB,rT,rE, *]))
 ·have eW:((xs.length:Int)==(ys.length:Int))=false:=by simp;omega
  have e:=Aae (fun h=>hl h.symm)
  (refine aD ?_;repeat' (refine aC ?_ ?_<;>intro _<;>try simp (disch:=first|assumption|omega) only[S0,rA,rQ,rB,rT,rE, *]))
theorem Pa8 (cr dz ep bt cL ar bw bg ae ao ah aj ak ab:Int)(aa:(List Int))(l:Int)(h0:0<=l)(h1:l<=1048576)(hw:Aaw ⟨cr,dz,ep,bt,cL,ar,bw,bg,⟨ae,ao,ah,aj,ak⟩,⟨ab,aa⟩⟩):Fun T 13 [i64 cr,i64 dz,i64 ep,i64 bt,i64 cL,i64 ar,i64 bw,i64 bg,i64 ae,i64 ao,i64 ah,i64 aj,i64 ak,i64 ab,rL aa,i64 l]=some [i64 (szR l (bA ⟨cr,dz,ep,bt,cL,ar,bw,bg,⟨ae,ao,ah,aj,ak⟩,⟨ab,aa⟩⟩))]:=by
 rw[aR (t:=Ibg) rfl];unfold Ibg
 unfold Aaw at hw;simp only at hw;have w0:=hw;by_cases c0:((aK ⟨ab,aa⟩:Nat):Int)<=l
 rotate_left
 ·have e0:szR (l) (aK ⟨ab,aa⟩)=-1:=if_neg c0
  have d0:decide ((-1:Int)<0)=true:=rfl;have e:szR l (bA ⟨cr,dz,ep,bt,cL,ar,bw,bg,⟨ae,ao,ah,aj,ak⟩,⟨ab,aa⟩⟩)=-1:=by unfold szR bA;simp only[];split<;>omega
  (refine aD ?_;repeat' (refine aC ?_ ?_<;>intro _<;>try simp (disch:=first|assumption|omega) only[S0,rA,rQ,rB,rT,rE,fJ, *]))
 have e0:szR (l) (aK ⟨ab,aa⟩)=l-(aK ⟨ab,aa⟩:Nat):=if_pos c0;have d0:decide (l-((aK ⟨ab,aa⟩:Nat):Int)<0)=false:=by simp;omega
 have e:szR l (bA ⟨cr,dz,ep,bt,cL,ar,bw,bg,⟨ae,ao,ah,aj,ak⟩,⟨ab,aa⟩⟩)=l-((aK ⟨ab,aa⟩:Nat):Int):=by unfold szR bA;simp only[];split<;>omega
 (refine aD ?_;repeat' (refine aC ?_ ?_<;>intro _<;>try simp (disch:=first|assumption|omega) only[S0,rA,rQ,rB,rT,rE,fJ, *]))
theorem Yaq (cr dz ep bt cL ar bw bg ae ao ah aj ak ab:Int)(aa:(List Int))(hs:bA ⟨cr,dz,ep,bt,cL,ar,bw,bg,⟨ae,ao,ah,aj,ak⟩,⟨ab,aa⟩⟩<=1048576):Fun T 28 [i64 cr,i64 dz,i64 ep,i64 bt,i64 cL,i64 ar,i64 bw,i64 bg,i64 ae,i64 ao,i64 ah,i64 aj,i64 ak,i64 ab,rL aa]=some [i64 cr,i64 dz,i64 ep,i64 bt,i64 cL,i64 ar,i64 bw,i64 bg,i64 ae,i64 ao,i64 ah,i64 aj,i64 ak,i64 ab,rL aa]:=by
 rw[aR (t:=Hbv) rfl];unfold Hbv
 unfold bA at hs;simp only at hs;have s0:aK ⟨ab,aa⟩<=1048576:=by omega
 (refine aD ?_;repeat' (refine aC ?_ ?_<;>intro _<;>try simp (disch:=first|assumption|omega) only[S0,rA,rQ,rB,rT,rE,Dah,Eav, *]))
theorem Qab (cr dz ep bt cL ar bw bg ae ao ah aj ak ab:Int)(aa:(List Int))(gz jr ji gi jq cF gx fm bh b3 bo bm bn b4:Int)(bq:(List Int))(hs:bA ⟨cr,dz,ep,bt,cL,ar,bw,bg,⟨ae,ao,ah,aj,ak⟩,⟨ab,aa⟩⟩<=1099511627776):Fun T 136 [i64 cr,i64 dz,i64 ep,i64 bt,i64 cL,i64 ar,i64 bw,i64 bg,i64 ae,i64 ao,i64 ah,i64 aj,i64 ak,i64 ab,rL aa,i64 gz,i64 jr,i64 ji,i64 gi,i64 jq,i64 cF,i64 gx,i64 fm,i64 bh,i64 b3,i64 bo,i64 bm,i64 bn,i64 b4,rL bq]=some [.bool (decide ((⟨cr,dz,ep,bt,cL,ar,bw,bg,⟨ae,ao,ah,aj,ak⟩,⟨ab,aa⟩⟩:mE)=⟨gz,jr,ji,gi,jq,cF,gx,fm,⟨bh,b3,bo,bm,bn⟩,⟨b4,bq⟩⟩))]:=by
 rw[aR (t:=Wa3) rfl];unfold Wa3
 unfold bA at hs;simp only at hs;have s0:aK ⟨ab,aa⟩<=1099511627776:=by omega
 have e:decide ((⟨cr,dz,ep,bt,cL,ar,bw,bg,⟨ae,ao,ah,aj,ak⟩,⟨ab,aa⟩⟩:mE)=⟨gz,jr,ji,gi,jq,cF,gx,fm,⟨bh,b3,bo,bm,bn⟩,⟨b4,bq⟩⟩)=((cr==gz)&&(dz==jr)&&(ep==ji)&&(bt==gi)&&(cL==jq)&&(ar==cF)&&(bw==gx)&&(bg==fm)&&decide ((⟨ae,ao,ah,aj,ak⟩:Cat)=⟨bh,b3,bo,bm,bn⟩)&&decide ((⟨ab,aa⟩:eZ)=⟨b4,bq⟩)):=by
  simp only[mE.mk.injEq,Qbm,Qb8,Rbl]
 rw[e]
 (refine aD ?_;repeat' (refine aC ?_ ?_<;>intro _<;>try simp (disch:=first|assumption|omega) only[S0,rA,rQ,rB,rT,rE,Daj,Eaz, *]))
theorem zI (xs:(List mE))(l:Int)(h0:0<=l)(h1:l<=1048576)(hw:xs.length<=140737488351232/\∀ y0∈xs,Aaw y0):Fun T 12 [rL xs,i64 l]=some [i64 (szR l (szL bA xs))]:=by
 rw[aR (t:=Ibh) rfl];unfold Ibh
 obtain⟨y3,pN⟩:=hw;by_cases c:(xs.length:Int)<=l
 ·have d:decide (l-(xs.length:Int)<0)=false:=by simp;omega
  simp (disch:=first|assumption|omega) only[S0,rA,rQ,rB,rT,rE, *];rw[Kak xs bA (l-xs.length) rfl (by omega) (by omega)]
  ·by_cases hd:((xs.map bA).sum:Int)<=l-xs.length
   ·have e:szR l (szL bA xs)=l-xs.length-((xs.map bA).sum:Nat):=by unfold szR;rw[show (szL bA xs)=xs.length+(xs.map bA).sum from rfl,if_pos (by omega)];omega
    rw[decide_eq_true hd]
    (refine aD ?_;repeat' (refine aC ?_ ?_<;>intro _<;>try simp (disch:=first|assumption|omega) only[S0,rA,rQ,rB,rT,rE, *]))
   ·have e:szR l (szL bA xs)=-1:=by unfold szR;rw[show (szL bA xs)=xs.length+(xs.map bA).sum from rfl,if_neg (by omega)]
    rw[decide_eq_false hd]
    (refine aD ?_;repeat' (refine aC ?_ ?_<;>intro _<;>try simp (disch:=first|assumption|omega) only[S0,rA,rQ,rB,rT,rE, *]))
  ·intro i m hi hb hl hm nf hf hr hd
   have hq:=pN _ (at_mem hi)
   (refine aD ?_;repeat' (refine aC ?_ ?_<;>intro _<;>try simp (disch:=first|assumption|omega) only[S0,rA,rQ,rB,rT,rE,aQ,Pa8, *]))
  ·intro i m hi hb hl hm nf hf hr hd
   have hq:=pN _ (at_mem hi)
   (refine aD ?_;repeat' (refine aC ?_ ?_<;>intro _<;>try simp (disch:=first|assumption|omega) only[S0,rA,rQ,rB,rT,rE,aQ,Pa8, *]))
  ·intro m hl
   (refine aD ?_;repeat' (refine aC ?_ ?_<;>intro _<;>try simp (disch:=first|assumption|omega) only[S0,rA,rQ,rB,rT,rE, *]))
 ·have e:szR l (szL bA xs)=-1:=by unfold szR;rw[show (szL bA xs)=xs.length+(xs.map bA).sum from rfl,if_neg (by omega)]
  have d:decide (l-(xs.length:Int)<0)=true:=by simp;omega
  (refine aD ?_;repeat' (refine aC ?_ ?_<;>intro _<;>try simp (disch:=first|assumption|omega) only[S0,rA,rQ,rB,rT,rE, *]))
theorem Uak (xs:(List mE))(hs:szL bA xs<=1048576):Fun T 27 [rL xs]=some [rL xs]:=by
 rw[aR (t:=Hbw) rfl];unfold Hbw
 have hl:xs.length<=1048576:=Pb8 gH hs;simp (disch:=first|assumption|omega) only[S0,rA,rQ,rB,rT,rE,wZ,Qbh, *];rw[Da0 xs rfl]
 ·(refine aD ?_;repeat' (refine aC ?_ ?_<;>intro _<;>try simp (disch:=first|assumption|omega) only[S0,rA,rQ,rB,rT,rE, *]))
 ·intro i ys hi hb cI eW
  have hq:bA (atI xs i)<=1048576:=by
   have:=fZ (f:=bA) (at_mem hi);omega
  (refine aD ?_;repeat' (refine aC ?_ ?_<;>intro _<;>try simp (disch:=first|assumption|omega) only[S0,rA,rQ,rB,rT,rE,aQ,Ja0,Yaq, *]))
 ·intro ys eW
  (refine aD ?_;repeat' (refine aC ?_ ?_<;>intro _<;>try simp (disch:=first|assumption|omega) only[S0,rA,rQ,rB,rT,rE, *]))
theorem Uaq (xs ys:(List mE))(hs:szL bA xs<=1099511627776):Fun T 135 [rL xs,rL ys]=some [.bool (decide (xs=ys))]:=by
 rw[aR (t:=Wa4) rfl];unfold Wa4
 have hx:xs.length<=1099511627776:=Pb8 gH hs;by_cases hl:ys.length=xs.length
 ·simp (disch:=first|assumption|omega) only[S0,rA,rQ,rB,rT,rE, *]
  rw[Eak 1 xs.length (fun i=>decide (atI xs i=atI ys i)) [.bool false],rF hl.symm]
  ·(refine aD ?_;repeat' (refine aC ?_ ?_<;>intro _<;>try simp (disch:=first|assumption|omega) only[S0,rA,rQ,rB,rT,rE, *]))
  ·intro i hi hp
   have hb:InB xs (i:Int):=aO.2 hi;have cI:InB ys (i:Int):=aO.2 (by omega);have h2:decide ((i:Int)<xs.length)=true:=by simp;omega
   have hq:bA (atI xs i)<=1099511627776:=by
    have:=fZ (f:=bA) (at_mem hi);omega
   (refine aD ?_;repeat' (refine aC ?_ ?_<;>intro _<;>try simp (disch:=first|assumption|omega) only[S0,rA,rQ,rB,rT,rE,aQ,Qab, *]))
  ·intro i hi hp
   have hb:InB xs (i:Int):=aO.2 hi;have cI:InB ys (i:Int):=aO.2 (by omega);have h2:decide ((i:Int)<xs.length)=true:=by simp;omega
   have hq:bA (atI xs i)<=1099511627776:=by
    have:=fZ (f:=bA) (at_mem hi);omega
   (refine aD ?_;repeat' (refine aC ?_ ?_<;>intro _<;>try simp (disch:=first|assumption|omega) only[S0,rA,rQ,rB,rT,rE,aQ,Qab, *]))
  ·have h2:decide ((xs.length:Int)<xs.length)=false:=by simp
   (refine aD ?_;repeat' (refine aC ?_ ?_<;>intro _<;>try simp (disch:=first|assumption|omega) only[S0,rA,rQ,rB,rT,rE, *]))
 ·have eW:((xs.length:Int)==(ys.length:Int))=false:=by simp;omega
  have e:=Aae (fun h=>hl h.symm)
  (refine aD ?_;repeat' (refine aC ?_ ?_<;>intro _<;>try simp (disch:=first|assumption|omega) only[S0,rA,rQ,rB,rT,rE, *]))
theorem Rax (bt cL ae ao ah aj ak:Int):Fun T 30 [i64 bt,i64 cL,i64 ae,i64 ao,i64 ah,i64 aj,i64 ak]=some [i64 bt,i64 cL,i64 ae,i64 ao,i64 ah,i64 aj,i64 ak]:=by
 rw[aR (t:=Hbt) rfl];unfold Hbt
 (refine aD ?_;repeat' (refine aC ?_ ?_<;>intro _<;>try simp (disch:=first|assumption|omega) only[S0,rA,rQ,rB,rT,rE,Dah, *]))
theorem Han (bt cL ae ao ah aj ak:Int)(gi jq bh b3 bo bm bn:Int):Fun T 138 [i64 bt,i64 cL,i64 ae,i64 ao,i64 ah,i64 aj,i64 ak,i64 gi,i64 jq,i64 bh,i64 b3,i64 bo,i64 bm,i64 bn]=some [.bool (decide ((⟨bt,cL,⟨ae,ao,ah,aj,ak⟩⟩:bN)=⟨gi,jq,⟨bh,b3,bo,bm,bn⟩⟩))]:=by
 rw[aR (t:=Wa1) rfl];unfold Wa1
 have e:decide ((⟨bt,cL,⟨ae,ao,ah,aj,ak⟩⟩:bN)=⟨gi,jq,⟨bh,b3,bo,bm,bn⟩⟩)=((bt==gi)&&(cL==jq)&&decide ((⟨ae,ao,ah,aj,ak⟩:Cat)=⟨bh,b3,bo,bm,bn⟩)):=by
  simp only[bN.mk.injEq,Qbm,Qb8,Rbl]
 rw[e]
 (refine aD ?_;repeat' (refine aC ?_ ?_<;>intro _<;>try simp (disch:=first|assumption|omega) only[S0,rA,rQ,rB,rT,rE,Daj, *]))
theorem qJ (xs:(List bN))(l:Int)(h0:0<=l)(h1:l<=1048576)(hw:xs.length<=140737488351232):Fun T 14 [rL xs,i64 l]=some [i64 (szR l (szL (fun _=>0) xs))]:=by
 rw[aR (t:=Ibf) rfl];unfold Ibf
 have es:szL (fun _=>0) xs=xs.length:=dG;rw[es];by_cases c:(xs.length:Int)<=l
 ·have e:szR l xs.length=l-xs.length:=if_pos c
  have d:decide (l-(xs.length:Int)<0)=false:=by simp;omega
  (refine aD ?_;repeat' (refine aC ?_ ?_<;>intro _<;>try simp (disch:=first|assumption|omega) only[S0,rA,rQ,rB,rT,rE, *]))
 ·have e:szR l xs.length=-1:=if_neg c
  have d:decide (l-(xs.length:Int)<0)=true:=by simp;omega
  (refine aD ?_;repeat' (refine aC ?_ ?_<;>intro _<;>try simp (disch:=first|assumption|omega) only[S0,rA,rQ,rB,rT,rE, *]))
theorem Oag (xs:(List bN))(hs:szL (fun _=>0) xs<=1048576):Fun T 29 [rL xs]=some [rL xs]:=by
 rw[aR (t:=Hbu) rfl];unfold Hbu
 have hl:xs.length<=1048576:=Pb8 gH hs;simp (disch:=first|assumption|omega) only[S0,rA,rQ,rB,rT,rE,wZ,Qbh, *];rw[Da0 xs rfl]
 ·(refine aD ?_;repeat' (refine aC ?_ ?_<;>intro _<;>try simp (disch:=first|assumption|omega) only[S0,rA,rQ,rB,rT,rE, *]))
 ·intro i ys hi hb cI eW
  (refine aD ?_;repeat' (refine aC ?_ ?_<;>intro _<;>try simp (disch:=first|assumption|omega) only[S0,rA,rQ,rB,rT,rE,aQ,Ja0,Rax, *]))
 ·intro ys eW
  (refine aD ?_;repeat' (refine aC ?_ ?_<;>intro _<;>try simp (disch:=first|assumption|omega) only[S0,rA,rQ,rB,rT,rE, *]))
theorem Oak (xs ys:(List bN))(hs:szL (fun _=>0) xs<=1099511627776):Fun T 137 [rL xs,rL ys]=some [.bool (decide (xs=ys))]:=by
 rw[aR (t:=Wa2) rfl];unfold Wa2
 have hx:xs.length<=1099511627776:=Pb8 gH hs;by_cases hl:ys.length=xs.length
 ·simp (disch:=first|assumption|omega) only[S0,rA,rQ,rB,rT,rE, *]
  rw[Eak 1 xs.length (fun i=>decide (atI xs i=atI ys i)) [.bool false],rF hl.symm]
  ·(refine aD ?_;repeat' (refine aC ?_ ?_<;>intro _<;>try simp (disch:=first|assumption|omega) only[S0,rA,rQ,rB,rT,rE, *]))
  ·intro i hi hp
   have hb:InB xs (i:Int):=aO.2 hi;have cI:InB ys (i:Int):=aO.2 (by omega);have h2:decide ((i:Int)<xs.length)=true:=by simp;omega
   (refine aD ?_;repeat' (refine aC ?_ ?_<;>intro _<;>try simp (disch:=first|assumption|omega) only[S0,rA,rQ,rB,rT,rE,aQ,Han, *]))
  ·intro i hi hp
   have hb:InB xs (i:Int):=aO.2 hi;have cI:InB ys (i:Int):=aO.2 (by omega);have h2:decide ((i:Int)<xs.length)=true:=by simp;omega
   (refine aD ?_;repeat' (refine aC ?_ ?_<;>intro _<;>try simp (disch:=first|assumption|omega) only[S0,rA,rQ,rB,rT,rE,aQ,Han, *]))
  ·have h2:decide ((xs.length:Int)<xs.length)=false:=by simp
   (refine aD ?_;repeat' (refine aC ?_ ?_<;>intro _<;>try simp (disch:=first|assumption|omega) only[S0,rA,rQ,rB,rT,rE, *]))
 ·have eW:((xs.length:Int)==(ys.length:Int))=false:=by simp;omega
  have e:=Aae (fun h=>hl h.symm)
  (refine aD ?_;repeat' (refine aC ?_ ?_<;>intro _<;>try simp (disch:=first|assumption|omega) only[S0,rA,rQ,rB,rT,rE, *]))
theorem Pa7 (az:(List lJ))(bl:(List mE))(av:(List bN))(l:Int)(h0:0<=l)(h1:l<=1048576)(hw:Iab ⟨az,bl,av⟩):Fun T 1 [rL az,rL bl,rL av,i64 l]=some [i64 (szR l (fV ⟨az,bl,av⟩))]:=by
 rw[aR (t:=tm1) rfl];unfold tm1
 unfold Iab at hw;simp only at hw;obtain⟨w0,w1,w2⟩:=hw;by_cases c0:((szL aW az:Nat):Int)<=l
 rotate_left
 ·have e0:szR (l) (szL aW az)=-1:=if_neg c0
  have d0:decide ((-1:Int)<0)=true:=rfl;have e:szR l (fV ⟨az,bl,av⟩)=-1:=by unfold szR fV;simp only[];split<;>omega
  (refine aD ?_;repeat' (refine aC ?_ ?_<;>intro _<;>try simp (disch:=first|assumption|omega) only[S0,rA,rQ,rB,rT,rE,zH,zI,qJ, *]))
 have e0:szR (l) (szL aW az)=l-(szL aW az:Nat):=if_pos c0;have d0:decide (l-((szL aW az:Nat):Int)<0)=false:=by simp;omega
 by_cases c1:((szL bA bl:Nat):Int)<=l-((szL aW az:Nat):Int)
 rotate_left
 ·have e1:szR (l-((szL aW az:Nat):Int)) (szL bA bl)=-1:=if_neg c1
  have d1:decide ((-1:Int)<0)=true:=rfl;have e:szR l (fV ⟨az,bl,av⟩)=-1:=by unfold szR fV;simp only[];split<;>omega
  (refine aD ?_;repeat' (refine aC ?_ ?_<;>intro _<;>try simp (disch:=first|assumption|omega) only[S0,rA,rQ,rB,rT,rE,zH,zI,qJ, *]))
 have e1:szR (l-((szL aW az:Nat):Int)) (szL bA bl)=l-((szL aW az:Nat):Int)-(szL bA bl:Nat):=if_pos c1;have d1:decide (l-((szL aW az:Nat):Int)-((szL bA bl:Nat):Int)<0)=false:=by simp;omega
 by_cases c2:((szL (fun _=>0) av:Nat):Int)<=l-((szL aW az:Nat):Int)-((szL bA bl:Nat):Int)
 rotate_left
 ·have e2:szR (l-((szL aW az:Nat):Int)-((szL bA bl:Nat):Int)) (szL (fun _=>0) av)=-1:=if_neg c2
  have d2:decide ((-1:Int)<0)=true:=rfl;have e:szR l (fV ⟨az,bl,av⟩)=-1:=by unfold szR fV;simp only[];split<;>omega
  (refine aD ?_;repeat' (refine aC ?_ ?_<;>intro _<;>try simp (disch:=first|assumption|omega) only[S0,rA,rQ,rB,rT,rE,zH,zI,qJ, *]))
 have e2:szR (l-((szL aW az:Nat):Int)-((szL bA bl:Nat):Int)) (szL (fun _=>0) av)=l-((szL aW az:Nat):Int)-((szL bA bl:Nat):Int)-(szL (fun _=>0) av:Nat):=if_pos c2;have d2:decide (l-((szL aW az:Nat):Int)-((szL bA bl:Nat):Int)-((szL (fun _=>0) av:Nat):Int)<0)=false:=by simp;omega
 have e:szR l (fV ⟨az,bl,av⟩)=l-((szL aW az:Nat):Int)-((szL bA bl:Nat):Int)-((szL (fun _=>0) av:Nat):Int):=by unfold szR fV;simp only[];split<;>omega
 (refine aD ?_;repeat' (refine aC ?_ ?_<;>intro _<;>try simp (disch:=first|assumption|omega) only[S0,rA,rQ,rB,rT,rE,zH,zI,qJ, *]))
theorem Yap (az:(List lJ))(bl:(List mE))(av:(List bN))(hs:fV ⟨az,bl,av⟩<=1048576):Fun T 15 [rL az,rL bl,rL av]=some [rL az,rL bl,rL av]:=by
 rw[aR (t:=Ibe) rfl];unfold Ibe
 unfold fV at hs;simp only at hs;have s0:szL aW az<=1048576:=by omega
 have s1:szL bA bl<=1048576:=by omega
 have s2:szL (fun _=>0) av<=1048576:=by omega
 (refine aD ?_;repeat' (refine aC ?_ ?_<;>intro _<;>try simp (disch:=first|assumption|omega) only[S0,rA,rQ,rB,rT,rE,Uaj,Uak,Oag, *]))
theorem Yas (az:(List lJ))(bl:(List mE))(av:(List bN))(my:(List lJ))(qc:(List mE))(ky:(List bN))(hs:fV ⟨az,bl,av⟩<=1099511627776):Fun T 123 [rL az,rL bl,rL av,rL my,rL qc,rL ky]=some [.bool (decide ((⟨az,bl,av⟩:xX)=⟨my,qc,ky⟩))]:=by
 rw[aR (t:=Xag) rfl];unfold Xag
 unfold fV at hs;simp only at hs;have s0:szL aW az<=1099511627776:=by omega
 have s1:szL bA bl<=1099511627776:=by omega
 have s2:szL (fun _=>0) av<=1099511627776:=by omega
 have e:decide ((⟨az,bl,av⟩:xX)=⟨my,qc,ky⟩)=(decide ((az:(List lJ))=my)&&decide ((bl:(List mE))=qc)&&decide ((av:(List bN))=ky)):=by
  simp only[xX.mk.injEq,Qbm,Qb8,Rbl]
 rw[e]
 (refine aD ?_;repeat' (refine aC ?_ ?_<;>intro _<;>try simp (disch:=first|assumption|omega) only[S0,rA,rQ,rB,rT,rE,Uap,Uaq,Oak, *]))
theorem bM (x lo up:Int):Fun T 68 [i64 x,i64 lo,i64 up]=some [.bool (inR x lo up)]:=by
 rw[aR (t:=Gbr) rfl];unfold Gbr;unfold inR
 (refine aD ?_;repeat' (refine aC ?_ ?_<;>intro _<;>try simp (disch:=first|assumption|omega) only[S0,rA,rQ,rB,rT,rE, *]))
theorem bZ (x lo up:Int):Fun T 37 [i64 x,i64 lo,i64 up]=some [.bool (inR x lo up)]:=by
 rw[aR (t:=Hbm) rfl];unfold Hbm;unfold inR
 (refine aD ?_;repeat' (refine aC ?_ ?_<;>intro _<;>try simp (disch:=first|assumption|omega) only[S0,rA,rQ,rB,rT,rE, *]))
theorem gX (n:Int):Fun T 63 [i64 n]=some [.bool (eF n)]:=by
 rw[aR (t:=Gbw) rfl];unfold Gbw;unfold eF
 (refine aD ?_;repeat' (refine aC ?_ ?_<;>intro _<;>try simp (disch:=first|assumption|omega) only[S0,rA,rQ,rB,rT,rE, *]))
theorem fG (n:Int):Fun T 34 [i64 n]=some [.bool (eF n)]:=by
 rw[aR (t:=Hbp) rfl];unfold Hbp;unfold eF
 (refine aD ?_;repeat' (refine aC ?_ ?_<;>intro _<;>try simp (disch:=first|assumption|omega) only[S0,rA,rQ,rB,rT,rE, *]))
theorem Gaj (n:Int):Fun T 75 [i64 n]=some [.bool (inR n 0 3)]:=by
 rw[aR (t:=Gbl) rfl];unfold Gbl
 (refine aD ?_;repeat' (refine aC ?_ ?_<;>intro _<;>try simp (disch:=first|assumption|omega) only[S0,rA,rQ,rB,rT,rE,bM, *]))
theorem Fa9 (n:Int):Fun T 40 [i64 n]=some [.bool (inR n 0 3)]:=by
 rw[aR (t:=Hbj) rfl];unfold Hbj
 (refine aD ?_;repeat' (refine aC ?_ ?_<;>intro _<;>try simp (disch:=first|assumption|omega) only[S0,rA,rQ,rB,rT,rE,bZ, *]))
theorem Nas (k i f t a:Int):Fun T 39 [i64 k,i64 i,i64 f,i64 t,i64 a]=some [i64 (Jau ⟨k,i,f,t,a⟩)]:=by
 rw[aR (t:=Hbk) rfl];unfold Hbk;unfold Jau
 (refine aD ?_;repeat' (refine aC ?_ ?_<;>intro _<;>try simp (disch:=first|assumption|omega) only[S0,rA,rQ,rB,rT,rE,Fa9,bZ, *]))
theorem fH (k i f t a:Int):Fun T 38 [i64 k,i64 i,i64 f,i64 t,i64 a]=some [.bool (Bam ⟨k,i,f,t,a⟩)]:=by
 rw[aR (t:=Hbl) rfl];unfold Hbl;unfold Bam
 (refine aD ?_;repeat' (refine aC ?_ ?_<;>intro _<;>try simp (disch:=first|assumption|omega) only[S0,rA,rQ,rB,rT,rE,Nas,Bat,Zam, *]))
 all_goals (refine Dam ?_;simp only[Obz,Qbb,Pbs,Bool.not_eq_false',Rb1,Rb5,Ob9,beq_iff_eq,beq_eq_false_iff_ne,decide_eq_true_eq,decide_eq_false_iff_not,ne_eq]at *;grind)
theorem eQ (k i f t a:Int):Fun T 74 [i64 k,i64 i,i64 f,i64 t,i64 a]=some [.bool (Bam ⟨k,i,f,t,a⟩)]:=by
 rw[aR (t:=Gbm) rfl];unfold Gbm;unfold Bam
 (refine aD ?_;repeat' (refine aC ?_ ?_<;>intro _<;>try simp (disch:=first|assumption|omega) only[S0,rA,rQ,rB,rT,rE,bM,Gaj,Bat, *]))
theorem dS (n rep no:Int)(hg:eF n=true):Fun T 36 [i64 n,i64 rep,i64 no]=some [.bool (inst n rep no)]:=by
 rw[aR (t:=Hbn) rfl];unfold Hbn;unfold inst
 have hn:=bL hg
 (refine aD ?_;repeat' (refine aC ?_ ?_<;>intro _<;>try simp (disch:=first|assumption|omega) only[S0,rA,rQ,rB,rT,rE,bZ, *]))
theorem bE (n rep no:Int):Fun T 69 [i64 n,i64 rep,i64 no]=some [.bool (eF n&&inst n rep no)]:=by
 rw[aR (t:=Gbq) rfl];unfold Gbq;unfold inst
 cases hg:eF n
 ·(refine aD ?_;repeat' (refine aC ?_ ?_<;>intro _<;>try simp (disch:=first|assumption|omega) only[S0,rA,rQ,rB,rT,rE,gX, *]))
 have hn:=bL hg
 (refine aD ?_;repeat' (refine aC ?_ ?_<;>intro _<;>try simp (disch:=first|assumption|omega) only[S0,rA,rQ,rB,rT,rE,gX,bM, *]))
theorem Rag (xs:List Int)(lo up:Int)(hx:xs.length<=1099511627776):Fun T 48 [rL xs,i64 lo,i64 up]=some [.bool (xs.all fun x=>inR x lo up)]:=by
 rw[aR (t:=Hbb) rfl];unfold Hbb
 simp (disch:=first|assumption|omega) only[S0,rA,rQ,rB,rT,rE,aQ, *];rw[Mbt 1 xs (fun x=>inR x lo up) [.bool false]]
 ·(refine aD ?_;repeat' (refine aC ?_ ?_<;>intro _<;>try simp (disch:=first|assumption|omega) only[S0,rA,rQ,rB,rT,rE, *]))
 ·intro i hi hb hl hp
  (refine aD ?_;repeat' (refine aC ?_ ?_<;>intro _<;>try simp (disch:=first|assumption|omega) only[S0,rA,rQ,rB,rT,rE,aQ,bZ, *]))
 ·intro i hi hb hl hp
  (refine aD ?_;repeat' (refine aC ?_ ?_<;>intro _<;>try simp (disch:=first|assumption|omega) only[S0,rA,rQ,rB,rT,rE,aQ,bZ, *]))
 ·intro hl
  (refine aD ?_;repeat' (refine aC ?_ ?_<;>intro _<;>try simp (disch:=first|assumption|omega) only[S0,rA,rQ,rB,rT,rE, *]))
theorem mK (n s:Int)(xs:List Int)(hx:xs.length<=1099511627776):Fun T 47 [i64 n,i64 s,rL xs]=some [.bool (iW n ⟨s,xs⟩)]:=by
 rw[aR (t:=Hbc) rfl];unfold Hbc;unfold iW
 (refine aD ?_;repeat' (refine aC ?_ ?_<;>intro _<;>try simp (disch:=first|assumption|omega) only[S0,rA,rQ,rB,rT,rE,bZ,Rag, *]))
theorem uF (x:Int):Fun T 79 [i64 x]=some [.bool (!inR x 0 6)]:=by
 rw[aR (t:=Gbh) rfl];unfold Gbh
 (refine aD ?_;repeat' (refine aC ?_ ?_<;>intro _<;>try simp (disch:=first|assumption|omega) only[S0,rA,rQ,rB,rT,rE,bM, *]))
theorem Jaf  (xs:List Int)(hx:xs.length<=1099511627776):Fun T 78 [rL xs]=some [i64 (ixF (fun x=>!inR x 0 6) xs)]:=by
 rw[aR (t:=Gbi) rfl];unfold Gbi
 simp (disch:=first|assumption|omega) only[S0,rA,rQ,rB,rT,rE,aQ, *];rw[uJ 1 xs (fun x=>!inR x 0 6) (fun i=>[i64 i])]
 ·cases h:xs.any (fun x=>!inR x 0 6)
  ·have e:ixF (fun x=>!inR x 0 6) xs=-1:=by
    have h2:=dO (fun x=>!inR x 0 6) xs;rw[h]at h2;unfold ixF at h2 ⊢;split at h2<;>simp_all
   rw[e];simp (disch:=first|assumption|omega) only[S0,rA,rQ,rB,rT,rE]
  ·simp (disch:=first|assumption|omega) only[S0,rA,rQ,rB,rT,rE]
 ·intro i hi hb hl hp
  (refine aD ?_;repeat' (refine aC ?_ ?_<;>intro _<;>try simp (disch:=first|assumption|omega) only[S0,rA,rQ,rB,rT,rE,aQ,uF, *]))
 ·intro i hi hb hl hp
  (refine aD ?_;repeat' (refine aC ?_ ?_<;>intro _<;>try simp (disch:=first|assumption|omega) only[S0,rA,rQ,rB,rT,rE,aQ,uF, *]))
 ·intro hl
  (refine aD ?_;repeat' (refine aC ?_ ?_<;>intro _<;>try simp (disch:=first|assumption|omega) only[S0,rA,rQ,rB,rT,rE, *]))
theorem Jaq  (xs:List Int)(hx:xs.length<=1099511627776):Fun T 77 [rL xs]=some [.bool (xs.any (fun x=>!inR x 0 6))]:=by
 rw[aR (t:=Gbj) rfl];unfold Gbj
 (refine aD ?_;repeat' (refine aC ?_ ?_<;>intro _<;>try simp (disch:=first|assumption|omega) only[S0,rA,rQ,rB,rT,rE,Jaf,dO, *]))
theorem kG (n s:Int)(xs:List Int)(hx:xs.length<=1099511627776):Fun T 76 [i64 n,i64 s,rL xs]=some [.bool (eF n&&iW n ⟨s,xs⟩)]:=by
 rw[aR (t:=Gbk) rfl];unfold Gbk;unfold iW
 have e:xs.any (fun x=>!inR x 0 6)=!xs.all fun x=>inR x 0 6:=by rw[Qbx]
 (refine aD ?_;repeat' (refine aC ?_ ?_<;>intro _<;>try simp (disch:=first|assumption|omega) only[S0,rA,rQ,rB,rT,rE,gX,bM,Jaq,e,Bool.not_not, *]))
theorem Nau (xs ys:List Int)(hx:xs.length<=1099511627776):Fun T 46 [rL xs,rL ys]=some [.bool (decide (xs=ys))]:=by
 rw[aR (t:=Hbd) rfl];unfold Hbd
 by_cases hl:ys.length=xs.length
 ·simp (disch:=first|assumption|omega) only[S0,rA,rQ,rB,rT,rE, *]
  rw[Eak 1 xs.length (fun i=>decide (atI xs i=atI ys i)) [.bool false],rF hl.symm]
  ·(refine aD ?_;repeat' (refine aC ?_ ?_<;>intro _<;>try simp (disch:=first|assumption|omega) only[S0,rA,rQ,rB,rT,rE, *]))
  ·intro i hi hp
   have hb:InB xs (i:Int):=aO.2 hi;have cI:InB ys (i:Int):=aO.2 (by omega);have h2:decide ((i:Int)<xs.length)=true:=by simp;omega
   have h3:(atI xs i==atI ys i)=true:=by simpa using hp
   (refine aD ?_;repeat' (refine aC ?_ ?_<;>intro _<;>try simp (disch:=first|assumption|omega) only[S0,rA,rQ,rB,rT,rE,aQ, *]))
  ·intro i hi hp
   have hb:InB xs (i:Int):=aO.2 hi;have cI:InB ys (i:Int):=aO.2 (by omega);have h2:decide ((i:Int)<xs.length)=true:=by simp;omega
   have h3:(atI xs i==atI ys i)=false:=by simpa using hp
   (refine aD ?_;repeat' (refine aC ?_ ?_<;>intro _<;>try simp (disch:=first|assumption|omega) only[S0,rA,rQ,rB,rT,rE,aQ, *]))
  ·have h2:decide ((xs.length:Int)<xs.length)=false:=by simp
   (refine aD ?_;repeat' (refine aC ?_ ?_<;>intro _<;>try simp (disch:=first|assumption|omega) only[S0,rA,rQ,rB,rT,rE, *]))
 ·have eW:((xs.length:Int)==(ys.length:Int))=false:=by simp;omega
  have e:=Aae (fun h=>hl h.symm)
  (refine aD ?_;repeat' (refine aC ?_ ?_<;>intro _<;>try simp (disch:=first|assumption|omega) only[S0,rA,rQ,rB,rT,rE, *]))
theorem slices_Equal_int (xs ys:List Int)(hx:xs.length<=1099511627776):Fun T 82 [rL xs,rL ys]=some [.bool (decide (xs=ys))]:=by
 rw[aR (t:=Gbe) rfl];unfold Gbe
 by_cases hl:ys.length=xs.length
 ·simp (disch:=first|assumption|omega) only[S0,rA,rQ,rB,rT,rE, *]
  rw[Eak 1 xs.length (fun i=>decide (atI xs i=atI ys i)) [.bool false],rF hl.symm]
  ·(refine aD ?_;repeat' (refine aC ?_ ?_<;>intro _<;>try simp (disch:=first|assumption|omega) only[S0,rA,rQ,rB,rT,rE, *]))
  ·intro i hi hp
   have hb:InB xs (i:Int):=aO.2 hi;have cI:InB ys (i:Int):=aO.2 (by omega);have h2:decide ((i:Int)<xs.length)=true:=by simp;omega
   have h3:(atI xs i==atI ys i)=true:=by simpa using hp
   (refine aD ?_;repeat' (refine aC ?_ ?_<;>intro _<;>try simp (disch:=first|assumption|omega) only[S0,rA,rQ,rB,rT,rE,aQ, *]))
  ·intro i hi hp
   have hb:InB xs (i:Int):=aO.2 hi;have cI:InB ys (i:Int):=aO.2 (by omega);have h2:decide ((i:Int)<xs.length)=true:=by simp;omega
   have h3:(atI xs i==atI ys i)=false:=by simpa using hp
   (refine aD ?_;repeat' (refine aC ?_ ?_<;>intro _<;>try simp (disch:=first|assumption|omega) only[S0,rA,rQ,rB,rT,rE,aQ, *]))
  ·have h2:decide ((xs.length:Int)<xs.length)=false:=by simp
   (refine aD ?_;repeat' (refine aC ?_ ?_<;>intro _<;>try simp (disch:=first|assumption|omega) only[S0,rA,rQ,rB,rT,rE, *]))
 ·have eW:((xs.length:Int)==(ys.length:Int))=false:=by simp;omega
  have e:=Aae (fun h=>hl h.symm)
  (refine aD ?_;repeat' (refine aC ?_ ?_<;>intro _<;>try simp (disch:=first|assumption|omega) only[S0,rA,rQ,rB,rT,rE, *]))
theorem lS (s s':Int)(xs ys:List Int)(hx:xs.length<=1099511627776):Fun T 45 [i64 s,rL xs,i64 s',rL ys]=some [.bool (decide ((⟨s,xs⟩:eZ)=⟨s',ys⟩))]:=by
 rw[aR (t:=Hbe) rfl];unfold Hbe
 have e:decide ((⟨s,xs⟩:eZ)=⟨s',ys⟩)=(s==s'&&decide (xs=ys)):=by simp[eZ.mk.injEq,Qbm]
 (refine aD ?_;repeat' (refine aC ?_ ?_<;>intro _<;>try simp (disch:=first|assumption|omega) only[S0,rA,rQ,rB,rT,rE,Nau,e, *]))
theorem fO (s s':Int)(xs ys:List Int)(hx:xs.length<=1099511627776):Fun T 81 [i64 s,rL xs,i64 s',rL ys]=some [.bool (decide ((⟨s,xs⟩:eZ)=⟨s',ys⟩))]:=by
 rw[aR (t:=Gbf) rfl];unfold Gbf
 have e:decide ((⟨s,xs⟩:eZ)=⟨s',ys⟩)=(s==s'&&decide (xs=ys)):=by simp[eZ.mk.injEq,Qbm]
 (refine aD ?_;repeat' (refine aC ?_ ?_<;>intro _<;>try simp (disch:=first|assumption|omega) only[S0,rA,rQ,rB,rT,rE,slices_Equal_int,e, *]))
theorem pX (n:Int)(hg:eF n=true):Fun T 44 [i64 n]=some [i64 (none0 n).seq,rL (none0 n).deps]:=by
 rw[aR (t:=Hbf) rfl];unfold Hbf;unfold none0
 have hn:=bL hg
 (refine aD ?_;repeat' (refine aC ?_ ?_<;>intro _<;>try simp (disch:=first|assumption|omega) only[S0,rA,rQ,rB,rT,rE,wZ, *]))
theorem eG (n:Int)(hg:eF n=true):Fun T 80 [i64 n]=some [i64 (none0 n).seq,rL (none0 n).deps]:=by
 rw[aR (t:=Gbg) rfl];unfold Gbg;unfold none0
 have hn:=bL hg
 (refine aD ?_;repeat' (refine aC ?_ ?_<;>intro _<;>try simp (disch:=first|assumption|omega) only[S0,rA,rQ,rB,rT,rE,wZ, *]))
theorem vG (n bal zi sta k i f t a sq:Int)(xs:List Int)(hg:eF n=true)(hx:xs.length<=1099511627776) :
  Fun T 43 [i64 n,i64 bal,i64 zi,i64 sta,i64 k,i64 i,i64 f,i64 t,i64 a,i64 sq,rL xs]=some [.bool (rowOk n ⟨bal,zi,sta,⟨k,i,f,t,a⟩,⟨sq,xs⟩⟩)]:=by
 rw[aR (t:=Hbg) rfl];unfold Hbg;unfold rowOk
 (refine aD ?_;repeat' (refine aC ?_ ?_<;>intro _<;>try simp (disch:=first|assumption|omega) only[S0,rA,rQ,rB,rT,rE,bZ,Bat,pX,lS,fH,mK, *]))
theorem uC (n bal zi sta k i f t a sq:Int)(xs:List Int)(hg:eF n=true)(hx:xs.length<=1099511627776) :
  Fun T 73 [i64 n,i64 bal,i64 zi,i64 sta,i64 k,i64 i,i64 f,i64 t,i64 a,i64 sq,rL xs]=some [.bool (rowOk n ⟨bal,zi,sta,⟨k,i,f,t,a⟩,⟨sq,xs⟩⟩)]:=by
 rw[aR (t:=Gbn) rfl];unfold Gbn;unfold rowOk
 have h1:=@Cbe ⟨k,i,f,t,a⟩;have h2:=Ia1 hg;have h3:decide ((⟨sq,xs⟩:eZ)=none0 n)=true->iW n ⟨sq,xs⟩=true:=fun h=>by rw[of_decide_eq_true h];exact h2
 (refine aD ?_;repeat' (refine aC ?_ ?_<;>intro _<;>try simp (disch:=first|assumption|omega) only[S0,rA,rQ,rB,rT,rE,bM,Bat,eG,fO,eQ,kG, *]))
 all_goals (refine Dam ?_;simp only[Obz,Qbb,Pbs,Bool.not_eq_false',Rb1,Rb5,Ob9,beq_iff_eq,beq_eq_false_iff_ne,decide_eq_true_eq,decide_eq_false_iff_not,ne_eq]at *;grind)
theorem slices_Clone_int (xs:List Int)(hx:xs.length<=10000000000):Fun T 72 [rL xs]=some [rL xs]:=by
 rw[Wan (e:=Mbr) rfl]
 cases xs with
 |nil=>rfl
 | cons x xs =>
  show Fun (Mao [(72,.tm Cb6)]) 72 [rL (x::xs)]=_
  rw[aR (t:=Cb6) rfl];unfold Cb6;have sh:(x::xs).length<=100000000000:=by omega
  have h0:(aY.mk 1 0).run []=some [.rows 1 []]:=rfl;have h1:(x::xs).isEmpty=false:=rfl;simp (disch:=first|assumption|omega) only[SA,SB,SC,SP,SQ,SZ,reduceIte,reduceCtorEq,Nat.reduceAdd,Nat.reduceEqDiff,Jba,Ebw,h0,h1,Waj]
theorem rY (s:Int)(xs:List Int)(hx:xs.length<=10000000000):Fun T 71 [i64 s,rL xs]=some [i64 s,rL xs]:=by
 rw[aR (t:=Gbo) rfl];unfold Gbo
 (refine aD ?_;repeat' (refine aC ?_ ?_<;>intro _<;>try simp (disch:=first|assumption|omega) only[S0,rA,rQ,rB,rT,rE,slices_Clone_int, *]))
theorem La3 (eK jb iz jc lR dT fS eC cn et cU cV cQ cq:Int)(bf:(List Int))(hx:bf.length<=10000000000):Fun T 70 [i64 eK,i64 jb,i64 iz,i64 jc,i64 lR,i64 dT,i64 fS,i64 eC,i64 cn,i64 et,i64 cU,i64 cV,i64 cQ,i64 cq,rL bf]=some [i64 dT,i64 fS,i64 eC,i64 cn,i64 et,i64 cU,i64 cV,i64 cQ,i64 cq,rL bf]:=by
 rw[aR (t:=Gbp) rfl];unfold Gbp
 (refine aD ?_;repeat' (refine aC ?_ ?_<;>intro _<;>try simp (disch:=first|assumption|omega) only[S0,rA,rQ,rB,rT,rE,rY, *]))
theorem Kas (n:Int)(eK jb iz jc lR dT fS eC cn et cU cV cQ cq:Int)(bf:(List Int))(hx:bf.length<=10000000000):Fun T 52 [i64 n,i64 eK,i64 jb,i64 iz,i64 jc,i64 lR,i64 dT,i64 fS,i64 eC,i64 cn,i64 et,i64 cU,i64 cV,i64 cQ,i64 cq,rL bf]=some [.bool (wC n ⟨eK,jb,iz,jc,lR,dT,fS,eC,⟨cn,et,cU,cV,cQ⟩,⟨cq,bf⟩⟩)]:=by
 rw[aR (t:=Gb7) rfl];unfold Gb7;unfold wC
 have sh:bf.length<=1099511627776:=by omega
 cases hg:eF n
 ·(refine aD ?_;repeat' (refine aC ?_ ?_<;>intro _<;>try simp (disch:=first|assumption|omega) only[S0,rA,rQ,rB,rT,rE,fG, *]))
 have hn:=bL hg
 (refine aD ?_;repeat' (refine aC ?_ ?_<;>intro _<;>try simp (disch:=first|assumption|omega) only[S0,rA,rQ,rB,rT,rE,fG,bZ,dS,vG,mK,fH,Bat,pX,lS, *]))
 all_goals (refine Dam ?_;simp only[Obz,Qbb,Pbs,Bool.not_eq_false',Rb1,Rb5,Ob9,beq_iff_eq,beq_eq_false_iff_ne,decide_eq_true_eq,decide_eq_false_iff_not,ne_eq]at *;grind)
theorem La4 (n:Int)(eK jb iz jc lR dT fS eC cn et cU cV cQ cq:Int)(bf:(List Int))(hx:bf.length<=10000000000):Fun T 67 [i64 n,i64 eK,i64 jb,i64 iz,i64 jc,i64 lR,i64 dT,i64 fS,i64 eC,i64 cn,i64 et,i64 cU,i64 cV,i64 cQ,i64 cq,rL bf]=some [.bool (wC n ⟨eK,jb,iz,jc,lR,dT,fS,eC,⟨cn,et,cU,cV,cQ⟩,⟨cq,bf⟩⟩)]:=by
 rw[aR (t:=Gbs) rfl];unfold Gbs;unfold wC
 have sh:bf.length<=1099511627776:=by omega
 cases hg:eF n
 ·(refine aD ?_;repeat' (refine aC ?_ ?_<;>intro _<;>try simp (disch:=first|assumption|omega) only[S0,rA,rQ,rB,rT,rE,bE,bM, *]))
 have hn:=bL hg;have hk:inR eK 1 7=true->1<=eK/\eK<=7:=by simp[inR]
 (refine aD ?_;repeat' (refine aC ?_ ?_<;>intro _<;>try simp (disch:=first|assumption|omega) only[S0,rA,rQ,rB,rT,rE,bE,bM,La3,uC,kG,eQ,Bat,eG,fO, *]))
 all_goals (refine Dam ?_;simp only[Obz,Qbb,Pbs,Bool.not_eq_false',Rb1,Rb5,Ob9,beq_iff_eq,beq_eq_false_iff_ne,decide_eq_true_eq,decide_eq_false_iff_not,ne_eq]at *;grind)
theorem nX (n:Int)(rows:List (List dQ))(hs:Eaj rows):Fun T 42 [i64 n,rL rows]=some [.bool (fU ⟨n,rows⟩)]:=by
 rw[aR (t:=Hbh) rfl];unfold Hbh;unfold fU
 obtain⟨nn,l7⟩:=hs;cases hg:eF n
 ·(refine aD ?_;repeat' (refine aC ?_ ?_<;>intro _<;>try simp (disch:=first|assumption|omega) only[S0,rA,rQ,rB,rT,rE,fG, *]))
 cases hl:(rows.length:Int)==n
 ·(refine aD ?_;repeat' (refine aC ?_ ?_<;>intro _<;>try simp (disch:=first|assumption|omega) only[S0,rA,rQ,rB,rT,rE,fG, *]))
 simp (disch:=first|assumption|omega) only[S0,rA,rQ,rB,rT,rE,fG, *];rw[Fbg 1 rows (fun l=>l.all (fun r=>rowOk n r)&&decide ((l.length:Int)<=6)) [.bool false]]
 ·(refine aD ?_;repeat' (refine aC ?_ ?_<;>intro _<;>try simp (disch:=first|assumption|omega) only[S0,rA,rQ,rB,rT,rE, *]))
 ·intro i hi hb aq hm
  obtain⟨jd,jl⟩:=l7 _ hm;simp (disch:=first|assumption|omega) only[S0,rA,rQ,rB,rT,rE,aQ, *];rw[Fbg 3 (atI rows i) (fun r=>rowOk n r) [.bool false]]
  ·have e:decide (6<((atI rows (i:Int)).length:Int))=!decide (((atI rows (i:Int)).length:Int)<=6):=by
    by_cases h:((atI rows (i:Int)).length:Int)<=6
    ·simp[h]
    ·simp[h];omega
   (refine aD ?_;repeat' (refine aC ?_ ?_<;>intro _<;>try simp (disch:=first|assumption|omega) only[S0,rA,rQ,rB,rT,rE,e, *]))
  ·intro j hj kA lj xa
   have hq3:=jl _ xa;have hq4:(atI (atI rows (i:Int)) (j:Int)).attr.deps.length<=1099511627776:=by omega
   (refine aD ?_;repeat' (refine aC ?_ ?_<;>intro _<;>try simp (disch:=first|assumption|omega) only[S0,rA,rQ,rB,rT,rE,aQ,vG, *]))
  ·intro k9
   (refine aD ?_;repeat' (refine aC ?_ ?_<;>intro _<;>try simp (disch:=first|assumption|omega) only[S0,rA,rQ,rB,rT,rE, *]))
 ·intro k9
  (refine aD ?_;repeat' (refine aC ?_ ?_<;>intro _<;>try simp (disch:=first|assumption|omega) only[S0,rA,rQ,rB,rT,rE, *]))
theorem nP (ee fW ez cw dv cW cP cR cA:Int)(bk:(List Int))(n:Int)(rows:List (List dQ))(hg:eF n=true)(hx:bk.length<=1099511627776):Fun T 90 [i64 ee,i64 fW,i64 ez,i64 cw,i64 dv,i64 cW,i64 cP,i64 cR,i64 cA,rL bk,i64 n,rL rows]=some [.bool (!rowOk n ⟨ee,fW,ez,⟨cw,dv,cW,cP,cR⟩,⟨cA,bk⟩⟩)]:=by
 rw[aR (t:=Fb6) rfl];unfold Fb6
 (refine aD ?_;repeat' (refine aC ?_ ?_<;>intro _<;>try simp (disch:=first|assumption|omega) only[S0,rA,rQ,rB,rT,rE,uC, *]))
theorem Cay (n:Int)(rows:List (List dQ))(hg:eF n=true)(xs:List dQ)(hx:xs.length<=1099511627776)(hq:∀ x∈xs,x.attr.deps.length<=1099511627776):Fun T 89 [rL xs,i64 n,rL rows]=some [i64 (ixF (fun r=>!rowOk n r) xs)]:=by
 rw[aR (t:=Fb7) rfl];unfold Fb7
 simp (disch:=first|assumption|omega) only[S0,rA,rQ,rB,rT,rE,aQ, *];rw[uJ 1 xs (fun r=>!rowOk n r) (fun i=>[i64 i])]
 ·cases h:xs.any (fun r=>!rowOk n r)
  ·have e:ixF (fun r=>!rowOk n r) xs=-1:=by
    have h2:=dO (fun r=>!rowOk n r) xs;rw[h]at h2;unfold ixF at h2 ⊢;split at h2<;>simp_all
   rw[e];simp (disch:=first|assumption|omega) only[S0,rA,rQ,rB,rT,rE]
  ·simp (disch:=first|assumption|omega) only[S0,rA,rQ,rB,rT,rE]
 ·intro i hi hb hl hp
  have je:=hq _ (at_mem hi)
  try simp only at je hp
  (refine aD ?_;repeat' (refine aC ?_ ?_<;>intro _<;>try simp (disch:=first|assumption|omega) only[S0,rA,rQ,rB,rT,rE,aQ,nP, *]))
 ·intro i hi hb hl hp
  have je:=hq _ (at_mem hi)
  try simp only at je hp
  (refine aD ?_;repeat' (refine aC ?_ ?_<;>intro _<;>try simp (disch:=first|assumption|omega) only[S0,rA,rQ,rB,rT,rE,aQ,nP, *]))
 ·intro hl
  (refine aD ?_;repeat' (refine aC ?_ ?_<;>intro _<;>try simp (disch:=first|assumption|omega) only[S0,rA,rQ,rB,rT,rE, *]))
theorem Ca5 (n:Int)(rows:List (List dQ))(hg:eF n=true)(xs:List dQ)(hx:xs.length<=1099511627776)(hq:∀ x∈xs,x.attr.deps.length<=1099511627776):Fun T 88 [rL xs,i64 n,rL rows]=some [.bool (xs.any (fun r=>!rowOk n r))]:=by
 rw[aR (t:=Fb8) rfl];unfold Fb8
 (refine aD ?_;repeat' (refine aC ?_ ?_<;>intro _<;>try simp (disch:=first|assumption|omega) only[S0,rA,rQ,rB,rT,rE,Cay,dO, *]))
theorem rX (l:List dQ)(n:Int)(rows:List (List dQ))(hg:eF n=true)(hx:l.length<=1099511627776)(hq:∀ x∈l,x.attr.deps.length<=1099511627776):Fun T 87 [rL l,i64 n,rL rows]=some [.bool (decide (6<(l.length:Int))||l.any fun r=>!rowOk n r)]:=by
 rw[aR (t:=Fb9) rfl];unfold Fb9
 (refine aD ?_;repeat' (refine aC ?_ ?_<;>intro _<;>try simp (disch:=first|assumption|omega) only[S0,rA,rQ,rB,rT,rE,Ca5, *]))
theorem Gah (n:Int)(rows:List (List dQ))(hg:eF n=true)(xs:List (List dQ))(hx:xs.length<=1099511627776)(hq:∀ x∈xs,x.length<=1099511627776/\∀ y∈x,y.attr.deps.length<=1099511627776):Fun T 86 [rL xs,i64 n,rL rows]=some [i64 (ixF (fun l=>decide (6<(l.length:Int))||l.any fun r=>!rowOk n r) xs)]:=by
 rw[aR (t:=Gba) rfl];unfold Gba
 simp (disch:=first|assumption|omega) only[S0,rA,rQ,rB,rT,rE,aQ, *];rw[uJ 1 xs (fun l=>decide (6<(l.length:Int))||l.any fun r=>!rowOk n r) (fun i=>[i64 i])]
 ·cases h:xs.any (fun l=>decide (6<(l.length:Int))||l.any fun r=>!rowOk n r)
  ·have e:ixF (fun l=>decide (6<(l.length:Int))||l.any fun r=>!rowOk n r) xs=-1:=by
    have h2:=dO (fun l=>decide (6<(l.length:Int))||l.any fun r=>!rowOk n r) xs;rw[h]at h2;unfold ixF at h2 ⊢;split at h2<;>simp_all
   rw[e];simp (disch:=first|assumption|omega) only[S0,rA,rQ,rB,rT,rE]
  ·simp (disch:=first|assumption|omega) only[S0,rA,rQ,rB,rT,rE]
 ·intro i hi hb hl hp
  have je:=hq _ (at_mem hi)
  try simp only at je hp
  obtain⟨jd,jl⟩:=je
  (refine aD ?_;repeat' (refine aC ?_ ?_<;>intro _<;>try simp (disch:=first|assumption|omega) only[S0,rA,rQ,rB,rT,rE,aQ,rX, *]))
 ·intro i hi hb hl hp
  have je:=hq _ (at_mem hi)
  try simp only at je hp
  obtain⟨jd,jl⟩:=je
  (refine aD ?_;repeat' (refine aC ?_ ?_<;>intro _<;>try simp (disch:=first|assumption|omega) only[S0,rA,rQ,rB,rT,rE,aQ,rX, *]))
 ·intro hl
  (refine aD ?_;repeat' (refine aC ?_ ?_<;>intro _<;>try simp (disch:=first|assumption|omega) only[S0,rA,rQ,rB,rT,rE, *]))
theorem Gao (n:Int)(rows:List (List dQ))(hg:eF n=true)(xs:List (List dQ))(hx:xs.length<=1099511627776)(hq:∀ x∈xs,x.length<=1099511627776/\∀ y∈x,y.attr.deps.length<=1099511627776):Fun T 85 [rL xs,i64 n,rL rows]=some [.bool (xs.any (fun l=>decide (6<(l.length:Int))||l.any fun r=>!rowOk n r))]:=by
 rw[aR (t:=Gbb) rfl];unfold Gbb
 (refine aD ?_;repeat' (refine aC ?_ ?_<;>intro _<;>try simp (disch:=first|assumption|omega) only[S0,rA,rQ,rB,rT,rE,Gah,dO, *]))
theorem oG (n:Int)(rows:List (List dQ))(hs:Eaj rows):Fun T 84 [i64 n,rL rows]=some [.bool (fU ⟨n,rows⟩)]:=by
 rw[aR (t:=Gbc) rfl];unfold Gbc;unfold fU
 obtain⟨nn,l7⟩:=hs;have hs3:∀ x∈rows,x.length<=1099511627776/\∀ y∈x,y.attr.deps.length<=1099511627776:=fun x hx=>⟨by have:=(l7 x hx).1;omega,fun y hy=>by have:=(l7 x hx).2 y hy;omega⟩
 have e:(rows.any fun l=>decide (6<(l.length:Int))||l.any fun r=>!rowOk n r)=!rows.all fun l=>l.all (fun r=>rowOk n r)&&decide ((l.length:Int)<=6):=by
  rw[Qbx];congr 1;funext l;rw[<- Qbx,Bool.not_and,Bool.or_comm];congr 1;by_cases h:(l.length:Int)<=6
  ·simp[h]
  ·simp[h];omega
 (refine aD ?_;repeat' (refine aC ?_ ?_<;>intro _<;>try simp (disch:=first|assumption|omega) only[S0,rA,rQ,rB,rT,rE,gX,Gao,e,Bool.not_not, *]))
theorem Raf (xs:List Int)(hx:xs.length<=10000000000):Fun T 59 [rL xs]=some [rL xs]:=by
 rw[aR (t:=Gb0) rfl];unfold Gb0
 have h0:(aY.mk 1 0).run []=some [.rows 1 []]:=rfl
 (refine aD ?_;repeat' (refine aC ?_ ?_<;>intro _<;>try simp (disch:=first|assumption|omega) only[S0,rA,rQ,rB,rT,rE,h0,Waj, *]))
theorem Fa8 (s:Int)(xs:List Int)(hx:xs.length<=10000000000):Fun T 58 [i64 s,rL xs]=some [i64 s,rL xs]:=by
 rw[aR (t:=Gb1) rfl];unfold Gb1
 (refine aD ?_;repeat' (refine aC ?_ ?_<;>intro _<;>try simp (disch:=first|assumption|omega) only[S0,rA,rQ,rB,rT,rE,Raf, *]))
theorem Iam (ee fW ez cw dv cW cP cR cA:Int)(bk:(List Int))(hx:bk.length<=10000000000):Fun T 57 [i64 ee,i64 fW,i64 ez,i64 cw,i64 dv,i64 cW,i64 cP,i64 cR,i64 cA,rL bk]=some [i64 ee,i64 fW,i64 ez,i64 cw,i64 dv,i64 cW,i64 cP,i64 cR,i64 cA,rL bk]:=by
 rw[aR (t:=Gb2) rfl];unfold Gb2
 (refine aD ?_;repeat' (refine aC ?_ ?_<;>intro _<;>try simp (disch:=first|assumption|omega) only[S0,rA,rQ,rB,rT,rE,Fa8, *]))
theorem Ea7 (ee fW ez cw dv cW cP cR cA:Int)(bk:(List Int))(hx:bk.length<=10000000000):Fun T 117 [i64 ee,i64 fW,i64 ez,i64 cw,i64 dv,i64 cW,i64 cP,i64 cR,i64 cA,rL bk]=some [i64 ee,i64 fW,i64 ez,i64 cw,i64 dv,i64 cW,i64 cP,i64 cR,i64 cA,rL bk]:=by
 rw[aR (t:=Xal) rfl];unfold Xal
 (refine aD ?_;repeat' (refine aC ?_ ?_<;>intro _<;>try simp (disch:=first|assumption|omega) only[S0,rA,rQ,rB,rT,rE,rY, *]))
theorem Da8 (n:Int)(rows:List (List dQ))(rep no:Int)(hg:eF n=true)(hs:Eaj rows)(hb:InB rows rep)(h1:1<=no)(h2:no<=1000):Fun T 56 [i64 n,rL rows,i64 rep,i64 no]=some [i64 (dK ⟨n,rows⟩ rep no).ballot,i64 (dK ⟨n,rows⟩ rep no).vote,i64 (dK ⟨n,rows⟩ rep no).state,i64 (dK ⟨n,rows⟩ rep no).cmd.kind,i64 (dK ⟨n,rows⟩ rep no).cmd.id,i64 (dK ⟨n,rows⟩ rep no).cmd.src,i64 (dK ⟨n,rows⟩ rep no).cmd.dst,i64 (dK ⟨n,rows⟩ rep no).cmd.amt,i64 (dK ⟨n,rows⟩ rep no).attr.seq,rL (dK ⟨n,rows⟩ rep no).attr.deps]:=by
 rw[aR (t:=Gb3) rfl];unfold Gb3;unfold dK row0
 have hq:=hs.2 _ (jF hb);by_cases h:no<=(atI rows rep).length
 ·have h3:decide (((atI rows rep).length:Int)<no)=false:=by simp;omega
  have kA:InB (atI rows rep) (no-1):=by unfold InB;omega
  have jl:=hq.2 _ (jF kA)
  (refine aD ?_;repeat' (refine aC ?_ ?_<;>intro _<;>try simp (disch:=first|assumption|omega) only[S0,rA,rQ,rB,rT,rE,aQ,Iam, *]))
 ·have h3:decide (((atI rows rep).length:Int)<no)=true:=by simp;omega
  (refine aD ?_;repeat' (refine aC ?_ ?_<;>intro _<;>try simp (disch:=first|assumption|omega) only[S0,rA,rQ,rB,rT,rE,aQ,pX, *]))
theorem oF (n:Int)(rows:List (List dQ))(rep no:Int)(hg:eF n=true)(hs:Eaj rows)(hb:InB rows rep)(h1:1<=no)(h2:no<=1000):Fun T 116 [i64 n,rL rows,i64 rep,i64 no]=some [i64 (dK ⟨n,rows⟩ rep no).ballot,i64 (dK ⟨n,rows⟩ rep no).vote,i64 (dK ⟨n,rows⟩ rep no).state,i64 (dK ⟨n,rows⟩ rep no).cmd.kind,i64 (dK ⟨n,rows⟩ rep no).cmd.id,i64 (dK ⟨n,rows⟩ rep no).cmd.src,i64 (dK ⟨n,rows⟩ rep no).cmd.dst,i64 (dK ⟨n,rows⟩ rep no).cmd.amt,i64 (dK ⟨n,rows⟩ rep no).attr.seq,rL (dK ⟨n,rows⟩ rep no).attr.deps]:=by
 rw[aR (t:=Xam) rfl];unfold Xam;unfold dK row0
 have hq:=hs.2 _ (jF hb);by_cases h:no<=(atI rows rep).length
 ·have h3:decide (no<=((atI rows rep).length:Int))=true:=by simp;omega
  have kA:InB (atI rows rep) (no-1):=by unfold InB;omega
  have jl:=hq.2 _ (jF kA)
  (refine aD ?_;repeat' (refine aC ?_ ?_<;>intro _<;>try simp (disch:=first|assumption|omega) only[S0,rA,rQ,rB,rT,rE,aQ,Ea7, *]))
 ·have h3:decide (no<=((atI rows rep).length:Int))=false:=by simp;omega
  (refine aD ?_;repeat' (refine aC ?_ ?_<;>intro _<;>try simp (disch:=first|assumption|omega) only[S0,rA,rQ,rB,rT,rE,aQ,eG, *]))
theorem vH (xs:List Int)(n:Int)(hx:xs.length<=1099511627776):Fun T 51 [rL xs,i64 n]=some [.bool (Qag xs n)]:=by
 rw[aR (t:=Gb8) rfl];unfold Gb8;unfold Qag
 simp (disch:=first|assumption|omega) only[S0,rA,rQ,rB,rT,rE];rw[uJ 1 xs (fun x=>x==n) (fun _=>[.bool true])]
 ·(refine aD ?_;repeat' (refine aC ?_ ?_<;>intro _<;>try simp (disch:=first|assumption|omega) only[S0,rA,rQ,rB,rT,rE, *]))
 ·intro i hi hb hl hp
  (refine aD ?_;repeat' (refine aC ?_ ?_<;>intro _<;>try simp (disch:=first|assumption|omega) only[S0,rA,rQ,rB,rT,rE,aQ, *]))
 ·intro i hi hb hl hp
  (refine aD ?_;repeat' (refine aC ?_ ?_<;>intro _<;>try simp (disch:=first|assumption|omega) only[S0,rA,rQ,rB,rT,rE,aQ, *]))
 ·intro hl
  simp (disch:=first|assumption|omega) only[S0,rA,rQ,rB,rT,rE,hl]
theorem slices_Index_int (xs:List Int)(n:Int)(hx:xs.length<=1099511627776):Fun T 98 [rL xs,i64 n]=some [i64 (ixF (fun x=>n==x) xs)]:=by
 rw[aR (t:=Fby) rfl];unfold Fby
 simp (disch:=first|assumption|omega) only[S0,rA,rQ,rB,rT,rE];rw[uJ 1 xs (fun x=>n==x) (fun i=>[i64 i])]
 ·cases h:xs.any (fun x=>n==x)
  ·have e:ixF (fun x=>n==x) xs=-1:=by
    have h2:=dO (fun x=>n==x) xs;rw[h]at h2;unfold ixF at h2 ⊢;split at h2<;>simp_all
   rw[e];simp (disch:=first|assumption|omega) only[S0,rA,rQ,rB,rT,rE]
  ·simp (disch:=first|assumption|omega) only[S0,rA,rQ,rB,rT,rE]
 ·intro i hi hb hl hp
  (refine aD ?_;repeat' (refine aC ?_ ?_<;>intro _<;>try simp (disch:=first|assumption|omega) only[S0,rA,rQ,rB,rT,rE,aQ, *]))
 ·intro i hi hb hl hp
  (refine aD ?_;repeat' (refine aC ?_ ?_<;>intro _<;>try simp (disch:=first|assumption|omega) only[S0,rA,rQ,rB,rT,rE,aQ, *]))
 ·intro hl
  simp (disch:=first|assumption|omega) only[S0,rA,rQ,rB,rT,rE,hl]
theorem slices_Contains_int (xs:List Int)(n:Int)(hx:xs.length<=1099511627776):Fun T 97 [rL xs,i64 n]=some [.bool (Qag xs n)]:=by
 rw[aR (t:=Fbz) rfl];unfold Fbz
 have e:Qag xs n=xs.any fun x=>n==x:=by
  unfold Qag;congr 1;funext x;rw[Bool.eq_iff_iff,beq_iff_eq,beq_iff_eq];exact eq_comm
 simp (disch:=first|assumption|omega) only[S0,rA,rQ,rB,rT,rE,slices_Index_int,dO,e]
theorem Da9 (a b:Int):Fun T 55 [i64 a,i64 b]=some [i64 (max a b)]:=by
 rw[aR (t:=Gb4) rfl];unfold Gb4
 by_cases h:b<a
 ·have h2:decide (b<a)=true:=by simpa using h
  rw[Int.max_eq_left (by omega)];simp (disch:=first|assumption|omega) only[S0,rA,rQ,rB,rT,rE,h2]
 ·have h2:decide (b<a)=false:=by simpa using h
  rw[Int.max_eq_right (by omega)];simp (disch:=first|assumption|omega) only[S0,rA,rQ,rB,rT,rE,h2]
theorem nO (y x:List Int)(hx:x.length<=1099511627776):Fun T 121 [rL y,rL x]=some [.bool (decide (x=y))]:=by
 rw[aR (t:=Xah) rfl];unfold Xah
 simp (disch:=first|assumption|omega) only[S0,rA,rQ,rB,rT,rE,slices_Equal_int]
theorem Cax (x:List Int)(nc:x.length<=1099511627776)(xs:List (List Int))(hx:xs.length<=1099511627776):Fun T 120 [rL xs,rL x]=some [i64 (ixF (fun y=>decide (x=y)) xs)]:=by
 rw[aR (t:=Xai) rfl];unfold Xai
 simp (disch:=first|assumption|omega) only[S0,rA,rQ,rB,rT,rE,aQ, *];rw[uJ 1 xs (fun y=>decide (x=y)) (fun i=>[i64 i])]
 ·cases h:xs.any (fun y=>decide (x=y))
  ·have e:ixF (fun y=>decide (x=y)) xs=-1:=by
    have h2:=dO (fun y=>decide (x=y)) xs;rw[h]at h2;unfold ixF at h2 ⊢;split at h2<;>simp_all
   rw[e];simp (disch:=first|assumption|omega) only[S0,rA,rQ,rB,rT,rE]
  ·simp (disch:=first|assumption|omega) only[S0,rA,rQ,rB,rT,rE]
 ·intro i hi hb hl hp
  (refine aD ?_;repeat' (refine aC ?_ ?_<;>intro _<;>try simp (disch:=first|assumption|omega) only[S0,rA,rQ,rB,rT,rE,aQ,nO, *]))
 ·intro i hi hb hl hp
  (refine aD ?_;repeat' (refine aC ?_ ?_<;>intro _<;>try simp (disch:=first|assumption|omega) only[S0,rA,rQ,rB,rT,rE,aQ,nO, *]))
 ·intro hl
  (refine aD ?_;repeat' (refine aC ?_ ?_<;>intro _<;>try simp (disch:=first|assumption|omega) only[S0,rA,rQ,rB,rT,rE, *]))
theorem Ca4 (x:List Int)(nc:x.length<=1099511627776)(xs:List (List Int))(hx:xs.length<=1099511627776):Fun T 119 [rL xs,rL x]=some [.bool (xs.any (fun y=>decide (x=y)))]:=by
 rw[aR (t:=Xaj) rfl];unfold Xaj
 (refine aD ?_;repeat' (refine aC ?_ ?_<;>intro _<;>try simp (disch:=first|assumption|omega) only[S0,rA,rQ,rB,rT,rE,Cax,dO, *]))
theorem Ca0 (l:List (List Int))(x:List Int)(hl:l.length<=1099511627776)(hx:x.length<=1099511627776):Fun T 118 [rL l,rL x]=some [.bool (l.any fun y=>decide (x=y))]:=by
 rw[aR (t:=Xak) rfl];unfold Xak
 simp (disch:=first|assumption|omega) only[S0,rA,rQ,rB,rT,rE,Ca4]
theorem Fau (a:Int):Fun T 104 [i64 a]=some [.bool false]:=by
 rw[aR (t:=Xay) rfl];unfold Xay
 simp (disch:=first|assumption|omega) only[S0,rA,rQ,rB,rT,rE]
theorem xR (a b:Int):Fun T 103 [i64 a,i64 b]=some [i64 (Cbd a b)]:=by
 rw[aR (t:=Xaz) rfl];unfold Xaz;unfold Cbd
 by_cases h:a<b
 ·simp (disch:=first|assumption|omega) only[S0,rA,rQ,rB,rT,rE,Fau,h]
 ·by_cases h2:b<a
  ·simp (disch:=first|assumption|omega) only[S0,rA,rQ,rB,rT,rE,Fau,h,h2]
  ·simp (disch:=first|assumption|omega) only[S0,rA,rQ,rB,rT,rE,Fau,h,h2]
theorem yL (xs ys:List Int)(hx:xs.length<=1099511627776)(hy:ys.length<=1099511627776):Fun T 102 [rL xs,rL ys]=some [i64 (Ibq xs ys)]:=by
 rw[aR (t:=Xa0) rfl];unfold Xa0;unfold Ibq
 simp (disch:=first|assumption|omega) only[S0,rA,rQ,rB,rT,rE];rw[Dba (T:=T) (match Sav xs ys with|some c=>(.ret,[i64 c])|none=>(.yield 1,[])) (fun i:Nat=>xs.length-i) (fun i=>i<=xs.length/\Sav (xs.drop i) (ys.drop i)=Sav xs ys) (fun i=>[i64 i]) 0 rfl ⟨by omega,by simp⟩ (by split<;>simp)]
 ·cases Sav xs ys with
  |some c=>simp (disch:=first|assumption|omega) only[S0,rA,rQ,rB,rT,rE]
  | none =>
   cases h:decide ((xs.length:Int)<ys.length)
   ·simp (disch:=first|assumption|omega) only[S0,rA,rQ,rB,rT,rE,h,Ob9]
   ·simp (disch:=first|assumption|omega) only[S0,rA,rQ,rB,rT,rE,h]
 ·rintro i ⟨hi,he⟩
  rcases Pbo i xs.length with aq|mf
  ·have h1:decide ((i:Int)<xs.length)=true:=by simp;omega
   have hb:InB xs (i:Int):=aO.2 aq
   rcases Pbo i ys.length with lj|hge2
   ·have h2:decide ((ys.length:Int)<=i)=false:=by simp;omega
    have kA:InB ys (i:Int):=aO.2 lj;rw[Va4 aq lj]at he;by_cases h3:atI xs (i:Int)<atI ys (i:Int)
    ·rw[if_pos h3]at he
     have e:Cbd (atI xs (i:Int)) (atI ys (i:Int))=-1:=if_pos h3;rw[<- he];refine .inr ?_;simp (disch:=first|assumption|omega) only[S0,rA,rQ,rB,rT,rE,aQ,xR,h1,h2,e]
    ·rw[if_neg h3]at he
     by_cases h4:atI ys (i:Int)<atI xs (i:Int)
     ·rw[if_pos h4]at he
      have e:Cbd (atI xs (i:Int)) (atI ys (i:Int))=1:=by unfold Cbd;rw[if_neg h3,if_pos h4]
      rw[<- he];refine .inr ?_;simp (disch:=first|assumption|omega) only[S0,rA,rQ,rB,rT,rE,aQ,xR,h1,h2,e]
     ·rw[if_neg h4]at he
      have e:Cbd (atI xs (i:Int)) (atI ys (i:Int))=0:=by unfold Cbd;rw[if_neg h3,if_neg h4]
      refine .inl ⟨i+1,?_,⟨by omega,he⟩,by omega⟩;simp (disch:=first|assumption|omega) only[S0,rA,rQ,rB,rT,rE,aQ,xR,h1,h2,e]
   ·have h2:decide ((ys.length:Int)<=i)=true:=by simp;omega
    rw[Zal aq hge2]at he;rw[<- he];refine .inr ?_;simp (disch:=first|assumption|omega) only[S0,rA,rQ,rB,rT,rE,aQ,h1,h2]
  ·have h1:decide ((i:Int)<xs.length)=false:=by simp;omega
   rw[List.drop_eq_nil_of_le mf]at he;have zf:Sav xs ys=none:=by rw[<- he];rfl
   rw[zf];refine .inr ?_;simp (disch:=first|assumption|omega) only[S0,rA,rQ,rB,rT,rE,h1]
theorem iY (xs:List Int)(lo up:Int)(hx:xs.length<=10000000000):Fun T 50 [rL xs,i64 lo,i64 up]=some [.bool (Was xs lo up)]:=by
 rw[aR (t:=Gb9) rfl];unfold Gb9;unfold Was
 simp (disch:=first|assumption|omega) only[S0,rA,rQ,rB,rT,rE];rw[Na2 1 xs.length (fun i=>inR (atI xs (i:Int)) lo up&&Na5 xs i) [.bool false]]
 ·(refine aD ?_;repeat' (refine aC ?_ ?_<;>intro _<;>try simp (disch:=first|assumption|omega) only[S0,rA,rQ,rB,rT,rE, *]))
 ·intro i hi aq
  have hb:InB xs (i:Int):=aO.2 hi;unfold Na5;cases h1:inR (atI xs (i:Int)) lo up
  ·simp (disch:=first|assumption|omega) only[S0,rA,rQ,rB,rT,rE,aQ,bZ,aq,h1]
  ·cases i with
   | zero =>
    have a5x:decide ((0:Int)<xs.length)=true:=aq;have hb0:InB xs 0:=hb;have cd:inR (atI xs 0) lo up=true:=h1;have d0:decide ((0:Int)<0)=false:=rfl;have d1:decide ((0:Nat)<0)=false:=rfl;simp (disch:=first|assumption|omega) only[S0,rA,rQ,rB,rT,rE,aQ,bZ,a5x,cd,d0,d1,Int.natCast_zero,Nat.lt_irrefl,Int.cast_ofNat_Int]
   | succ i =>
    have kA:InB xs ((i:Int)+1-1):=by unfold InB;omega
    have d1:decide ((0:Int)<(i:Int)+1)=true:=decide_eq_true (by omega);have d2:decide (0<i+1)=true:=decide_eq_true (by omega);have sE:InB xs ((i:Int)+1):=hb;have a1h:decide ((i:Int)+1<xs.length)=true:=aq;have hJ:inR (atI xs ((i:Int)+1)) lo up=true:=h1;cases h2:decide (atI xs ((i:Int)+1)<=atI xs ((i:Int)+1-1))
    ·simp (disch:=first|assumption|omega) only[S0,rA,rQ,rB,rT,rE,aQ,bZ,a1h,hJ,d1,d2,h2]
    ·simp (disch:=first|assumption|omega) only[S0,rA,rQ,rB,rT,rE,aQ,bZ,a1h,hJ,d1,d2,h2]
 ·intro aq
  simp (disch:=first|assumption|omega) only[S0,rA,rQ,rB,rT,rE,aq]
theorem La1 (xs:List Int)(hx:xs.length<=10000000000):Fun T 93 [rL xs]=some [.bool (sK (Na5 xs) xs.length)]:=by
 rw[aR (t:=Fb3) rfl];unfold Fb3
 have e:sK (Na5 xs) xs.length=sK (fun i=>decide (i<1)||!decide (atI xs (i:Int)<=atI xs ((i:Int)-1))) xs.length:=by
  refine Ha5 fun i hi=>?_
  unfold Na5
  cases i with
  |zero=>rfl
  |succ i=>simp
 rw[e];simp (disch:=first|assumption|omega) only[S0,rA,rQ,rB,rT,rE];have h1:(D.int .i64 1)=i64 ((1:Nat):Int):=rfl;rw[h1,Ib8 1 1 xs.length (fun i=>!decide (atI xs (i:Int)<=atI xs ((i:Int)-1))) [.bool false]]
 ·(refine aD ?_;repeat' (refine aC ?_ ?_<;>intro _<;>try simp (disch:=first|assumption|omega) only[S0,rA,rQ,rB,rT,rE, *]))
 ·intro i hs hi aq
  have hb:InB xs (i:Int):=aO.2 hi;have kA:InB xs ((i:Int)-1):=by unfold InB;omega
  have hz:((0:Nat):Int)+1=1:=rfl;cases hq:decide (atI xs (i:Int)<=atI xs ((i:Int)-1))<;>simp (disch:=first|assumption|omega) only[S0,rA,rQ,rB,rT,rE,aQ,aq,hz,hq]
 ·intro i hi aq
  simp (disch:=first|assumption|omega) only[S0,rA,rQ,rB,rT,rE,aq]
theorem oZ (x n:Int)(hg:Cab n):Fun T 96 [i64 x,i64 n]=some [.bool (!inR x 0 (n-1))]:=by
 rw[aR (t:=Fb0) rfl];unfold Fb0
 unfold Cab at hg;simp (disch:=first|assumption|omega) only[S0,rA,rQ,rB,rT,rE,bM]
theorem Ea4 (n:Int)(hg:Cab n)(xs:List Int)(hx:xs.length<=1099511627776):Fun T 95 [rL xs,i64 n]=some [i64 (ixF (fun x=>!inR x 0 (n-1)) xs)]:=by
 rw[aR (t:=Fb1) rfl];unfold Fb1
 simp (disch:=first|assumption|omega) only[S0,rA,rQ,rB,rT,rE,aQ, *];rw[uJ 1 xs (fun x=>!inR x 0 (n-1)) (fun i=>[i64 i])]
 ·cases h:xs.any (fun x=>!inR x 0 (n-1))
  ·have e:ixF (fun x=>!inR x 0 (n-1)) xs=-1:=by
    have h2:=dO (fun x=>!inR x 0 (n-1)) xs;rw[h]at h2;unfold ixF at h2 ⊢;split at h2<;>simp_all
   rw[e];simp (disch:=first|assumption|omega) only[S0,rA,rQ,rB,rT,rE]
  ·simp (disch:=first|assumption|omega) only[S0,rA,rQ,rB,rT,rE]
 ·intro i hi hb hl hp
  (refine aD ?_;repeat' (refine aC ?_ ?_<;>intro _<;>try simp (disch:=first|assumption|omega) only[S0,rA,rQ,rB,rT,rE,aQ,oZ, *]))
 ·intro i hi hb hl hp
  (refine aD ?_;repeat' (refine aC ?_ ?_<;>intro _<;>try simp (disch:=first|assumption|omega) only[S0,rA,rQ,rB,rT,rE,aQ,oZ, *]))
 ·intro hl
  (refine aD ?_;repeat' (refine aC ?_ ?_<;>intro _<;>try simp (disch:=first|assumption|omega) only[S0,rA,rQ,rB,rT,rE, *]))
theorem Fao (n:Int)(hg:Cab n)(xs:List Int)(hx:xs.length<=1099511627776):Fun T 94 [rL xs,i64 n]=some [.bool (xs.any (fun x=>!inR x 0 (n-1)))]:=by
 rw[aR (t:=Fb2) rfl];unfold Fb2
 (refine aD ?_;repeat' (refine aC ?_ ?_<;>intro _<;>try simp (disch:=first|assumption|omega) only[S0,rA,rQ,rB,rT,rE,Ea4,dO, *]))
theorem gP (n:Int)(xs:List Int)(hg:Cab n)(hx:xs.length<=10000000000):Fun T 92 [i64 n,rL xs]=some [.bool (Was xs 0 (n-1))]:=by
 rw[aR (t:=Fb4) rfl];unfold Fb4;unfold Was
 have sh:xs.length<=1099511627776:=by omega
 have e:xs.any (fun x=>!inR x 0 (n-1))=!xs.all fun x=>inR x 0 (n-1):=by rw[Qbx]
 rw[Qat,Qau xs (fun x=>inR x 0 (n-1)),Bool.and_comm];cases h:sK (Na5 xs) xs.length
 ·simp (disch:=first|assumption|omega) only[S0,rA,rQ,rB,rT,rE,La1,h]
 ·simp (disch:=first|assumption|omega) only[S0,rA,rQ,rB,rT,rE,La1,Fao,h,e,Bool.not_not]
theorem pW (n me:Int)(jk mn eE eV cH eu dh de df bj:Int)(a8:(List Int))(bp:Int)(bb:(List Int))(gl:Bool)(gf:(List Int))(cG:(List dQ))(hg:eF n=true)(hs:Pan ⟨jk,mn,eE,eV,⟨cH,eu,dh,de,df⟩,⟨bj,a8⟩,⟨bp,bb⟩,gl,gf,cG⟩):Fun T 49 [i64 n,i64 me,i64 jk,i64 mn,i64 eE,i64 eV,i64 cH,i64 eu,i64 dh,i64 de,i64 df,i64 bj,rL a8,i64 bp,rL bb,.bool gl,rL gf,rL cG]=some [.bool (Ea2 n me ⟨jk,mn,eE,eV,⟨cH,eu,dh,de,df⟩,⟨bj,a8⟩,⟨bp,bb⟩,gl,gf,cG⟩)]:=by
 rw[aR (t:=Hba) rfl];unfold Hba
 have hn:=bL hg;obtain⟨h1,h2,h3,h4,h5⟩:=hs;simp only at h1 h2 h3 h4 h5;have uk:a8.length<=1099511627776:=by omega
 have tS:bb.length<=1099511627776:=by omega
 have zv:gf.length<=1099511627776:=by omega
 have ea:decide ((⟨bj,a8⟩:eZ)=none0 n)=decide ((⟨bj,a8⟩:eZ)=⟨(none0 n).seq,(none0 n).deps⟩):=rfl;have eb:decide ((⟨bp,bb⟩:eZ)=none0 n)=decide ((⟨bp,bb⟩:eZ)=⟨(none0 n).seq,(none0 n).deps⟩):=rfl;unfold Ea2;cases c1:inst n jk mn
 ·simp (disch:=first|assumption|omega) only[S0,rA,rQ,rB,rT,rE,dS,c1]
 cases c2:inR eE 0 9999
 ·simp (disch:=first|assumption|omega) only[S0,rA,rQ,rB,rT,rE,dS,bZ,c1,c2]
 cases c3:Was gf 0 (n-1)
 ·simp (disch:=first|assumption|omega) only[S0,rA,rQ,rB,rT,rE,dS,bZ,iY,c1,c2,c3]
 cases c4:Qag gf me
 ·simp (disch:=first|assumption|omega) only[S0,rA,rQ,rB,rT,rE,dS,bZ,iY,vH,c1,c2,c3,c4]
 cases c5:iW n ⟨bj,a8⟩
 ·simp (disch:=first|assumption|omega) only[S0,rA,rQ,rB,rT,rE,dS,bZ,iY,vH,mK,c1,c2,c3,c4,c5]
 cases c6:iW n ⟨bp,bb⟩
 ·simp (disch:=first|assumption|omega) only[S0,rA,rQ,rB,rT,rE,dS,bZ,iY,vH,mK,c1,c2,c3,c4,c5,c6]
 simp (disch:=first|assumption|omega) only[S0,rA,rQ,rB,rT,rE,dS,bZ,iY,vH,mK,c1,c2,c3,c4,c5,c6];rw[Fbg 1 cG (fun r=>rowOk n r&&!(r.state==3)) [.bool false]]
 ·have e0:((cG.length:Int)==0)=true->(cG.all fun r=>rowOk n r&&!(r.state==3))=true:=fun h=>by
   have:cG=[]:=List.length_eq_zero_iff.1 (by simpa using h);rw[this];rfl
  cases c7:cG.all fun r=>rowOk n r&&!(r.state==3)
  ·have e1:((cG.length:Int)==0)=false:=by
    cases h:((cG.length:Int)==0) with
    |false=>rfl
    |true=>rw[e0 h]at c7;cases c7
   rcases Ta8 eV with rfl|rfl|rfl|⟨p1,p2,p3⟩
   ·simp (disch:=first|assumption|omega) only[S0,rA,rQ,rB,rT,rE,e1]
   ·simp (disch:=first|assumption|omega) only[S0,rA,rQ,rB,rT,rE,e1]
   ·simp (disch:=first|assumption|omega) only[S0,rA,rQ,rB,rT,rE]
   ·simp (disch:=first|assumption|omega) only[S0,rA,rQ,rB,rT,rE,p1,p2,p3,Ob9]
  ·clear e0
   rcases Ta8 eV with rfl|rfl|rfl|⟨p1,p2,p3⟩
   ·simp (disch:=first|assumption|omega) only[S0,rA,rQ,rB,rT,rE,fH]<;>repeat' (refine aC (fun _=>?_) (fun _=>?_)<;>try simp (disch:=first|assumption|omega) only[S0,rA,rQ,rB,rT,rE,fH, *])
   ·simp (disch:=first|assumption|omega) only[S0,rA,rQ,rB,rT,rE,fH]<;>repeat' (refine aC (fun _=>?_) (fun _=>?_)<;>try simp (disch:=first|assumption|omega) only[S0,rA,rQ,rB,rT,rE,fH,lS, *])
   ·cases k0:decide (({ kind:=cH,id:=eu,src:=dh,dst:=de,amt:=df }:Cat)={ kind:=0,id:=0,src:=0,dst:=0,amt:=0 })<;>cases k1:decide (({ seq:=bj,deps:=a8 }:eZ)=eZ.mk (none0 n).seq (none0 n).deps)<;>cases k2:decide (({ seq:=bp,deps:=bb }:eZ)=eZ.mk (none0 n).seq (none0 n).deps)
    all_goals (have k1':=ea.trans k1;have k2':=eb.trans k2;simp (disch:=first|assumption|omega) only[S0,rA,rQ,rB,rT,rE,pX,lS,Bat,k0,k1,k2,k1',k2'])
    all_goals (cases gl<;>simp (disch:=first|assumption|omega) only[S0,rA,rQ,rB,rT,rE])
   ·simp (disch:=first|assumption|omega) only[S0,rA,rQ,rB,rT,rE,p1,p2,p3,Ob9]
 ·intro i hi hb aq hm
  have hq:=h5 _ hm;have je:(atI cG (i:Int)).attr.deps.length<=1099511627776:=by omega
  simp (disch:=first|assumption|omega) only[S0,rA,rQ,rB,rT,rE,aQ,vG,aq]<;>repeat' (refine aC (fun _=>?_) (fun _=>?_)<;>try simp (disch:=first|assumption|omega) only[S0,rA,rQ,rB,rT,rE,aQ,vG, *])
 ·intro aq
  simp (disch:=first|assumption|omega) only[S0,rA,rQ,rB,rT,rE,aq]
theorem uD (ee fW ez cw dv cW cP cR cA:Int)(bk:(List Int))(n:Int)(hg:eF n=true)(hx:bk.length<=1099511627776):Fun T 101 [i64 ee,i64 fW,i64 ez,i64 cw,i64 dv,i64 cW,i64 cP,i64 cR,i64 cA,rL bk,i64 n]=some [.bool (!(rowOk n ⟨ee,fW,ez,⟨cw,dv,cW,cP,cR⟩,⟨cA,bk⟩⟩&&!(ez==3)))]:=by
 rw[aR (t:=Xa1) rfl];unfold Xa1
 (refine aD ?_;repeat' (refine aC ?_ ?_<;>intro _<;>try simp (disch:=first|assumption|omega) only[S0,rA,rQ,rB,rT,rE,uC,Bool.not_not, *]))
theorem Jae (n:Int)(hg:eF n=true)(xs:List dQ)(hx:xs.length<=1099511627776)(hq:∀ x∈xs,x.attr.deps.length<=1099511627776):Fun T 100 [rL xs,i64 n]=some [i64 (ixF (fun r=>!(rowOk n r&&!(r.state==3))) xs)]:=by
 rw[aR (t:=Xa2) rfl];unfold Xa2
 simp (disch:=first|assumption|omega) only[S0,rA,rQ,rB,rT,rE,aQ, *];rw[uJ 1 xs (fun r=>!(rowOk n r&&!(r.state==3))) (fun i=>[i64 i])]
 ·cases h:xs.any (fun r=>!(rowOk n r&&!(r.state==3)))
  ·have e:ixF (fun r=>!(rowOk n r&&!(r.state==3))) xs=-1:=by
    have h2:=dO (fun r=>!(rowOk n r&&!(r.state==3))) xs;rw[h]at h2;unfold ixF at h2 ⊢;split at h2<;>simp_all
   rw[e];simp (disch:=first|assumption|omega) only[S0,rA,rQ,rB,rT,rE]
  ·simp (disch:=first|assumption|omega) only[S0,rA,rQ,rB,rT,rE]
 ·intro i hi hb hl hp
  have je:=hq _ (at_mem hi)
  try simp only at je hp
  (refine aD ?_;repeat' (refine aC ?_ ?_<;>intro _<;>try simp (disch:=first|assumption|omega) only[S0,rA,rQ,rB,rT,rE,aQ,uD, *]))
 ·intro i hi hb hl hp
  have je:=hq _ (at_mem hi)
  try simp only at je hp
  (refine aD ?_;repeat' (refine aC ?_ ?_<;>intro _<;>try simp (disch:=first|assumption|omega) only[S0,rA,rQ,rB,rT,rE,aQ,uD, *]))
 ·intro hl
  (refine aD ?_;repeat' (refine aC ?_ ?_<;>intro _<;>try simp (disch:=first|assumption|omega) only[S0,rA,rQ,rB,rT,rE, *]))
theorem Jap (n:Int)(hg:eF n=true)(xs:List dQ)(hx:xs.length<=1099511627776)(hq:∀ x∈xs,x.attr.deps.length<=1099511627776):Fun T 99 [rL xs,i64 n]=some [.bool (xs.any (fun r=>!(rowOk n r&&!(r.state==3))))]:=by
 rw[aR (t:=Fbx) rfl];unfold Fbx
 (refine aD ?_;repeat' (refine aC ?_ ?_<;>intro _<;>try simp (disch:=first|assumption|omega) only[S0,rA,rQ,rB,rT,rE,Jae,dO, *]))
theorem qM (n me:Int)(jk mn eE eV cH eu dh de df bj:Int)(a8:(List Int))(bp:Int)(bb:(List Int))(gl:Bool)(gf:(List Int))(cG:(List dQ))(hg:eF n=true)(hs:Pan ⟨jk,mn,eE,eV,⟨cH,eu,dh,de,df⟩,⟨bj,a8⟩,⟨bp,bb⟩,gl,gf,cG⟩):Fun T 91 [i64 n,i64 me,i64 jk,i64 mn,i64 eE,i64 eV,i64 cH,i64 eu,i64 dh,i64 de,i64 df,i64 bj,rL a8,i64 bp,rL bb,.bool gl,rL gf,rL cG]=some [.bool (Ea2 n me ⟨jk,mn,eE,eV,⟨cH,eu,dh,de,df⟩,⟨bj,a8⟩,⟨bp,bb⟩,gl,gf,cG⟩)]:=by
 rw[aR (t:=Fb5) rfl];unfold Fb5
 have hn:=bL hg;have yw:Cab n:=La0 hg;obtain⟨h1,h2,h3,h4,h5⟩:=hs;simp only at h1 h2 h3 h4 h5;have uk:a8.length<=1099511627776:=by omega
 have tS:bb.length<=1099511627776:=by omega
 have zv:gf.length<=1099511627776:=by omega
 have uf:cG.length<=1099511627776:=by omega
 have sR:∀ x∈cG,x.attr.deps.length<=1099511627776:=fun x hx=>by have:=h5 x hx;omega
 have ea:decide ((⟨bj,a8⟩:eZ)=none0 n)=decide ((⟨bj,a8⟩:eZ)=⟨(none0 n).seq,(none0 n).deps⟩):=rfl;have eb:decide ((⟨bp,bb⟩:eZ)=none0 n)=decide ((⟨bp,bb⟩:eZ)=⟨(none0 n).seq,(none0 n).deps⟩):=rfl;have e3:(cG.any fun r=>!(rowOk n r&&!(r.state==3)))=!cG.all fun r=>rowOk n r&&!(r.state==3):=by rw[Qbx]
 unfold Ea2;cases c1:inst n jk mn
 ·simp (disch:=first|assumption|omega) only[S0,rA,rQ,rB,rT,rE,bE,hg,c1]
 cases c2:inR eE 0 9999
 ·simp (disch:=first|assumption|omega) only[S0,rA,rQ,rB,rT,rE,bE,bM,hg,c1,c2]
 cases c3:Was gf 0 (n-1)
 ·simp (disch:=first|assumption|omega) only[S0,rA,rQ,rB,rT,rE,bE,bM,gP,hg,c1,c2,c3]
 cases c4:Qag gf me
 ·simp (disch:=first|assumption|omega) only[S0,rA,rQ,rB,rT,rE,bE,bM,gP,slices_Contains_int,hg,c1,c2,c3,c4]
 cases c5:iW n ⟨bj,a8⟩
 ·simp (disch:=first|assumption|omega) only[S0,rA,rQ,rB,rT,rE,bE,bM,gP,slices_Contains_int,kG,hg,c1,c2,c3,c4,c5]
 cases c6:iW n ⟨bp,bb⟩
 ·simp (disch:=first|assumption|omega) only[S0,rA,rQ,rB,rT,rE,bE,bM,gP,slices_Contains_int,kG,hg,c1,c2,c3,c4,c5,c6]
 simp (disch:=first|assumption|omega) only[S0,rA,rQ,rB,rT,rE,bE,bM,gP,slices_Contains_int,kG,hg,c1,c2,c3,c4,c5,c6]
 rcases Ta8 eV with rfl|rfl|rfl|⟨p1,p2,p3⟩
 ·simp (disch:=first|assumption|omega) only[S0,rA,rQ,rB,rT,rE,eQ]<;>repeat' (refine aC (fun _=>?_) (fun _=>?_)<;>try simp (disch:=first|assumption|omega) only[S0,rA,rQ,rB,rT,rE,eQ, *])
 ·cases c7:Bam ⟨cH,eu,dh,de,df⟩
  ·simp (disch:=first|assumption|omega) only[S0,rA,rQ,rB,rT,rE,eQ,c7]
  cases c8:(cG.length:Int)==0
  ·simp (disch:=first|assumption|omega) only[S0,rA,rQ,rB,rT,rE,eQ,c7,c8]
  cases c9:decide ((⟨bj,a8⟩:eZ)=⟨bp,bb⟩)<;>cases c10:gl<;>simp (disch:=first|assumption|omega) only[S0,rA,rQ,rB,rT,rE,eQ,fO,c7,c8,c9,c10]
 ·cases c7:decide ((⟨cH,eu,dh,de,df⟩:Cat)=⟨0,0,0,0,0⟩)
  ·simp (disch:=first|assumption|omega) only[S0,rA,rQ,rB,rT,rE,eG,Bat,c7]
  cases c8:decide ((⟨bj,a8⟩:eZ)=none0 n)
  ·simp (disch:=first|assumption|omega) only[S0,rA,rQ,rB,rT,rE,eG,fO,Bat,c7,c8]
  cases c9:decide ((⟨bp,bb⟩:eZ)=none0 n)
  ·simp (disch:=first|assumption|omega) only[S0,rA,rQ,rB,rT,rE,eG,fO,Bat,c7,c8,c9]
  cases c10:gl
  rotate_left
  ·simp (disch:=first|assumption|omega) only[S0,rA,rQ,rB,rT,rE,eG,fO,Bat,c7,c8,c9,c10]
  cases c11:(cG.length:Int)==(gf.length:Int)
  ·simp (disch:=first|assumption|omega) only[S0,rA,rQ,rB,rT,rE,eG,fO,Bat,c7,c8,c9,c10,c11]
  simp (disch:=first|assumption|omega) only[S0,rA,rQ,rB,rT,rE,eG,fO,Bat,c7,c8,c9,c10,c11,Jap,e3,Bool.not_not]
 ·simp (disch:=first|assumption|omega) only[S0,rA,rQ,rB,rT,rE,p1,p2,p3,Ob9]
theorem Cav (me n:Int)(rows:List (List dQ))(leads:List gT)(hs:Eaj rows)(l7:Iaq leads):Fun T 41 [i64 me,i64 n,rL rows,rL leads]=some [.bool (Na7 ⟨me,⟨n,rows⟩,leads⟩)]:=by
 rw[aR (t:=Hbi) rfl];unfold Hbi;unfold Na7
 obtain⟨hs3,hs4⟩:=l7;cases ht:fU ⟨n,rows⟩
 ·simp (disch:=first|assumption|omega) only[S0,rA,rQ,rB,rT,rE,nX,ht]
 have hg:eF n=true:=bX ht;have hn:=bL hg;cases hm:inR me 0 (n-1)
 ·simp (disch:=first|assumption|omega) only[S0,rA,rQ,rB,rT,rE,nX,bZ,ht,hm]
 simp (disch:=first|assumption|omega) only[S0,rA,rQ,rB,rT,rE,nX,bZ,ht,hm];rw[Na2 1 leads.length (Las n me leads) [.bool false]]
 ·(refine aD ?_;repeat' (refine aC ?_ ?_<;>intro _<;>try simp (disch:=first|assumption|omega) only[S0,rA,rQ,rB,rT,rE, *]))
 ·intro i hi aq
  have hb:InB leads (i:Int):=aO.2 hi;have hq:=hs4 _ (at_mem hi);unfold Las Uat;cases c1:Ea2 n me (atI leads (i:Int))
  ·simp (disch:=first|assumption|omega) only[S0,rA,rQ,rB,rT,rE,aQ,pW,aq,c1]
  by_cases h0:0<(i:Int)
  ·have d0:decide (0<(i:Int))=true:=by simpa using h0
   have kA:InB leads ((i:Int)-1):=by unfold InB;omega
   simp (disch:=first|assumption|omega) only[S0,rA,rQ,rB,rT,rE,aQ,pW,aq,c1,d0]<;>repeat' (refine aC (fun _=>?_) (fun _=>?_)<;>try simp (disch:=first|assumption|omega) only[S0,rA,rQ,rB,rT,rE,aQ,pW, *])
  ·have d0:decide (0<(i:Int))=false:=by simpa using h0
   simp (disch:=first|assumption|omega) only[S0,rA,rQ,rB,rT,rE,aQ,pW,aq,c1,d0]
 ·intro aq
  simp (disch:=first|assumption|omega) only[S0,rA,rQ,rB,rT,rE,aq]
theorem Ca2 (me n:Int)(rows:List (List dQ))(leads:List gT)(hs:Eaj rows)(l7:Iaq leads):Fun T 83 [i64 me,i64 n,rL rows,rL leads]=some [.bool (Na7 ⟨me,⟨n,rows⟩,leads⟩)]:=by
 rw[aR (t:=Gbd) rfl];unfold Gbd;unfold Na7
 obtain⟨hs3,hs4⟩:=l7;cases ht:fU ⟨n,rows⟩
 ·simp (disch:=first|assumption|omega) only[S0,rA,rQ,rB,rT,rE,oG,ht]
 have hg:eF n=true:=bX ht;have hn:=bL hg;cases hm:inR me 0 (n-1)
 ·simp (disch:=first|assumption|omega) only[S0,rA,rQ,rB,rT,rE,oG,bM,ht,hm]
 simp (disch:=first|assumption|omega) only[S0,rA,rQ,rB,rT,rE,oG,bM,ht,hm];rw[Na2 1 leads.length (Las n me leads) [.bool false]]
 ·(refine aD ?_;repeat' (refine aC ?_ ?_<;>intro _<;>try simp (disch:=first|assumption|omega) only[S0,rA,rQ,rB,rT,rE, *]))
 ·intro i hi aq
  have hb:InB leads (i:Int):=aO.2 hi;have hq:=hs4 _ (at_mem hi);unfold Las Uat;cases c1:Ea2 n me (atI leads (i:Int))
  ·simp (disch:=first|assumption|omega) only[S0,rA,rQ,rB,rT,rE,aQ,qM,aq,c1]
  by_cases h0:0<(i:Int)
  ·have d0:decide (0<(i:Int))=true:=by simpa using h0
   have kA:InB leads ((i:Int)-1):=by unfold InB;omega
   have hc:=Obt (atI leads (i:Int)).rep (atI leads (i:Int)).no (atI leads ((i:Int)-1)).rep (atI leads ((i:Int)-1)).no;have l1:([(atI leads (i:Int)).rep,(atI leads (i:Int)).no]:List Int).length<=1099511627776:=by simp
   have l2:([(atI leads ((i:Int)-1)).rep,(atI leads ((i:Int)-1)).no]:List Int).length<=1099511627776:=by simp
   generalize hz:(decide ((atI leads (i:Int)).rep<(atI leads ((i:Int)-1)).rep)||((atI leads ((i:Int)-1)).rep==(atI leads (i:Int)).rep&&decide ((atI leads (i:Int)).no<=(atI leads ((i:Int)-1)).no)))=z at hc ⊢;cases z<;>simp (disch:=first|assumption|omega) only[S0,rA,rQ,rB,rT,rE,aQ,Obw,qM,yL,aq,c1,d0,hc]
  ·have d0:decide (0<(i:Int))=false:=by simpa using h0
   simp (disch:=first|assumption|omega) only[S0,rA,rQ,rB,rT,rE,aQ,qM,aq,c1,d0]
 ·intro aq
  simp (disch:=first|assumption|omega) only[S0,rA,rQ,rB,rT,rE,aq]
theorem Ba2 (n:Int)(l:List bN)(hg:eF n=true)(hl:l.length<=10000000000):Fun T 35 [i64 n,rL l]=some [.bool (Naa n l)]:=by
 rw[aR (t:=Hbo) rfl];unfold Hbo;unfold Naa
 have hn:=bL hg;simp (disch:=first|assumption|omega) only[S0,rA,rQ,rB,rT,rE];rw[Na2 1 l.length (Fa3 n l) [.bool false]]
 ·(refine aD ?_;repeat' (refine aC ?_ ?_<;>intro _<;>try simp (disch:=first|assumption|omega) only[S0,rA,rQ,rB,rT,rE, *]))
 ·intro i hi aq
  have hb:InB l (i:Int):=aO.2 hi;unfold Fa3;cases c1:inst n (atI l (i:Int)).rep (atI l (i:Int)).no
  ·simp (disch:=first|assumption|omega) only[S0,rA,rQ,rB,rT,rE,aQ,dS,aq,c1]
  cases c2:Bam (atI l (i:Int)).cmd
  ·simp (disch:=first|assumption|omega) only[S0,rA,rQ,rB,rT,rE,aQ,dS,fH,aq,c1,c2]
  cases c3:(atI l (i:Int)).cmd.kind==0
  rotate_left
  ·simp (disch:=first|assumption|omega) only[S0,rA,rQ,rB,rT,rE,aQ,dS,fH,aq,c1,c2,c3]
  simp (disch:=first|assumption|omega) only[S0,rA,rQ,rB,rT,rE,aQ,Fbh,dS,fH,aq,c1,c2,c3,Qbh,Int.toNat_zero,List.drop_zero];have e:(l.take i).any (fun b=>b.rep==(atI l (i:Int)).rep&&b.no==(atI l (i:Int)).no)=!(l.take i).all fun b=>!(b.rep==(atI l (i:Int)).rep&&b.no==(atI l (i:Int)).no):=by rw[Qbx];simp only[Bool.not_not]
  rw[e,Fbg 3 (l.take i) (fun b=>!(b.rep==(atI l (i:Int)).rep&&b.no==(atI l (i:Int)).no)) [.bool false]]
  ·(refine aD ?_;repeat' (refine aC ?_ ?_<;>intro _<;>try simp (disch:=first|assumption|omega) only[S0,rA,rQ,rB,rT,rE, *]))
  ·intro j hj kA lj hm
   have y4:j<10000000000:=by rw[Qbs]at hj;omega
   have s1:((atI l (i:Int)).rep==(atI (l.take i) (j:Int)).rep)=((atI (l.take i) (j:Int)).rep==(atI l (i:Int)).rep):=by rw[Bool.eq_iff_iff,beq_iff_eq,beq_iff_eq];exact eq_comm
   have s2:((atI l (i:Int)).no==(atI (l.take i) (j:Int)).no)=((atI (l.take i) (j:Int)).no==(atI l (i:Int)).no):=by rw[Bool.eq_iff_iff,beq_iff_eq,beq_iff_eq];exact eq_comm
   generalize h1:((atI (l.take i) (j:Int)).rep==(atI l (i:Int)).rep)=q1 at s1;generalize h2:((atI (l.take i) (j:Int)).no==(atI l (i:Int)).no)=q2 at s2;cases q1<;>cases q2<;>simp (disch:=first|assumption|omega) only[S0,rA,rQ,rB,rT,rE,aQ,lj,h1,h2,s1,s2]
  ·intro lj
   simp (disch:=first|assumption|omega) only[S0,rA,rQ,rB,rT,rE,lj]
 ·intro aq
  simp (disch:=first|assumption|omega) only[S0,rA,rQ,rB,rT,rE,aq]
theorem Cac (ux a0i ox rm qd qi qm:Int)(rep no:Int):Fun T 107 [i64 ux,i64 a0i,i64 ox,i64 rm,i64 qd,i64 qi,i64 qm,i64 rep,i64 no]=some [.bool (ux==rep&&a0i==no)]:=by
 rw[aR (t:=Xav) rfl];unfold Xav
 (refine aD ?_;repeat' (refine aC ?_ ?_<;>intro _<;>try simp (disch:=first|assumption|omega) only[S0,rA,rQ,rB,rT,rE, *]))
theorem Ra7 (rep no:Int)(xs:List bN)(hx:xs.length<=1099511627776):Fun T 106 [rL xs,i64 rep,i64 no]=some [i64 (ixF (fun b=>b.rep==rep&&b.no==no) xs)]:=by
 rw[aR (t:=Xaw) rfl];unfold Xaw
 simp (disch:=first|assumption|omega) only[S0,rA,rQ,rB,rT,rE,aQ, *];rw[uJ 1 xs (fun b=>b.rep==rep&&b.no==no) (fun i=>[i64 i])]
 ·cases h:xs.any (fun b=>b.rep==rep&&b.no==no)
  ·have e:ixF (fun b=>b.rep==rep&&b.no==no) xs=-1:=by
    have h2:=dO (fun b=>b.rep==rep&&b.no==no) xs;rw[h]at h2;unfold ixF at h2 ⊢;split at h2<;>simp_all
   rw[e];simp (disch:=first|assumption|omega) only[S0,rA,rQ,rB,rT,rE]
  ·simp (disch:=first|assumption|omega) only[S0,rA,rQ,rB,rT,rE]
 ·intro i hi hb hl hp
  (refine aD ?_;repeat' (refine aC ?_ ?_<;>intro _<;>try simp (disch:=first|assumption|omega) only[S0,rA,rQ,rB,rT,rE,aQ,Cac, *]))
 ·intro i hi hb hl hp
  (refine aD ?_;repeat' (refine aC ?_ ?_<;>intro _<;>try simp (disch:=first|assumption|omega) only[S0,rA,rQ,rB,rT,rE,aQ,Cac, *]))
 ·intro hl
  (refine aD ?_;repeat' (refine aC ?_ ?_<;>intro _<;>try simp (disch:=first|assumption|omega) only[S0,rA,rQ,rB,rT,rE, *]))
theorem Gal (reps:List lJ)(bag:List mE)(l:List bN)(k:Nat)(rep no:Int)(hk:k<=l.length)(hl:l.length<=10000000000):Fun T 105 [rL reps,rL bag,rL l,i64 k,i64 rep,i64 no]=some [i64 (ixF (fun b=>b.rep==rep&&b.no==no) (l.take k))]:=by
 rw[aR (t:=Xax) rfl];unfold Xax
 have ht:(l.take k).length<=1099511627776:=by rw[Qbs];omega
 simp (disch:=first|assumption|omega) only[S0,rA,rQ,rB,rT,rE,Fbh,Ra7,Qbh,Int.toNat_zero,List.drop_zero]
theorem sS (reps:List lJ)(bag:List mE)(asked:List bN)(h1:mM reps)(h2:Ba3 bag)(h3:asked.length<=10000000000):Fun T 33 [rL reps,rL bag,rL asked]=some [.bool (sI ⟨reps,bag,asked⟩)]:=by
 rw[aR (t:=Hbq) rfl];unfold Hbq;unfold sI
 obtain⟨h4,h5⟩:=h1;obtain⟨h6,h7⟩:=h2;cases hg:eF (reps.length:Int)
 ·simp (disch:=first|assumption|omega) only[S0,rA,rQ,rB,rT,rE,fG,hg]
 cases hb:decide (80<(bag.length:Int))
 rotate_left
 ·simp (disch:=first|assumption|omega) only[S0,rA,rQ,rB,rT,rE,fG,hg,hb]
 cases ha:Naa (reps.length:Int) asked
 ·simp (disch:=first|assumption|omega) only[S0,rA,rQ,rB,rT,rE,fG,Ba2,hg,hb,ha]
 simp (disch:=first|assumption|omega) only[S0,rA,rQ,rB,rT,rE,fG,Ba2,hg,hb,ha];rw[Na2 1 reps.length (Ka8 reps.length reps) [.bool false]]
 ·cases hr:sK (Ka8 reps.length reps) reps.length
  ·simp (disch:=first|assumption|omega) only[S0,rA,rQ,rB,rT,rE]
  ·simp (disch:=first|assumption|omega) only[S0,rA,rQ,rB,rT,rE]
   rw[Fbg 3 bag (fun m=>wC reps.length m) [.bool false]]
   ·(refine aD ?_;repeat' (refine aC ?_ ?_<;>intro _<;>try simp (disch:=first|assumption|omega) only[S0,rA,rQ,rB,rT,rE, *]))
   ·intro i hi hbi aq hm
    have hq:=h7 _ hm;simp (disch:=first|assumption|omega) only[S0,rA,rQ,rB,rT,rE,aQ,Kas,aq]<;>repeat' (refine aC (fun _=>?_) (fun _=>?_)<;>try simp (disch:=first|assumption|omega) only[S0,rA,rQ,rB,rT,rE, *])
   ·intro aq
    simp (disch:=first|assumption|omega) only[S0,rA,rQ,rB,rT,rE,aq]
 ·intro i hi aq
  have hbi:InB reps (i:Int):=aO.2 hi;obtain⟨jd,jl⟩:=h5 _ (at_mem hi);unfold Ka8;simp (disch:=first|assumption|omega) only[S0,rA,rQ,rB,rT,rE,aQ,Cav,aq]<;>repeat' (refine aC (fun _=>?_) (fun _=>?_)<;>try simp (disch:=first|assumption|omega) only[S0,rA,rQ,rB,rT,rE, *])
 ·intro aq
  simp (disch:=first|assumption|omega) only[S0,rA,rQ,rB,rT,rE,aq]
theorem wT (eK jb iz jc lR dT fS eC cn et cU cV cQ cq:Int)(bf:(List Int))(n:Int)(hx:bf.length<=10000000000):Fun T 66 [i64 eK,i64 jb,i64 iz,i64 jc,i64 lR,i64 dT,i64 fS,i64 eC,i64 cn,i64 et,i64 cU,i64 cV,i64 cQ,i64 cq,rL bf,i64 n]=some [.bool (!wC n ⟨eK,jb,iz,jc,lR,dT,fS,eC,⟨cn,et,cU,cV,cQ⟩,⟨cq,bf⟩⟩)]:=by
 rw[aR (t:=Gbt) rfl];unfold Gbt
 simp (disch:=first|assumption|omega) only[S0,rA,rQ,rB,rT,rE,La4]
theorem Laz (n:Int)(xs:List mE)(hx:xs.length<=1099511627776)(hq:∀ x∈xs,x.attr.deps.length<=10000000000):Fun T 65 [rL xs,i64 n]=some [i64 (ixF (fun m=>!wC n m) xs)]:=by
 rw[aR (t:=Gbu) rfl];unfold Gbu
 simp (disch:=first|assumption|omega) only[S0,rA,rQ,rB,rT,rE,aQ, *];rw[uJ 1 xs (fun m=>!wC n m) (fun i=>[i64 i])]
 ·cases h:xs.any (fun m=>!wC n m)
  ·have e:ixF (fun m=>!wC n m) xs=-1:=by
    have h2:=dO (fun m=>!wC n m) xs;rw[h]at h2;unfold ixF at h2 ⊢;split at h2<;>simp_all
   rw[e];simp (disch:=first|assumption|omega) only[S0,rA,rQ,rB,rT,rE]
  ·simp (disch:=first|assumption|omega) only[S0,rA,rQ,rB,rT,rE]
 ·intro i hi hb hl hp
  have je:=hq _ (at_mem hi)
  try simp only at je hp
  (refine aD ?_;repeat' (refine aC ?_ ?_<;>intro _<;>try simp (disch:=first|assumption|omega) only[S0,rA,rQ,rB,rT,rE,aQ,wT, *]))
 ·intro i hi hb hl hp
  have je:=hq _ (at_mem hi)
  try simp only at je hp
  (refine aD ?_;repeat' (refine aC ?_ ?_<;>intro _<;>try simp (disch:=first|assumption|omega) only[S0,rA,rQ,rB,rT,rE,aQ,wT, *]))
 ·intro hl
  (refine aD ?_;repeat' (refine aC ?_ ?_<;>intro _<;>try simp (disch:=first|assumption|omega) only[S0,rA,rQ,rB,rT,rE, *]))
theorem Cao (n:Int)(xs:List mE)(hx:xs.length<=1099511627776)(hq:∀ x∈xs,x.attr.deps.length<=10000000000):Fun T 64 [rL xs,i64 n]=some [.bool (xs.any (fun m=>!wC n m))]:=by
 rw[aR (t:=Gbv) rfl];unfold Gbv
 (refine aD ?_;repeat' (refine aC ?_ ?_<;>intro _<;>try simp (disch:=first|assumption|omega) only[S0,rA,rQ,rB,rT,rE,Laz,dO, *]))
theorem uE (reps:List lJ)(bag:List mE)(asked:List bN)(h1:mM reps)(h2:Ba3 bag)(h3:asked.length<=10000000000):Fun T 62 [rL reps,rL bag,rL asked]=some [.bool (sI ⟨reps,bag,asked⟩)]:=by
 rw[aR (t:=Gbx) rfl];unfold Gbx;unfold sI
 obtain⟨h4,h5⟩:=h1;obtain⟨h6,h7⟩:=h2;have h6':bag.length<=1099511627776:=by omega
 have e:(bag.any fun m=>!wC reps.length m)=!bag.all fun m=>wC reps.length m:=by rw[Qbx]
 cases hg:eF (reps.length:Int)
 ·simp (disch:=first|assumption|omega) only[S0,rA,rQ,rB,rT,rE,gX,hg]
 have hn:=bL hg;cases hb:decide (80<(bag.length:Int))
 rotate_left
 ·simp (disch:=first|assumption|omega) only[S0,rA,rQ,rB,rT,rE,gX,hg,hb]
 cases hm:bag.all fun m=>wC reps.length m
 ·simp (disch:=first|assumption|omega) only[S0,rA,rQ,rB,rT,rE,gX,Cao,hg,hb,e,hm]
 simp (disch:=first|assumption|omega) only[S0,rA,rQ,rB,rT,rE,gX,Cao,hg,hb,e,hm];rw[Na2 1 reps.length (Ka8 reps.length reps) [.bool false]]
 ·cases hr:sK (Ka8 reps.length reps) reps.length
  ·simp (disch:=first|assumption|omega) only[S0,rA,rQ,rB,rT,rE]
  ·simp (disch:=first|assumption|omega) only[S0,rA,rQ,rB,rT,rE]
   unfold Naa;rw[Na2 3 asked.length (Fa3 reps.length asked) [.bool false]]
   ·(refine aD ?_;repeat' (refine aC ?_ ?_<;>intro _<;>try simp (disch:=first|assumption|omega) only[S0,rA,rQ,rB,rT,rE, *]))
   ·intro i hi aq
    have hbi:InB asked (i:Int):=aO.2 hi;have hle:i<=asked.length:=by omega
    unfold Fa3;cases c1:inst (reps.length:Int) (atI asked (i:Int)).rep (atI asked (i:Int)).no
    ·simp (disch:=first|assumption|omega) only[S0,rA,rQ,rB,rT,rE,aQ,bE,aq,c1,hg]
    cases c2:Bam (atI asked (i:Int)).cmd
    ·simp (disch:=first|assumption|omega) only[S0,rA,rQ,rB,rT,rE,aQ,bE,eQ,aq,c1,c2,hg]
    cases c3:(atI asked (i:Int)).cmd.kind==0
    rotate_left
    ·simp (disch:=first|assumption|omega) only[S0,rA,rQ,rB,rT,rE,aQ,bE,eQ,aq,c1,c2,c3,hg]
    rw[<- dO];cases c4:decide (0<=ixF (fun b:bN=>b.rep==(atI asked (i:Int)).rep&&b.no==(atI asked (i:Int)).no) (List.take i asked))<;>simp (disch:=first|assumption|omega) only[S0,rA,rQ,rB,rT,rE,aQ,bE,eQ,Gal,aq,c1,c2,c3,c4,hg]
   ·intro aq
    simp (disch:=first|assumption|omega) only[S0,rA,rQ,rB,rT,rE,aq]
 ·intro i hi aq
  have hbi:InB reps (i:Int):=aO.2 hi;obtain⟨jd,jl⟩:=h5 _ (at_mem hi);unfold Ka8;generalize hz:Na7 (atI reps (i:Int))=z;cases k1:(atI reps (i:Int)).me==(i:Int)
  ·simp (disch:=first|assumption|omega) only[S0,rA,rQ,rB,rT,rE,aQ,aq,k1]
  cases k2:(atI reps (i:Int)).table.n==(reps.length:Int)
  ·simp (disch:=first|assumption|omega) only[S0,rA,rQ,rB,rT,rE,aQ,aq,k1,k2]
  cases z<;>simp (disch:=first|assumption|omega) only[S0,rA,rQ,rB,rT,rE,aQ,Ca2,aq,k1,k2,hz]
 ·intro aq
  simp (disch:=first|assumption|omega) only[S0,rA,rQ,rB,rT,rE,aq]
theorem Ca1 (reps:List lJ)(bag:List mE)(asked:List bN)(ms:List Int)(h1:mM reps)(h2:Ba3 bag)(h3:asked.length<=10000000000)(h4:ms.length<=10000000000):Fun T 61 [rL reps,rL bag,rL asked,rL ms]=some [.bool (zG ⟨reps,bag,asked⟩ ms)]:=by
 rw[aR (t:=Gby) rfl];unfold Gby;unfold zG
 cases hn:sI ⟨reps,bag,asked⟩
 ·simp (disch:=first|assumption|omega) only[S0,rA,rQ,rB,rT,rE,uE,hn,Rbk]
 cases hl:decide (0<(ms.length:Int))
 ·simp (disch:=first|assumption|omega) only[S0,rA,rQ,rB,rT,rE,uE,hn,hl,Rbh,Rbk]
 have hg:=La0 (tT hn);simp only at hg;simp (disch:=first|assumption|omega) only[S0,rA,rQ,rB,rT,rE,uE,gP,hn,hl,Rbh]
theorem Caz (a b:Int)(r:dQ)(is:Bool)(no rep:Int)(hb:InB r.attr.deps rep):Fun T 112 [i64 a,i64 b,i64 r.ballot,i64 r.vote,i64 r.state,i64 r.cmd.kind,i64 r.cmd.id,i64 r.cmd.src,i64 r.cmd.dst,i64 r.cmd.amt,i64 r.attr.seq,rL r.attr.deps,.bool is,i64 no,i64 rep]=some [.bool (is||Aa6 r rep no)]:=by
 rw[aR (t:=Xaq) rfl];unfold Xaq;unfold Aa6
 cases is
 ·cases c:(r.state==3)
  ·simp (disch:=first|assumption|omega) only[S0,rA,rQ,rB,rT,rE,c,Qb6,Rbk]
  ·simp (disch:=first|assumption|omega) only[S0,rA,rQ,rB,rT,rE,c,aQ,Qb6,Rbh]
 ·simp (disch:=first|assumption|omega) only[S0,rA,rQ,rB,rT,rE,Bool.true_or]
theorem xJ (n:Int)(rows:List (List dQ))(is:Bool)(no rep:Int)(hs:Eaj rows)(hb:∀ l∈rows,∀ r∈l,InB r.attr.deps rep):Fun T 111 [i64 n,rL rows,.bool is,i64 no,i64 rep]=some [.bool (is||rows.any fun l=>l.any fun r=>Aa6 r rep no)]:=by
 rw[aR (t:=Xar) rfl];unfold Xar
 have nn:=hs.1
 have anyS:∀ {α:Type} [Inhabited α] (xs:List α) (p:α->Bool) (i:Nat),i<xs.length->((xs.take (i+1)).any p)=((xs.take i).any p||p (atI xs (i:Int))):=by
  intro α _ xs p i hi;rw[<- take_at hi,List.any_append];simp
 simp (disch:=first|assumption|omega) only[S0,rA,rQ,rB,rT,rE];rw[Oai rows.length (fun i=>[i64 i,.bool (is||(rows.take i).any fun l=>l.any fun r=>Aa6 r rep no)]) (.yield 1,[.bool (is||rows.any fun l=>l.any fun r=>Aa6 r rep no)]) (by simp only[List.take_zero,List.any_nil,Bool.or_false];rfl) (by simp)]
 ·simp (disch:=first|assumption|omega) only[S0,rA,rQ,rB,rT,rE]
 ·intro i hi aq
  have hbi:InB rows (i:Int):=aO.2 hi;have uz:=(hs.2 _ (at_mem hi)).1;have np:=hb _ (at_mem hi);rw[anyS rows _ i hi,<- Bool.or_assoc];generalize (is||(rows.take i).any fun l=>l.any fun r=>Aa6 r rep no)=b0;generalize hL:atI rows (i:Int)=L at uz np ⊢;simp (disch:=first|assumption|omega) only[S0,rA,rQ,rB,rT,rE,aQ,aq,hL];rw[Oai L.length (fun j=>[i64 j,.bool (b0||(L.take j).any fun r=>Aa6 r rep no)]) (.yield 3,[.bool (b0||L.any fun r=>Aa6 r rep no)]) (by simp only[List.take_zero,List.any_nil,Bool.or_false];rfl) (by simp)]
  ·simp (disch:=first|assumption|omega) only[S0,rA,rQ,rB,rT,rE]
  ·intro j hj eJ
   have sL:InB L (j:Int):=aO.2 hj;have qy:=np _ (at_mem hj);rw[anyS L _ j hj,<- Bool.or_assoc];generalize (b0||(L.take j).any fun r=>Aa6 r rep no)=b1;generalize hR:atI L (j:Int)=r at qy ⊢;have e:=Caz (i:Int) ((j:Int)+1) r b1 no rep qy;simp (disch:=first|assumption|omega) only[S0,rA,rQ,rB,rT,rE,aQ,eJ,hR,e]
  ·intro eJ
   rw[Rbw];simp (disch:=first|assumption|omega) only[S0,rA,rQ,rB,rT,rE,eJ]
 ·intro aq
  rw[Rbw];simp (disch:=first|assumption|omega) only[S0,rA,rQ,rB,rT,rE,aq]
theorem Gai (n:Int)(rows:List (List dQ))(ht:fU ⟨n,rows⟩=true)(hs:Eaj rows):Fun T 110 [i64 n,rL rows]=some [rL (Ia5 ⟨n,rows⟩)]:=by
 rw[aR (t:=Xas) rfl];unfold Xas
 have hlen:=fE ht;have hg:=bX ht;have zE:=bL hg;simp only at hlen hg zE;have h0:(aY.mk 1 0).run []=some [rL ([]:List (List Int))]:=rfl
 have hbd:∀ rep:Nat,rep<rows.length->∀ l∈rows,∀ r∈l,InB r.attr.deps (rep:Int):=by
  intro rep hr l hl r jy;obtain⟨d1,d2⟩:=Pas ((jP ht hl).2 r jy) hg;simp only at d1;unfold InB;omega
 have hM:Ia5 ⟨n,rows⟩=sH (fun y=>Lan ⟨n,rows⟩ (atI y 0) (atI y 1)) rows.length:=by
  unfold Ia5 sH;simp only;rw[show n.toNat=rows.length by omega]
 rw[hM];obtain⟨N,rfl⟩:∃ N:Nat,n=(N:Int):=⟨n.toNat,by omega⟩;have hN:rows.length=N:=by omega
 rw[hN];generalize hf:(fun y:List Int=>Lan ⟨(N:Int),rows⟩ (atI y 0) (atI y 1))=f;simp (disch:=first|assumption|omega) only[S0,rA,rQ,rB,rT,rE,h0];rw[Oai N (fun k=>[rL (sH f k),i64 k]) (.yield 1,[rL (sH f N)]) (by rfl) (by simp)]
 ·simp (disch:=first|assumption|omega) only[S0,rA,rQ,rB,rT,rE]
 ·intro k hk aq
  have oB:InB rows (k:Int):=aO.2 (by omega);have hl6:=(jP ht (jF oB)).1;have n9:=Lak f k;simp (disch:=first|assumption|omega) only[S0,rA,rQ,rB,rT,rE,aq];rw[Oai 6 (fun m=>[rL (sH f k++nZ f k m),i64 ((m:Int)+1)]) (.yield 3,[rL (sH f k++nZ f k 6),i64 7]) (by rw[show nZ f (k:Int) 0=[] from rfl,Pbz];rfl) (by simp)]
  ·rw[Haf]
   simp (disch:=first|assumption|omega) only[S0,rA,rQ,rB,rT,rE]
  ·intro m hm _
   have d6:decide ((m:Int)+1<=6)=true:=by simp;omega
   have e:=xJ (N:Int) rows (decide ((m:Int)+1<=((atI rows (k:Int)).length:Int))) ((m:Int)+1) (k:Int) hs (hbd k (by omega))
   have ef:f [(k:Int),(m:Int)+1]=(decide ((m:Int)+1<=((atI rows (k:Int)).length:Int))||rows.any fun l=>l.any fun r=>Aa6 r (k:Int) ((m:Int)+1)):=by
    rw[<- hf];rfl
   rw[<- ef]at e;rw[Aa7];have yz:=Lai f (k:Int) m;have z2:(aY.mk 1 2).run [i64 (k:Int),i64 ((m:Int)+1)]=some [rL ([(k:Int),(m:Int)+1]:List Int)]:=rfl;have z3:(aY.mk 1 1).run [rL ([(k:Int),(m:Int)+1]:List Int)]=some [rL ([[(k:Int),(m:Int)+1]]:List (List Int))]:=rfl;have em:((m+1:Nat):Int)+1=(m:Int)+1+1:=by omega
   cases c:f [(k:Int),(m:Int)+1]
   ·rw[c]at e
    simp only[Ob9,if_false,Pbz];simp (disch:=first|assumption|omega) only[S0,rA,rQ,rB,rT,rE,d6,aQ,e,em]
   ·rw[c]at e
    have a1:(sH f k++nZ f (k:Int) m).length+([[(k:Int),(m:Int)+1]]:List (List Int)).length<=100000000000:=by rw[Pbg];simp only[Pb9,Qb4];omega
    simp only[if_true];rw[<- Pbd];simp (disch:=first|assumption|omega) only[S0,rA,rQ,rB,rT,rE,d6,aQ,e,z2,z3,Waj,em]
  ·intro _
   have d7:decide ((((0:Nat):Int)+1+1+1+1+1+1+1)<=6)=false:=by decide
   simp (disch:=first|assumption|omega) only[S0,rA,rQ,rB,rT,rE,d7];rfl
 ·intro aq
  simp (disch:=first|assumption|omega) only[S0,rA,rQ,rB,rT,rE,aq]
theorem wS (k:Int)(reps:List lJ)(bag:List mE)(asked:List bN)(y:List Int)(hr:mM reps)(hn:sI ⟨reps,bag,asked⟩=true)(hy:fB reps.length y)(hk:0<=k/\k<=(reps.length:Int)-1):Fun T 115 [i64 k,rL reps,rL bag,rL asked,rL y]=some [.bool (!((dK (sG ⟨reps,bag,asked⟩ k) (atI y 0) (atI y 1)).state==3))]:=by
 rw[aR (t:=Xan) rfl];unfold Xan;unfold sG
 have oB:InB reps k:=by unfold InB;omega
 obtain⟨i,rfl⟩:∃ i:Nat,k=(i:Int):=⟨k.toNat,by omega⟩;obtain⟨ht,hN,hg⟩:=kD hn (i:=i) (aO.1 oB);obtain⟨jd,jl⟩:=hr.2 _ (jF oB);have hy2:y.length=2:=hy.1;have hb0:InB y 0:=by unfold InB;omega
 have oo:InB y 1:=by unfold InB;omega
 simp only at ht hN;have u7:=hy.2;have tg:=gF u7;generalize hR:atI reps (i:Int)=R at ht hN jd jl;have qy:InB R.table.rows (atI y 0):=by have:=fE ht;unfold InB;omega
 have e:=oF R.table.n R.table.rows (atI y 0) (atI y 1) (bX ht) jd qy (by omega) (by omega);simp (disch:=first|assumption|omega) only[S0,rA,rQ,rB,rT,rE,aQ,hR,e]
theorem Lax (reps:List lJ)(bag:List mE)(asked:List bN)(y:List Int)(hr:mM reps)(hn:sI ⟨reps,bag,asked⟩=true)(hy:fB reps.length y)(xs:List Int)(hx:xs.length<=1099511627776)(hq:∀ x∈xs,0<=x/\x<=(reps.length:Int)-1):Fun T 114 [rL xs,rL reps,rL bag,rL asked,rL y]=some [i64 (ixF (fun k=>!((dK (sG ⟨reps,bag,asked⟩ k) (atI y 0) (atI y 1)).state==3)) xs)]:=by
 rw[aR (t:=Xao) rfl];unfold Xao
 simp (disch:=first|assumption|omega) only[S0,rA,rQ,rB,rT,rE,aQ, *];rw[uJ 1 xs (fun k=>!((dK (sG ⟨reps,bag,asked⟩ k) (atI y 0) (atI y 1)).state==3)) (fun i=>[i64 i])]
 ·cases h:xs.any (fun k=>!((dK (sG ⟨reps,bag,asked⟩ k) (atI y 0) (atI y 1)).state==3))
  ·have e:ixF (fun k=>!((dK (sG ⟨reps,bag,asked⟩ k) (atI y 0) (atI y 1)).state==3)) xs=-1:=by
    have h2:=dO (fun k=>!((dK (sG ⟨reps,bag,asked⟩ k) (atI y 0) (atI y 1)).state==3)) xs;rw[h]at h2;unfold ixF at h2 ⊢;split at h2<;>simp_all
   rw[e];simp (disch:=first|assumption|omega) only[S0,rA,rQ,rB,rT,rE]
  ·simp (disch:=first|assumption|omega) only[S0,rA,rQ,rB,rT,rE]
 ·intro i hi hb hl hp
  have je:=hq _ (at_mem hi)
  try simp only at je hp
  obtain⟨jd,jl⟩:=je
  (refine aD ?_;repeat' (refine aC ?_ ?_<;>intro _<;>try simp (disch:=first|assumption|omega) only[S0,rA,rQ,rB,rT,rE,aQ,wS, *]))
 ·intro i hi hb hl hp
  have je:=hq _ (at_mem hi)
  try simp only at je hp
  obtain⟨jd,jl⟩:=je
  (refine aD ?_;repeat' (refine aC ?_ ?_<;>intro _<;>try simp (disch:=first|assumption|omega) only[S0,rA,rQ,rB,rT,rE,aQ,wS, *]))
 ·intro hl
  (refine aD ?_;repeat' (refine aC ?_ ?_<;>intro _<;>try simp (disch:=first|assumption|omega) only[S0,rA,rQ,rB,rT,rE, *]))
theorem Mau (reps:List lJ)(bag:List mE)(asked:List bN)(y:List Int)(hr:mM reps)(hn:sI ⟨reps,bag,asked⟩=true)(hy:fB reps.length y)(xs:List Int)(hx:xs.length<=1099511627776)(hq:∀ x∈xs,0<=x/\x<=(reps.length:Int)-1):Fun T 113 [rL xs,rL reps,rL bag,rL asked,rL y]=some [.bool (xs.any (fun k=>!((dK (sG ⟨reps,bag,asked⟩ k) (atI y 0) (atI y 1)).state==3)))]:=by
 rw[aR (t:=Xap) rfl];unfold Xap
 (refine aD ?_;repeat' (refine aC ?_ ?_<;>intro _<;>try simp (disch:=first|assumption|omega) only[S0,rA,rQ,rB,rT,rE,Lax,dO, *]))
theorem Kay (l:List (List Int))(h2:∀ y∈l,y.length=2)(hl:l.length<=1000000):Fun T 122 [rL l]=some [rL ((wB id (l.map prL)).map toL)]:=by
 rw[Wan (e:=Eah) rfl];exact Cbo h2 hl
theorem La2 (reps:List lJ)(bag:List mE)(asked:List bN)(ms:List Int)(hr:mM reps)(hn:sI ⟨reps,bag,asked⟩=true)(hm:∀ k∈ms,0<=k/\k<=(reps.length:Int)-1)(hl:ms.length<=10000000000):Fun T 109 [rL reps,rL bag,rL asked,rL ms]=some [rL (Pa0 ⟨reps,bag,asked⟩ ms)]:=by
 rw[aR (t:=Xat) rfl];unfold Xat
 have h0:(aY.mk 1 0).run []=some [rL ([]:List (List Int))]:=rfl;have hg:=tT hn;have zE:=bL hg;simp only at hg zE;have il:∀ out:List (List Int),out.Nodup->(∀ y∈out,fB reps.length y)->out.length<=30:=fun out h1 h2=>qK hg h1 h2
 simp (disch:=first|assumption|omega) only[S0,rA,rQ,rB,rT,rE,h0];generalize hE:Er T (Tm.loop _ _) _=E
 have key:∃ q,E=some q/\∃ out,q=(.yield 1,[rL out])/\Zay ⟨reps,bag,asked⟩ ms (fun y=>fB reps.length y/\Uah ⟨reps,bag,asked⟩ ms (atI y 0) (atI y 1)=true) out:=by
  rw[<- hE];refine Ham (γ:=Nat×List (List Int)) (fun c=>ms.length-c.1) (fun c=>c.1<=ms.length/\Zay ⟨reps,bag,asked⟩ ms (fun y=>∃ a:Nat,a<c.1/\y∈Ia5 (sG ⟨reps,bag,asked⟩ (atI ms (a:Int)))) c.2) (fun c=>[rL c.2,i64 c.1]) _ (0,[]) rfl ⟨Qbn _,⟨List.nodup_nil,fun y=>by simp,by simp⟩⟩ ?_
  rintro⟨a,out⟩ ⟨h1,h2⟩
  simp only at h1 h2;by_cases ha:a<ms.length
  rotate_left
  ·have d:decide ((a:Int)<(ms.length:Int))=false:=by simpa using ha
   obtain rfl:a=ms.length:=by omega
   refine .inr ⟨(.yield 1,[rL out]),?_,by simp,out,rfl,⟨h2.nodup,fun y=>?_,h2.inst⟩⟩
   ·simp (disch:=first|assumption|omega) only[S0,rA,rQ,rB,rT,rE,d]
   ·rw[h2.iff]
    refine and_congr_left fun ho=>?_
    unfold Uah;rw[List.any_eq_true];constructor
    ·rintro⟨a,ha,hy⟩
     have hka:=hm _ (at_mem ha);obtain⟨i,hi⟩:∃ i:Nat,atI ms (a:Int)=(i:Int):=⟨(atI ms (a:Int)).toNat,by omega⟩;have hN:=(kD hn (i:=i) (by simp only;omega)).2.1;obtain⟨y1,y2⟩:=Ia4.1 hy;unfold sG at y1 y2;rw[hi]at y1;simp only at hN y1;rw[hN,Qbh]at y1;exact⟨y1,_,at_mem ha,y2⟩
    ·rintro⟨y1,k,hk,y2⟩
     obtain⟨a,ha,rfl⟩:=Rbt hk;refine⟨a,ha,?_⟩;rw[cK ha];have hka:=hm _ hk;obtain⟨i,hi⟩:∃ i:Nat,ms[a]=(i:Int):=⟨ms[a].toNat,by omega⟩;have hN:=(kD hn (i:=i) (by simp only;omega)).2.1;refine Ia4.2 ⟨?_,y2⟩;unfold sG;rw[hi];simp only at hN ⊢;rw[hN,Qbh];exact y1
  ·have d:decide ((a:Int)<(ms.length:Int))=true:=by simpa using ha
   have hb:InB ms (a:Int):=aO.2 ha;have hka:=hm _ (at_mem ha);have oB:InB reps (atI ms (a:Int)):=by unfold InB;omega
   obtain⟨i,hi⟩:∃ i:Nat,atI ms (a:Int)=(i:Int):=⟨(atI ms (a:Int)).toNat,by omega⟩;obtain⟨ht,hN,-⟩:=kD hn (i:=i) (by simp only;omega);obtain⟨jd,jl⟩:=hr.2 _ (jF oB);have eT:sG ⟨reps,bag,asked⟩ (atI ms (a:Int))=(atI reps (atI ms (a:Int))).table:=rfl;simp only at ht hN;rw[hi]at oB jd jl
   have eS:∀ y,(∃ b:Nat,b<a+1/\y∈Ia5 (sG ⟨reps,bag,asked⟩ (atI ms (b:Int))))↔(∃ b:Nat,b<a/\y∈Ia5 (sG ⟨reps,bag,asked⟩ (atI ms (b:Int))))\/y∈Ia5 (atI reps (i:Int)).table:=by
    intro y;rw[<- hi,<- eT];constructor
    ·rintro⟨b,hb,hy⟩
     rcases Pbo b a with h|h
     ·exact .inl ⟨b,h,hy⟩
     ·obtain rfl:b=a:=by omega
      exact .inr hy
    ·rintro (⟨b,hb,hy⟩|hy)
     ·exact⟨b,by omega,hy⟩
     ·exact⟨a,by omega,hy⟩
   generalize hR:atI reps (i:Int)=R at ht hN jd jl eS;have em:=Gai R.table.n R.table.rows ht jd
   have emi:∀ y∈Ia5 R.table,fB reps.length y:=by
    intro y hy;have:=(Ia4.1 hy).1;rw[hN,Qbh]at this;exact this
   have eml:(Ia5 R.table).length<=1000:=by
    have:=List.length_filter_le (fun y=>Lan R.table (atI y 0) (atI y 1)) (kI R.table.n.toNat);rw[xW]at this;unfold Ia5;omega
   have eMT:Ia5 ⟨R.table.n,R.table.rows⟩=Ia5 R.table:=rfl;rw[eMT]at em;generalize Ia5 R.table=M at em emi eml eS;simp (disch:=first|assumption|omega) only[S0,rA,rQ,rB,rT,rE,d,aQ,hi,hR,em];generalize hE2:Er T (Tm.loop _ _) _=E2
   have wx:∃ q,E2=some q/\∃ out',q=(.yield 3,[rL out'])/\Zay ⟨reps,bag,asked⟩ ms (fun y=>(∃ b:Nat,b<a/\y∈Ia5 (sG ⟨reps,bag,asked⟩ (atI ms (b:Int))))\/y∈M) out':=by
    rw[<- hE2];refine Ham (γ:=Nat×List (List Int)) (fun c=>M.length-c.1) (fun c=>c.1<=M.length/\Zay ⟨reps,bag,asked⟩ ms (fun y=>(∃ b:Nat,b<a/\y∈Ia5 (sG ⟨reps,bag,asked⟩ (atI ms (b:Int))))\/y∈M.take c.1) c.2) (fun c=>[rL c.2,rL M,i64 c.1]) _ (0,out) rfl ⟨Qbn _,⟨h2.nodup,fun y=>by rw[h2.iff];simp,h2.inst⟩⟩ ?_
    rintro⟨b,o2⟩ ⟨g1,g2⟩
    simp only at g1 g2;by_cases np:b<M.length
    rotate_left
    ·have d2:decide ((b:Int)<(M.length:Int))=false:=by simpa using np
     obtain rfl:b=M.length:=by omega
     rw[Rbw]at g2;refine .inr ⟨(.yield 3,[rL o2]),?_,by simp,o2,rfl,g2⟩;simp (disch:=first|assumption|omega) only[S0,rA,rQ,rB,rT,rE,d2]
    ·have d2:decide ((b:Int)<(M.length:Int))=true:=by simpa using np
     have ze:InB M (b:Int):=aO.2 np;have u7:=emi _ (at_mem np);have ba:=g2.step u7
     have eT2:∀ y,(((∃ b:Nat,b<a/\y∈Ia5 (sG ⟨reps,bag,asked⟩ (atI ms (b:Int))))\/y∈M.take b)\/y=atI M (b:Int))↔((∃ b:Nat,b<a/\y∈Ia5 (sG ⟨reps,bag,asked⟩ (atI ms (b:Int))))\/y∈M.take (b+1)):=by
      intro y;rw[<- take_at np,Pbe,Ob3,or_assoc]
     have o2l:=il o2 g2.nodup g2.inst;generalize hY:atI M (b:Int)=y at u7 ba eT2;have hyl:y.length=2:=u7.1;have ec:=Mau reps bag asked y hr hn u7 ms (by omega) hm;have eo:(ms.any fun k=>!((dK (sG ⟨reps,bag,asked⟩ k) (atI y 0) (atI y 1)).state==3))=Aa8 ⟨reps,bag,asked⟩ ms y:=rfl;rw[eo]at ec;have eh:=Ca0 o2 y (by omega) (by omega);have z3:(aY.mk 1 1).run [rL y]=some [rL ([y]:List (List Int))]:=rfl;have a1:o2.length+([y]:List (List Int)).length<=100000000000:=by simp only[Pb9,Qb4];omega
     refine .inl ⟨(b+1,if Aa8 ⟨reps,bag,asked⟩ ms y&&!(o2.any fun z=>decide (y=z)) then o2++[y] else o2),?_,⟨by simp only;omega,⟨ba.nodup,fun z=>?_,ba.inst⟩⟩,by simp only;omega⟩
     ·simp only
      cases c1:Aa8 ⟨reps,bag,asked⟩ ms y
      ·rw[c1]at ec
       simp (disch:=first|assumption|omega) only[S0,rA,rQ,rB,rT,rE,d2,aQ,hY,ec,Rbk,Ob9]
      ·rw[c1]at ec
       cases c2:o2.any fun z=>decide (y=z)
       ·rw[c2]at eh
        simp (disch:=first|assumption|omega) only[S0,rA,rQ,rB,rT,rE,d2,aQ,hY,ec,eh,z3,Waj,Rbj,Rbh]
       ·rw[c2]at eh
        simp (disch:=first|assumption|omega) only[S0,rA,rQ,rB,rT,rE,d2,aQ,hY,ec,eh,Qbz,Bool.and_false,Ob9]
     ·simp only
      rw[ba.iff,eT2]
   obtain⟨q,rfl,o3,rfl,g3⟩:=wx;simp (disch:=first|assumption|omega) only[S0,rA,rQ,rB,rT,rE];refine .inl ⟨(a+1,o3),rfl,⟨by simp only;omega,⟨g3.nodup,fun y=>?_,g3.inst⟩⟩,by simp only;omega⟩;simp only;rw[g3.iff,eS]
 obtain⟨q,rfl,out,rfl,hinv⟩:=key;have qh:=il out hinv.nodup hinv.inst;have hso:=Kay out (fun y hy=>(hinv.inst y hy).1) (by omega);rw[hinv.done]at hso;simp (disch:=first|assumption|omega) only[S0,rA,rQ,rB,rT,rE,hso]
theorem Kar (reps:List lJ)(bag:List mE)(asked:List bN)(ms:List Int)(hr:mM reps)(hn:sI ⟨reps,bag,asked⟩=true)(hm:∀ k∈ms,0<=k/\k<=(reps.length:Int)-1)(hl:ms.length<=10000000000):Fun T 54 [rL reps,rL bag,rL asked,rL ms]=some [rL (Pa0 ⟨reps,bag,asked⟩ ms)]:=by
 rw[aR (t:=Gb5) rfl];unfold Gb5
 have hg:=tT hn;have zE:=bL hg;simp only at hg zE;obtain⟨N,hN⟩:∃ N:Nat,reps.length=N:=⟨_,rfl⟩
 have eM:(aY.make 8 [(.int .i64 0)]).run [i64 (reps.length:Int)]=some [rL (Pbp reps.length (0:Int))]:=by
  have:=wZ.1 (n:=(reps.length:Int)) (by omega) (by omega);rwa[Qbh]at this
 have a0q:∀ k∈ms,∃ i:Nat,k=(i:Int)/\i<reps.length/\fU (atI reps (i:Int)).table=true/\(atI reps (i:Int)).table.n=reps.length/\Eaj (atI reps (i:Int)).table.rows:=by
  intro k hk;have lE:=hm k hk;obtain⟨i,rfl⟩:∃ i:Nat,k=(i:Int):=⟨k.toNat,by omega⟩;have hi:i<reps.length:=by omega
  obtain⟨ht,hN2,-⟩:=kD hn (i:=i) hi;exact⟨i,rfl,hi,ht,hN2,(hr.2 _ (at_mem hi)).1⟩
 simp (disch:=first|assumption|omega) only[S0,rA,rQ,rB,rT,rE,eM];generalize hE:Er T (Tm.loop _ _) _=E
 have key:∃ q,E=some q/\∃ most,q=(.yield 1,[rL most])/\Cov reps.length most (fun j no=>Uah ⟨reps,bag,asked⟩ ms j no=true):=by
  rw[<- hE];refine Ham (γ:=Nat×List Int) (fun c=>ms.length-c.1) (fun c=>c.1<=ms.length/\Cov reps.length c.2 (fun j no=>(ms.take c.1).any (fun m=>Lan (sG ⟨reps,bag,asked⟩ m) j no)=true)) (fun c=>[rL c.2,i64 c.1]) _ (0,Pbp reps.length 0) rfl ⟨Qbn _,(Cov.start _).congr fun j no _ _ _=>by simp⟩ ?_
  rintro⟨a,mo⟩ ⟨h1,h2⟩
  simp only at h1 h2;by_cases ha:a<ms.length
  rotate_left
  ·have d:decide ((a:Int)<(ms.length:Int))=false:=by simpa using ha
   obtain rfl:a=ms.length:=by omega
   rw[Rbw]at h2;refine .inr ⟨(.yield 1,[rL mo]),?_,by simp,mo,rfl,h2⟩;simp (disch:=first|assumption|omega) only[S0,rA,rQ,rB,rT,rE,d]
  have d:decide ((a:Int)<(ms.length:Int))=true:=by simpa using ha
  have hb:InB ms (a:Int):=aO.2 ha;obtain⟨i,hi,tg,ht,ph,uz⟩:=a0q _ (at_mem ha);have oB:InB reps (i:Int):=aO.2 tg
  have eS:∀ j no,((ms.take (a+1)).any (fun m=>Lan (sG ⟨reps,bag,asked⟩ m) j no)=true)↔((ms.take a).any (fun m=>Lan (sG ⟨reps,bag,asked⟩ m) j no)=true\/Lan (atI reps (i:Int)).table j no=true):=by
   intro j no;rw[<- take_at ha,List.any_append,Qbb,hi];simp[sG]
  generalize hR:atI reps (i:Int)=R at ht ph uz eS;have xg:=fE ht;have sj:=fun l hl=>jP ht (l:=l) hl
  have htg:=bX ht;have hsm1:=uz.1;simp (disch:=first|assumption|omega) only[S0,rA,rQ,rB,rT,rE,d,aQ,hi,hR]
  -- the rows of one table
  generalize hE2:Er T (Tm.loop _ _) _=E2
  have wx:∃ q,E2=some q/\∃ m2,q=(.yield 3,[rL m2])/\Cov reps.length m2 (fun j no=>(ms.take a).any (fun m=>Lan (sG ⟨reps,bag,asked⟩ m) j no)=true\/Lan R.table j no=true):=by
   rw[<- hE2]
   refine Ham (γ:=Nat×List Int) (fun c=>R.table.rows.length-c.1) (fun c=>c.1<=R.table.rows.length/\Cov reps.length c.2 (fun j no=>(ms.take a).any (fun m=>Lan (sG ⟨reps,bag,asked⟩ m) j no)=true\/∃ b:Nat,b<c.1/\((j=b/\no<=((atI R.table.rows (b:Int)).length:Int))\/∃ r∈atI R.table.rows (b:Int),Aa6 r j no=true))) (fun c=>[rL c.2,i64 c.1]) _ (0,mo) rfl
    ⟨Qbn _,h2.congr fun j no _ _ _=>by simp⟩ ?_
   rintro⟨b,m3⟩ ⟨g1,g2⟩
   simp only at g1 g2;by_cases np:b<R.table.rows.length
   rotate_left
   ·have d2:decide ((b:Int)<(R.table.rows.length:Int))=false:=by simpa using np
    obtain rfl:b=R.table.rows.length:=by omega
    refine .inr ⟨(.yield 3,[rL m3]),?_,by simp,m3,rfl,g2.congr fun j no j0 j1 _=>?_⟩
    ·simp (disch:=first|assumption|omega) only[S0,rA,rQ,rB,rT,rE,d2]
    ·refine or_congr_right ?_
     rw[Bbn];constructor
     ·rintro⟨b,hb,⟨rfl,h⟩|⟨r,jy,h⟩⟩
      ·exact .inl h
      ·exact .inr ⟨_,at_mem hb,r,jy,h⟩
     ·rintro (h|⟨l,k9,r,jy,h⟩)
      ·exact⟨j.toNat,by omega,.inl ⟨by omega,by rw[show ((j.toNat:Nat):Int)=j by omega];exact h⟩⟩
      ·obtain⟨b,hb,rfl⟩:=Rbt k9
       exact⟨b,hb,.inr ⟨r,by rw[cK hb];exact jy,h⟩⟩
   have d2:decide ((b:Int)<(R.table.rows.length:Int))=true:=by simpa using np
   have ze:InB R.table.rows (b:Int):=aO.2 np;have sE:InB m3 (b:Int):=by unfold InB;rw[g2.len];omega
   obtain⟨hl6,uy⟩:=sj _ (at_mem np);have a3c:=(uz.2 _ (at_mem np)).1;obtain⟨Q0,hQ0⟩:∃ Q0:Int->Int->Prop,Q0=(fun (j no:Int)=>((ms.take a).any (fun m=>Lan (sG ⟨reps,bag,asked⟩ m) j no)=true\/∃ b':Nat,b'<b/\((j=b'/\no<=((atI R.table.rows (b':Int)).length:Int))\/∃ r∈atI R.table.rows (b':Int),Aa6 r j no=true))):=⟨_,rfl⟩;have g2':Cov reps.length m3 Q0:=by rw[hQ0];exact g2
   have g3:=g2'.most (j0:=(b:Int)) (v:=((atI R.table.rows (b:Int)).length:Int)) (by omega) (by omega) (by omega) (by omega)
   have eS2:∀ j no,((ms.take a).any (fun m=>Lan (sG ⟨reps,bag,asked⟩ m) j no)=true\/∃ b':Nat,b'<b+1/\((j=b'/\no<=((atI R.table.rows (b':Int)).length:Int))\/∃ r∈atI R.table.rows (b':Int),Aa6 r j no=true)) ↔
     ((Q0 j no\/(j=b/\no<=((atI R.table.rows (b:Int)).length:Int)))\/∃ r∈atI R.table.rows (b:Int),Aa6 r j no=true):=by
    intro j no;rw[hQ0];constructor
    ·rintro (h|⟨b',cI,h⟩)
     ·exact .inl (.inl (.inl h))
     ·rcases Pbo b' b with h3|h3
      ·exact .inl (.inl (.inr ⟨b',h3,h⟩))
      ·obtain rfl:b'=b:=by omega
       rcases h with h|h
       ·exact .inl (.inr h)
       ·exact .inr h
    ·rintro (((h|⟨b',cI,h⟩)|h)|h)
     ·exact .inl h
     ·exact .inr ⟨b',by omega,h⟩
     ·exact .inr ⟨b,by omega,.inl h⟩
     ·exact .inr ⟨b,by omega,.inr h⟩
   generalize hL:atI R.table.rows (b:Int)=L at hl6 uy a3c g3 eS2;generalize hM3:lK m3 (b:Int) (max (atI m3 (b:Int)) (L.length:Int))=m4 at g3;simp (disch:=first|assumption|omega) only[S0,rA,rQ,rB,rT,rE,d2,aQ,hL,Da9,Ja0,hM3]
   -- its settled rows
   generalize hE3:Er T (Tm.loop _ _) _=E3
   have a5c:∃ q,E3=some q/\∃ m5,q=(.yield 5,[rL m5])/\Cov reps.length m5 (fun j no=>(Q0 j no\/(j=b/\no<=(L.length:Int)))\/∃ r∈L,Aa6 r j no=true):=by
    rw[<- hE3]
    refine Ham (γ:=Nat×List Int) (fun c=>L.length-c.1) (fun c=>c.1<=L.length/\Cov reps.length c.2 (fun j no=>(Q0 j no\/(j=b/\no<=(L.length:Int)))\/∃ r∈L.take c.1,Aa6 r j no=true)) (fun c=>[rL c.2,i64 c.1]) _ (0,m4) rfl
     ⟨Qbn _,g3.congr fun j no _ _ _=>by simp⟩ ?_
    rintro⟨c,m5⟩ ⟨f1,f2⟩
    simp only at f1 f2;by_cases jx:c<L.length
    rotate_left
    ·have d3:decide ((c:Int)<(L.length:Int))=false:=by simpa using jx
     obtain rfl:c=L.length:=by omega
     rw[Rbw]at f2;refine .inr ⟨(.yield 5,[rL m5]),?_,by simp,m5,rfl,f2⟩;simp (disch:=first|assumption|omega) only[S0,rA,rQ,rB,rT,rE,d3]
    have d3:decide ((c:Int)<(L.length:Int))=true:=by simpa using jx
    have hbc:InB L (c:Int):=aO.2 jx;have pT:=uy _ (at_mem jx);obtain⟨dl,d6⟩:=Pas pT htg;obtain⟨Q1,hQ1⟩:∃ Q1:Int->Int->Prop,Q1=(fun (j no:Int)=>((Q0 j no\/(j=b/\no<=(L.length:Int)))\/∃ r∈L.take c,Aa6 r j no=true)):=⟨_,rfl⟩;have f2':Cov reps.length m5 Q1:=by rw[hQ1];exact f2
    have eS3:∀ j no,((Q0 j no\/(j=b/\no<=(L.length:Int)))\/∃ r∈L.take (c+1),Aa6 r j no=true)↔(Q1 j no\/Aa6 (atI L (c:Int)) j no=true):=by
     intro j no;rw[hQ1,<- take_at jx];simp only;rw[or_assoc (a:=(Q0 j no\/(j=b/\no<=(L.length:Int))))];refine or_congr_right ?_;constructor
     ·rintro⟨r,jy,h⟩
      rcases Pbe.1 jy with jy|jy
      ·exact .inl ⟨r,jy,h⟩
      ·rw[Ob3.1 jy]at h;exact .inr h
     ·rintro (⟨r,jy,h⟩|h)
      ·exact⟨r,Pbe.2 (.inl jy),h⟩
      ·exact⟨_,Pbe.2 (.inr (Ob3.2 rfl)),h⟩
    generalize hRr:atI L (c:Int)=r at dl d6 eS3;simp (disch:=first|assumption|omega) only[S0,rA,rQ,rB,rT,rE,d3,aQ,hRr]
    -- what it hangs on
    generalize hE4:Er T (Tm.loop _ _) _=E4
    have a34:∃ q,E4=some q/\∃ m6,q=(.yield 7,[rL m6])/\Cov reps.length m6 (fun j no=>Q1 j no\/Aa6 r j no=true):=by
     rw[<- hE4]
     refine Ham (γ:=Nat×List Int) (fun c=>r.attr.deps.length-c.1) (fun c=>c.1<=r.attr.deps.length/\Cov reps.length c.2 (fun j no=>Q1 j no\/(j<c.1/\Aa6 r j no=true))) (fun c=>[rL c.2,i64 c.1]) _ (0,m5) rfl
      ⟨Qbn _,f2'.congr fun j no j0 _ _=>by constructor;exact .inl;rintro (h|⟨h,-⟩);exact h;simp only at h;omega⟩ ?_
     rintro⟨e,m6⟩ ⟨k1,k2⟩
     simp only at k1 k2;by_cases so:e<r.attr.deps.length
     rotate_left
     ·have d4:decide ((e:Int)<(r.attr.deps.length:Int))=false:=by simpa using so
      refine .inr ⟨(.yield 7,[rL m6]),?_,by simp,m6,rfl,k2.congr fun j no j0 j1 _=>?_⟩
      ·simp (disch:=first|assumption|omega) only[S0,rA,rQ,rB,rT,rE,d4]
      ·exact or_congr_right ⟨fun h=>h.2,fun h=>⟨by omega,h⟩⟩
     have d4:decide ((e:Int)<(r.attr.deps.length:Int))=true:=by simpa using so
     have za:InB r.attr.deps (e:Int):=aO.2 so;have zp:InB m6 (e:Int):=by unfold InB;rw[k2.len];omega
     have hd:=d6 _ (at_mem so);cases c3:(r.state==3)
     ·refine .inl ⟨(e+1,m6),?_,⟨by simp only;omega,k2.congr fun j no j0 j1 _=>?_⟩,by simp only;omega⟩
      ·simp (disch:=first|assumption|omega) only[S0,rA,rQ,rB,rT,rE,d4,aQ,c3]
      ·have hf:Aa6 r j no=false:=by unfold Aa6;rw[c3];rfl
       rw[hf];simp
     ·have k3:=k2.most (j0:=(e:Int)) (v:=atI r.attr.deps (e:Int)) (by omega) (by omega) (by omega) (by omega)
      refine .inl ⟨(e+1,lK m6 (e:Int) (max (atI m6 (e:Int)) (atI r.attr.deps (e:Int)))),?_,⟨by simp only;omega,k3.congr fun j no j0 j1 _=>?_⟩,by simp only;omega⟩
      ·simp (disch:=first|assumption|omega) only[S0,rA,rQ,rB,rT,rE,d4,aQ,c3,Da9,Ja0]
      ·have hf:Aa6 r j no=decide (no<=atI r.attr.deps j):=by unfold Aa6;rw[c3];rfl
       rw[hf,decide_eq_true_eq,or_assoc];refine or_congr_right ?_;constructor
       ·rintro (⟨h1,h2⟩|⟨rfl,h2⟩)
        ·exact⟨by simp only;omega,h2⟩
        ·exact⟨by simp only;omega,h2⟩
       ·rintro⟨h1,h2⟩
        by_cases hj:j<(e:Int)
        ·exact .inl ⟨hj,h2⟩
        ·simp only at h1
         obtain rfl:j=(e:Int):=by omega
         exact .inr ⟨rfl,h2⟩
    obtain⟨q,rfl,m6,rfl,k2⟩:=a34;simp (disch:=first|assumption|omega) only[S0,rA,rQ,rB,rT,rE];exact .inl ⟨(c+1,m6),rfl,⟨by simp only;omega,k2.congr fun j no _ _ _=>(eS3 j no).symm⟩,by simp only;omega⟩
   obtain⟨q,rfl,m5,rfl,f2⟩:=a5c;simp (disch:=first|assumption|omega) only[S0,rA,rQ,rB,rT,rE];exact .inl ⟨(b+1,m5),rfl,⟨by simp only;omega,f2.congr fun j no _ _ _=>(eS2 j no).symm⟩,by simp only;omega⟩
  obtain⟨q,rfl,m2,rfl,g2⟩:=wx;simp (disch:=first|assumption|omega) only[S0,rA,rQ,rB,rT,rE];exact .inl ⟨(a+1,m2),rfl,⟨by simp only;omega,g2.congr fun j no _ _ _=>(eS j no).symm⟩,by simp only;omega⟩
 obtain⟨q,rfl,most,rfl,tD⟩:=key;have hML:=tD.len
 -- what is gathered
 have hO:Pa0 ⟨reps,bag,asked⟩ ms=sH (fun y=>Uah ⟨reps,bag,asked⟩ ms (atI y 0) (atI y 1)&&Aa8 ⟨reps,bag,asked⟩ ms y) reps.length:=rfl;rw[hO];generalize hf:(fun y:List Int=>Uah ⟨reps,bag,asked⟩ ms (atI y 0) (atI y 1)&&Aa8 ⟨reps,bag,asked⟩ ms y)=f;have z0:D.rows 1 []=rL ([]:List (List Int)):=rfl;simp (disch:=first|assumption|omega) only[S0,rA,rQ,rB,rT,rE,z0];rw[Oai reps.length (fun k=>[rL (sH f k),i64 k]) (.yield 9,[rL (sH f reps.length)]) (by rfl) (by simp)]
 ·simp (disch:=first|assumption|omega) only[S0,rA,rQ,rB,rT,rE]
 ·intro k hk aq
  have hbm:InB most (k:Int):=by unfold InB;rw[tD.len];omega
  have qk:=tD.rng _ (jF hbm);have wj:=fun no:Int=>tD.iff (k:Int) no (by omega) (by omega)
  have n9:=Lak f k;obtain⟨M,hM⟩:∃ M:Nat,atI most (k:Int)=(M:Int):=⟨(atI most (k:Int)).toNat,by omega⟩;rw[hM]at qk wj
  have a5k:nZ f (k:Int) M=nZ f (k:Int) 6:=by
   refine Ta5 (by omega) fun i h1 h2=>?_
   have:=wj ((i:Int)+1) (by omega);rw[<- hf];show (Uah ⟨reps,bag,asked⟩ ms (k:Int) ((i:Int)+1)&&_)=false
   cases hq:Uah ⟨reps,bag,asked⟩ ms (k:Int) ((i:Int)+1)
   ·rfl
   ·have:=this.2 hq;omega
  simp (disch:=first|assumption|omega) only[S0,rA,rQ,rB,rT,rE,aq];rw[Oai M (fun m=>[rL (sH f k++nZ f k m),i64 ((m:Int)+1)]) (.yield 11,[rL (sH f k++nZ f k M)]) (by rw[show nZ f (k:Int) 0=[] from rfl,Pbz];rfl) (by simp)]
  ·rw[Haf,<- a5k]
   simp (disch:=first|assumption|omega) only[S0,rA,rQ,rB,rT,rE]
  ·intro m xa _
   have d6:decide ((m:Int)+1<=(M:Int))=true:=by simp;omega
   have yz:=Lai f (k:Int) m;have hq:=(wj ((m:Int)+1) (by omega)).1 (by omega)
   have ef:f [(k:Int),(m:Int)+1]=Aa8 ⟨reps,bag,asked⟩ ms [(k:Int),(m:Int)+1]:=by
    rw[<- hf];show (Uah ⟨reps,bag,asked⟩ ms (k:Int) ((m:Int)+1)&&_)=_
    rw[hq];rfl
   rw[Aa7,ef];have z2:(aY.mk 1 2).run [i64 (k:Int),i64 ((m:Int)+1)]=some [rL ([(k:Int),(m:Int)+1]:List Int)]:=rfl;have z3:(aY.mk 1 1).run [rL ([(k:Int),(m:Int)+1]:List Int)]=some [rL ([[(k:Int),(m:Int)+1]]:List (List Int))]:=rfl;have em:((m+1:Nat):Int)+1=(m:Int)+1+1:=by omega
   have a2t:∀ i,(ms.take i).all (fun q=>(dK (sG ⟨reps,bag,asked⟩ q) (k:Int) ((m:Int)+1)).state==3)=!((ms.take i).any fun q=>!((dK (sG ⟨reps,bag,asked⟩ q) (k:Int) ((m:Int)+1)).state==3)):=by
    intro i;rw[List.not_any_eq_all_not];simp
   simp (disch:=first|assumption|omega) only[S0,rA,rQ,rB,rT,rE,aQ,hM,d6];rw[Oai ms.length (fun i=>[.bool ((ms.take i).all fun q=>(dK (sG ⟨reps,bag,asked⟩ q) (k:Int) ((m:Int)+1)).state==3),i64 i]) (.yield 13,[.bool (!Aa8 ⟨reps,bag,asked⟩ ms [(k:Int),(m:Int)+1])]) (by rfl) (by simp)]
   ·cases c:Aa8 ⟨reps,bag,asked⟩ ms [(k:Int),(m:Int)+1]
    ·simp only[Ob9,if_false,Pbz]
     simp (disch:=first|assumption|omega) only[S0,rA,rQ,rB,rT,rE,em,Rbj,Qbz,Ob9]
    ·have a1:(sH f k++nZ f (k:Int) m).length+([[(k:Int),(m:Int)+1]]:List (List Int)).length<=100000000000:=by rw[Pbg];simp only[Pb9,Qb4];omega
     simp only[if_true];rw[<- Pbd];simp (disch:=first|assumption|omega) only[S0,rA,rQ,rB,rT,rE,z2,z3,Waj,em,Rbj,Qbz]
   ·intro i hi tw
    have hbi:InB ms (i:Int):=aO.2 hi;obtain⟨p,hp,a4u,ht,ph,uz⟩:=a0q _ (at_mem hi);have hbp:InB reps (p:Int):=aO.2 a4u
    have es:((ms.take (i+1)).all fun q=>(dK (sG ⟨reps,bag,asked⟩ q) (k:Int) ((m:Int)+1)).state==3)=(((ms.take i).all fun q=>(dK (sG ⟨reps,bag,asked⟩ q) (k:Int) ((m:Int)+1)).state==3)&&((dK (atI reps (p:Int)).table (k:Int) ((m:Int)+1)).state==3)):=by
     rw[<- take_at hi,List.all_append,hp];simp[sG]
    rw[es];generalize ((ms.take i).all fun q=>(dK (sG ⟨reps,bag,asked⟩ q) (k:Int) ((m:Int)+1)).state==3)=b0;generalize hR:atI reps (p:Int)=R at ht ph uz;have qy:InB R.table.rows (k:Int):=by have:=fE ht;unfold InB;omega
    have e:=Da8 R.table.n R.table.rows (k:Int) ((m:Int)+1) (bX ht) uz qy (by omega) (by omega);have e':(dK ⟨R.table.n,R.table.rows⟩ (k:Int) ((m:Int)+1))=dK R.table (k:Int) ((m:Int)+1):=rfl;rw[e']at e;cases b0
    ·simp (disch:=first|assumption|omega) only[S0,rA,rQ,rB,rT,rE,tw,aQ,hp,hR,Rbk]
    ·simp (disch:=first|assumption|omega) only[S0,rA,rQ,rB,rT,rE,tw,aQ,hp,hR,e,Rbh]
   ·intro tw
    have:=a2t ms.length;rw[Rbw]at this ⊢;rw[this];simp (disch:=first|assumption|omega) only[S0,rA,rQ,rB,rT,rE,tw];rfl
  ·intro _
   have d6:decide ((M:Int)+1<=(M:Int))=false:=by simp;omega
   simp (disch:=first|assumption|omega) only[S0,rA,rQ,rB,rT,rE,aQ,hM,d6]
 ·intro aq
  simp (disch:=first|assumption|omega) only[S0,rA,rQ,rB,rT,rE,aq]
theorem Eaa (reps:List lJ)(bag:List mE)(asked:List bN)(ms:List Int)(h1:mM reps)(h2:Ba3 bag)(h3:asked.length<=10000000000)(h4:ms.length<=10000000000):Fun T 32 [rL reps,rL bag,rL asked,rL ms]=some [.bool (zG ⟨reps,bag,asked⟩ ms)]:=by
 rw[aR (t:=Hbr) rfl];unfold Hbr;unfold zG
 have xg:=h1.1;cases hn:sI ⟨reps,bag,asked⟩
 ·simp (disch:=first|assumption|omega) only[S0,rA,rQ,rB,rT,rE,sS,hn,Rbk]
 cases hl:decide (0<(ms.length:Int))
 ·simp (disch:=first|assumption|omega) only[S0,rA,rQ,rB,rT,rE,sS,hn,hl,Rbh,Rbk]
 simp (disch:=first|assumption|omega) only[S0,rA,rQ,rB,rT,rE,sS,iY,hn,hl,Rbh]
theorem Ian (reps:List lJ)(bag:List mE)(asked:List bN)(ms:List Int)(hr:mM reps)(hn:sI ⟨reps,bag,asked⟩=true)(hm:∀ k∈ms,0<=k/\k<=(reps.length:Int)-1)(hl:ms.length<=10000000000):Fun T 53 [rL reps,rL bag,rL asked,rL ms]=some [i64 (Bb5 ⟨reps,bag,asked⟩ ms).1,i64 (Bb5 ⟨reps,bag,asked⟩ ms).2.1,i64 (Bb5 ⟨reps,bag,asked⟩ ms).2.2.1,.bool (Bb5 ⟨reps,bag,asked⟩ ms).2.2.2]:=by
 rw[aR (t:=Gb6) rfl];unfold Gb6;unfold Bb5 Wau Bb4 Wau
 have e:=Kar reps bag asked ms hr hn hm hl;have b9:=fun y=>(Iaz (x:=⟨reps,bag,asked⟩) (ms:=ms) (y:=y)).1
 have qh:(Pa0 ⟨reps,bag,asked⟩ ms).length<=30:=qK (tT hn) (xD (Eas _ _)) fun y hy=>(b9 y hy).1
 generalize Pa0 ⟨reps,bag,asked⟩ ms=O at e b9 qh ⊢;simp (disch:=first|assumption|omega) only[S0,rA,rQ,rB,rT,rE,e];rw[uJ 1 ms (fun k=>O.any (Hav ⟨reps,bag,asked⟩ k)) (fun i=>[i64 (atI ms i),i64 (atI (atI O (ixF (Hav ⟨reps,bag,asked⟩ (atI ms i)) O)) 0),i64 (atI (atI O (ixF (Hav ⟨reps,bag,asked⟩ (atI ms i)) O)) 1),.bool true])]
 rotate_left 1
 ·intro i hi hb aq hp
  have lE:=hm _ (at_mem hi);generalize hk:atI ms (i:Int)=k at lE hp;obtain⟨p,rfl⟩:∃ p:Nat,k=(p:Int):=⟨k.toNat,by omega⟩;have mc:p<reps.length:=by omega
  have hbp:InB reps (p:Int):=aO.2 mc;obtain⟨ht,ph,-⟩:=kD hn (i:=p) mc;obtain⟨jd,jl⟩:=hr.2 _ (at_mem mc);have eP:∀ y,Hav ⟨reps,bag,asked⟩ (p:Int) y=!((dK (atI reps (p:Int)).table (atI y 0) (atI y 1)).state==3):=fun y=>rfl
  simp only at ht ph;generalize hR:atI reps (p:Int)=R at ht ph jd jl eP
  have gE:∀ j:Nat,j<O.length->InB (atI O (j:Int)) 0/\InB (atI O (j:Int)) 1/\Fun T 56 [i64 R.table.n,rL R.table.rows,i64 (atI (atI O (j:Int)) 0),i64 (atI (atI O (j:Int)) 1)]=some [i64 (dK R.table (atI (atI O (j:Int)) 0) (atI (atI O (j:Int)) 1)).ballot,i64 (dK R.table (atI (atI O (j:Int)) 0) (atI (atI O (j:Int)) 1)).vote,i64 (dK R.table (atI (atI O (j:Int)) 0) (atI (atI O (j:Int)) 1)).state,i64 (dK R.table (atI (atI O (j:Int)) 0) (atI (atI O (j:Int)) 1)).cmd.kind,i64 (dK R.table (atI (atI O (j:Int)) 0) (atI (atI O (j:Int)) 1)).cmd.id,i64 (dK R.table (atI (atI O (j:Int)) 0) (atI (atI O (j:Int)) 1)).cmd.src,i64 (dK R.table (atI (atI O (j:Int)) 0) (atI (atI O (j:Int)) 1)).cmd.dst,i64 (dK R.table (atI (atI O (j:Int)) 0) (atI (atI O (j:Int)) 1)).cmd.amt,i64 (dK R.table (atI (atI O (j:Int)) 0) (atI (atI O (j:Int)) 1)).attr.seq,rL (dK R.table (atI (atI O (j:Int)) 0) (atI (atI O (j:Int)) 1)).attr.deps]:=by
   intro j hj;obtain⟨y1,y2⟩:=(b9 _ (at_mem hj)).1;have tg:=gF y2;have hlen:=fE ht;simp only at tg;exact⟨by unfold InB;omega,by unfold InB;omega,Da8 R.table.n R.table.rows _ _ (bX ht) jd (by unfold InB;omega) (by omega) (by omega)⟩
  simp (disch:=first|assumption|omega) only[S0,rA,rQ,rB,rT,rE,aQ,aq,hk];rw[uJ 3 O (Hav ⟨reps,bag,asked⟩ (p:Int)) (fun j=>[i64 (p:Int),i64 (atI (atI O j) 0),i64 (atI (atI O j) 1),.bool true])]
  ·rw[hp]
   simp (disch:=first|assumption|omega) only[S0,rA,rQ,rB,rT,rE]
  ·intro j hj sL eJ pb
   obtain⟨b0,b1,e4⟩:=gE j hj;have e5:=eP (atI O (j:Int));rw[pb]at e5;simp (disch:=first|assumption|omega) only[S0,rA,rQ,rB,rT,rE,aQ,eJ,hR,e4,<- e5]
  ·intro j hj sL eJ pb
   obtain⟨b0,b1,e4⟩:=gE j hj;have e5:=eP (atI O (j:Int));rw[pb]at e5;simp (disch:=first|assumption|omega) only[S0,rA,rQ,rB,rT,rE,aQ,eJ,hR,e4,<- e5]
  ·intro eJ
   simp (disch:=first|assumption|omega) only[S0,rA,rQ,rB,rT,rE,eJ]
 ·intro i hi hb aq hp
  have lE:=hm _ (at_mem hi);generalize hk:atI ms (i:Int)=k at lE hp;obtain⟨p,rfl⟩:∃ p:Nat,k=(p:Int):=⟨k.toNat,by omega⟩;have mc:p<reps.length:=by omega
  have hbp:InB reps (p:Int):=aO.2 mc;obtain⟨ht,ph,-⟩:=kD hn (i:=p) mc;obtain⟨jd,jl⟩:=hr.2 _ (at_mem mc);have eP:∀ y,Hav ⟨reps,bag,asked⟩ (p:Int) y=!((dK (atI reps (p:Int)).table (atI y 0) (atI y 1)).state==3):=fun y=>rfl
  simp only at ht ph;generalize hR:atI reps (p:Int)=R at ht ph jd jl eP
  have gE:∀ j:Nat,j<O.length->InB (atI O (j:Int)) 0/\InB (atI O (j:Int)) 1/\Fun T 56 [i64 R.table.n,rL R.table.rows,i64 (atI (atI O (j:Int)) 0),i64 (atI (atI O (j:Int)) 1)]=some [i64 (dK R.table (atI (atI O (j:Int)) 0) (atI (atI O (j:Int)) 1)).ballot,i64 (dK R.table (atI (atI O (j:Int)) 0) (atI (atI O (j:Int)) 1)).vote,i64 (dK R.table (atI (atI O (j:Int)) 0) (atI (atI O (j:Int)) 1)).state,i64 (dK R.table (atI (atI O (j:Int)) 0) (atI (atI O (j:Int)) 1)).cmd.kind,i64 (dK R.table (atI (atI O (j:Int)) 0) (atI (atI O (j:Int)) 1)).cmd.id,i64 (dK R.table (atI (atI O (j:Int)) 0) (atI (atI O (j:Int)) 1)).cmd.src,i64 (dK R.table (atI (atI O (j:Int)) 0) (atI (atI O (j:Int)) 1)).cmd.dst,i64 (dK R.table (atI (atI O (j:Int)) 0) (atI (atI O (j:Int)) 1)).cmd.amt,i64 (dK R.table (atI (atI O (j:Int)) 0) (atI (atI O (j:Int)) 1)).attr.seq,rL (dK R.table (atI (atI O (j:Int)) 0) (atI (atI O (j:Int)) 1)).attr.deps]:=by
   intro j hj;obtain⟨y1,y2⟩:=(b9 _ (at_mem hj)).1;have tg:=gF y2;have hlen:=fE ht;simp only at tg;exact⟨by unfold InB;omega,by unfold InB;omega,Da8 R.table.n R.table.rows _ _ (bX ht) jd (by unfold InB;omega) (by omega) (by omega)⟩
  simp (disch:=first|assumption|omega) only[S0,rA,rQ,rB,rT,rE,aQ,aq,hk];rw[uJ 3 O (Hav ⟨reps,bag,asked⟩ (p:Int)) (fun j=>[i64 (p:Int),i64 (atI (atI O j) 0),i64 (atI (atI O j) 1),.bool true])]
  ·rw[hp]
   simp (disch:=first|assumption|omega) only[S0,rA,rQ,rB,rT,rE]
  ·intro j hj sL eJ pb
   obtain⟨b0,b1,e4⟩:=gE j hj;have e5:=eP (atI O (j:Int));rw[pb]at e5;simp (disch:=first|assumption|omega) only[S0,rA,rQ,rB,rT,rE,aQ,eJ,hR,e4,<- e5]
  ·intro j hj sL eJ pb
   obtain⟨b0,b1,e4⟩:=gE j hj;have e5:=eP (atI O (j:Int));rw[pb]at e5;simp (disch:=first|assumption|omega) only[S0,rA,rQ,rB,rT,rE,aQ,eJ,hR,e4,<- e5]
  ·intro eJ
   simp (disch:=first|assumption|omega) only[S0,rA,rQ,rB,rT,rE,eJ]
 ·intro aq
  simp (disch:=first|assumption|omega) only[S0,rA,rQ,rB,rT,rE,aq]
 ·rw[dO]
  cases c:ms.any fun k=>O.any (Hav ⟨reps,bag,asked⟩ k)
  ·simp (disch:=first|assumption|omega) only[S0,rA,rQ,rB,rT,rE,Ob9]
  ·simp (disch:=first|assumption|omega) only[S0,rA,rQ,rB,rT,rE]
theorem Gaa (reps:List lJ)(bag:List mE)(asked:List bN)(ms:List Int)(h1:mM reps)(h2:Ba3 bag)(h3:asked.length<=10000000000)(h4:ms.length<=10000000000):Fun T 31 [rL reps,rL bag,rL asked,rL ms]=some [i64 (Wat ⟨reps,bag,asked⟩ ms).1,i64 (Wat ⟨reps,bag,asked⟩ ms).2.1,i64 (Wat ⟨reps,bag,asked⟩ ms).2.2.1,.bool (Wat ⟨reps,bag,asked⟩ ms).2.2.2]:=by
 rw[aR (t:=Hbs) rfl];unfold Hbs;unfold Wat
 have e:=Eaa reps bag asked ms h1 h2 h3 h4;cases hm:zG ⟨reps,bag,asked⟩ ms
 ·rw[hm]at e
  simp (disch:=first|assumption|omega) only[S0,rA,rQ,rB,rT,rE,e,Rbj,Ob9]
 ·rw[hm]at e
  unfold zG at hm;simp only[Obz]at hm;have eo:=Ian reps bag asked ms h1 hm.1.1 (fun k hk=>Pau hm.2 k hk) h4;simp (disch:=first|assumption|omega) only[S0,rA,rQ,rB,rT,rE,e,eo,Qbz,Ob9]
theorem Gak (reps:List lJ)(bag:List mE)(asked:List bN)(ms:List Int)(hr:mM reps)(hn:sI ⟨reps,bag,asked⟩=true)(hm:∀ k∈ms,0<=k/\k<=(reps.length:Int)-1)(hl:ms.length<=10000000000):Fun T 108 [rL reps,rL bag,rL asked,rL ms]=(if decide (0<=Wau ⟨reps,bag,asked⟩ ms) then some [i64 (atI ms (Wau ⟨reps,bag,asked⟩ ms)),rL (Bb4 ⟨reps,bag,asked⟩ ms),.bool true] else some [i64 0,rL ([]:List Int),.bool false])/\(decide (0<=Wau ⟨reps,bag,asked⟩ ms)=true->(Bb4 ⟨reps,bag,asked⟩ ms).length=2):=by
 have e:=La2 reps bag asked ms hr hn hm hl;unfold Bb4 Wau;have b9:=fun y=>(Iaz (x:=⟨reps,bag,asked⟩) (ms:=ms) (y:=y)).1
 have qh:(Pa0 ⟨reps,bag,asked⟩ ms).length<=30:=qK (tT hn) (xD (Eas _ _)) fun y hy=>(b9 y hy).1
 generalize Pa0 ⟨reps,bag,asked⟩ ms=O at e b9 qh ⊢;refine⟨?_,fun h=>?_⟩
 rotate_left
 ·have h1:=(Jag (p:=fun k=>O.any (Hav ⟨reps,bag,asked⟩ k)) (xs:=ms) (of_decide_eq_true h)).2.1
  have h2:0<=ixF (Hav ⟨reps,bag,asked⟩ (atI ms (ixF (fun k=>O.any (Hav ⟨reps,bag,asked⟩ k)) ms))) O:=by
   have h3:=h1;rw[<- dO]at h3;exact of_decide_eq_true h3
  exact (b9 _ (jF (Jag h2).1)).1.1
 rw[aR (t:=Xau) rfl];unfold Xau
 have zn:D.rows 1 []=rL ([]:List Int):=rfl;simp (disch:=first|assumption|omega) only[S0,rA,rQ,rB,rT,rE,e];rw[uJ 1 ms (fun k=>O.any (Hav ⟨reps,bag,asked⟩ k)) (fun i=>[i64 (atI ms i),rL (atI O (ixF (Hav ⟨reps,bag,asked⟩ (atI ms i)) O)),.bool true])]
 rotate_left 1
 ·intro i hi hb aq hp
  have lE:=hm _ (at_mem hi);generalize hk:atI ms (i:Int)=k at lE hp;obtain⟨p,rfl⟩:∃ p:Nat,k=(p:Int):=⟨k.toNat,by omega⟩;have mc:p<reps.length:=by omega
  have hbp:InB reps (p:Int):=aO.2 mc;obtain⟨ht,ph,-⟩:=kD hn (i:=p) mc;obtain⟨jd,jl⟩:=hr.2 _ (at_mem mc);have eP:∀ y,Hav ⟨reps,bag,asked⟩ (p:Int) y=!((dK (atI reps (p:Int)).table (atI y 0) (atI y 1)).state==3):=fun y=>rfl
  simp only at ht ph;generalize hR:atI reps (p:Int)=R at ht ph jd jl eP
  have gE:∀ j:Nat,j<O.length->InB (atI O (j:Int)) 0/\InB (atI O (j:Int)) 1/\Fun T 116 [i64 R.table.n,rL R.table.rows,i64 (atI (atI O (j:Int)) 0),i64 (atI (atI O (j:Int)) 1)]=some [i64 (dK R.table (atI (atI O (j:Int)) 0) (atI (atI O (j:Int)) 1)).ballot,i64 (dK R.table (atI (atI O (j:Int)) 0) (atI (atI O (j:Int)) 1)).vote,i64 (dK R.table (atI (atI O (j:Int)) 0) (atI (atI O (j:Int)) 1)).state,i64 (dK R.table (atI (atI O (j:Int)) 0) (atI (atI O (j:Int)) 1)).cmd.kind,i64 (dK R.table (atI (atI O (j:Int)) 0) (atI (atI O (j:Int)) 1)).cmd.id,i64 (dK R.table (atI (atI O (j:Int)) 0) (atI (atI O (j:Int)) 1)).cmd.src,i64 (dK R.table (atI (atI O (j:Int)) 0) (atI (atI O (j:Int)) 1)).cmd.dst,i64 (dK R.table (atI (atI O (j:Int)) 0) (atI (atI O (j:Int)) 1)).cmd.amt,i64 (dK R.table (atI (atI O (j:Int)) 0) (atI (atI O (j:Int)) 1)).attr.seq,rL (dK R.table (atI (atI O (j:Int)) 0) (atI (atI O (j:Int)) 1)).attr.deps]:=by
   intro j hj;obtain⟨y1,y2⟩:=(b9 _ (at_mem hj)).1;have tg:=gF y2;have hlen:=fE ht;simp only at tg;exact⟨by unfold InB;omega,by unfold InB;omega,oF R.table.n R.table.rows _ _ (bX ht) jd (by unfold InB;omega) (by omega) (by omega)⟩
  simp (disch:=first|assumption|omega) only[S0,rA,rQ,rB,rT,rE,aQ,aq,hk];rw[uJ 3 O (Hav ⟨reps,bag,asked⟩ (p:Int)) (fun j=>[i64 (p:Int),rL (atI O j),.bool true])]
  ·rw[hp]
   simp (disch:=first|assumption|omega) only[S0,rA,rQ,rB,rT,rE]
  ·intro j hj sL eJ pb
   obtain⟨b0,b1,e4⟩:=gE j hj;have e5:=eP (atI O (j:Int));rw[pb]at e5;simp (disch:=first|assumption|omega) only[S0,rA,rQ,rB,rT,rE,aQ,eJ,hR,e4,<- e5]
  ·intro j hj sL eJ pb
   obtain⟨b0,b1,e4⟩:=gE j hj;have e5:=eP (atI O (j:Int));rw[pb]at e5;simp (disch:=first|assumption|omega) only[S0,rA,rQ,rB,rT,rE,aQ,eJ,hR,e4,<- e5]
  ·intro eJ
   simp (disch:=first|assumption|omega) only[S0,rA,rQ,rB,rT,rE,eJ]
 ·intro i hi hb aq hp
  have lE:=hm _ (at_mem hi);generalize hk:atI ms (i:Int)=k at lE hp;obtain⟨p,rfl⟩:∃ p:Nat,k=(p:Int):=⟨k.toNat,by omega⟩;have mc:p<reps.length:=by omega
  have hbp:InB reps (p:Int):=aO.2 mc;obtain⟨ht,ph,-⟩:=kD hn (i:=p) mc;obtain⟨jd,jl⟩:=hr.2 _ (at_mem mc);have eP:∀ y,Hav ⟨reps,bag,asked⟩ (p:Int) y=!((dK (atI reps (p:Int)).table (atI y 0) (atI y 1)).state==3):=fun y=>rfl
  simp only at ht ph;generalize hR:atI reps (p:Int)=R at ht ph jd jl eP
  have gE:∀ j:Nat,j<O.length->InB (atI O (j:Int)) 0/\InB (atI O (j:Int)) 1/\Fun T 116 [i64 R.table.n,rL R.table.rows,i64 (atI (atI O (j:Int)) 0),i64 (atI (atI O (j:Int)) 1)]=some [i64 (dK R.table (atI (atI O (j:Int)) 0) (atI (atI O (j:Int)) 1)).ballot,i64 (dK R.table (atI (atI O (j:Int)) 0) (atI (atI O (j:Int)) 1)).vote,i64 (dK R.table (atI (atI O (j:Int)) 0) (atI (atI O (j:Int)) 1)).state,i64 (dK R.table (atI (atI O (j:Int)) 0) (atI (atI O (j:Int)) 1)).cmd.kind,i64 (dK R.table (atI (atI O (j:Int)) 0) (atI (atI O (j:Int)) 1)).cmd.id,i64 (dK R.table (atI (atI O (j:Int)) 0) (atI (atI O (j:Int)) 1)).cmd.src,i64 (dK R.table (atI (atI O (j:Int)) 0) (atI (atI O (j:Int)) 1)).cmd.dst,i64 (dK R.table (atI (atI O (j:Int)) 0) (atI (atI O (j:Int)) 1)).cmd.amt,i64 (dK R.table (atI (atI O (j:Int)) 0) (atI (atI O (j:Int)) 1)).attr.seq,rL (dK R.table (atI (atI O (j:Int)) 0) (atI (atI O (j:Int)) 1)).attr.deps]:=by
   intro j hj;obtain⟨y1,y2⟩:=(b9 _ (at_mem hj)).1;have tg:=gF y2;have hlen:=fE ht;simp only at tg;exact⟨by unfold InB;omega,by unfold InB;omega,oF R.table.n R.table.rows _ _ (bX ht) jd (by unfold InB;omega) (by omega) (by omega)⟩
  simp (disch:=first|assumption|omega) only[S0,rA,rQ,rB,rT,rE,aQ,aq,hk];rw[uJ 3 O (Hav ⟨reps,bag,asked⟩ (p:Int)) (fun j=>[i64 (p:Int),rL (atI O j),.bool true])]
  ·rw[hp]
   simp (disch:=first|assumption|omega) only[S0,rA,rQ,rB,rT,rE]
  ·intro j hj sL eJ pb
   obtain⟨b0,b1,e4⟩:=gE j hj;have e5:=eP (atI O (j:Int));rw[pb]at e5;simp (disch:=first|assumption|omega) only[S0,rA,rQ,rB,rT,rE,aQ,eJ,hR,e4,<- e5]
  ·intro j hj sL eJ pb
   obtain⟨b0,b1,e4⟩:=gE j hj;have e5:=eP (atI O (j:Int));rw[pb]at e5;simp (disch:=first|assumption|omega) only[S0,rA,rQ,rB,rT,rE,aQ,eJ,hR,e4,<- e5]
  ·intro eJ
   simp (disch:=first|assumption|omega) only[S0,rA,rQ,rB,rT,rE,eJ]
 ·intro aq
  simp (disch:=first|assumption|omega) only[S0,rA,rQ,rB,rT,rE,aq]
 ·rw[dO]
  cases c:ms.any fun k=>O.any (Hav ⟨reps,bag,asked⟩ k)
  ·simp (disch:=first|assumption|omega) only[S0,rA,rQ,rB,rT,rE,zn,Ob9]
  ·simp (disch:=first|assumption|omega) only[S0,rA,rQ,rB,rT,rE]
theorem Gam (reps:List lJ)(bag:List mE)(asked:List bN)(ms:List Int)(h1:mM reps)(h2:Ba3 bag)(h3:asked.length<=10000000000)(h4:ms.length<=10000000000):Fun T 60 [rL reps,rL bag,rL asked,rL ms]=some [i64 (Wat ⟨reps,bag,asked⟩ ms).1,i64 (Wat ⟨reps,bag,asked⟩ ms).2.1,i64 (Wat ⟨reps,bag,asked⟩ ms).2.2.1,.bool (Wat ⟨reps,bag,asked⟩ ms).2.2.2]:=by
 rw[aR (t:=Gbz) rfl];unfold Gbz;unfold Wat
 have e:=Ca1 reps bag asked ms h1 h2 h3 h4;cases hm:zG ⟨reps,bag,asked⟩ ms
 ·rw[hm]at e
  simp (disch:=first|assumption|omega) only[S0,rA,rQ,rB,rT,rE,e,Rbj,Ob9]
 ·rw[hm]at e
  unfold zG at hm;simp only[Obz]at hm;obtain⟨eo,e2⟩:=Gak reps bag asked ms h1 hm.1.1 (fun k hk=>Pau hm.2 k hk) h4;unfold Bb5;cases c:decide (0<=Wau ⟨reps,bag,asked⟩ ms)
  ·rw[c]at eo
   simp only[Ob9,if_false]at eo;simp (disch:=first|assumption|omega) only[S0,rA,rQ,rB,rT,rE,e,eo,Qbz,Rbj,Ob9]
  ·rw[c]at eo
   simp only[if_true]at eo;have hy:=e2 c;generalize Bb4 ⟨reps,bag,asked⟩ ms=y at eo hy;have b0:InB y 0:=by unfold InB;omega
   have b1:InB y 1:=by unfold InB;omega
   simp (disch:=first|assumption|omega) only[S0,rA,rQ,rB,rT,rE,e,eo,aQ,Qbz,Ob9]
theorem law (az:(List lJ))(bl:(List mE))(av:(List bN))(members:(List Int))(z6:Iab ⟨az,bl,av⟩)(lq:members.length<=140737488351232):Fun T 0 [rL az,rL bl,rL av,rL members]=some [.bool true]:=by
 rw[aR (t:=tm0) rfl];unfold tm0
 by_cases mg:(1048576:Int)<(members.length:Int)
 ·have qn:decide ((1048576:Int)<(members.length:Int))=true:=by simpa using mg
  (refine aD ?_;repeat' (refine aC ?_ ?_<;>intro _<;>try simp (disch:=first|assumption|omega) only[S0,rA,rQ,rB,rT,rE,lt0,Jbg, *]))
 have qn:decide ((1048576:Int)<(members.length:Int))=false:=by simpa using mg
 have s3_members:members.length<=1048576:=by omega
 by_cases c_x:((fV ⟨az,bl,av⟩:Nat):Int)<=1048576
 rotate_left
 ·have e:szR (1048576) (fV ⟨az,bl,av⟩)=-1:=if_neg c_x
  (refine aD ?_;repeat' (refine aC ?_ ?_<;>intro _<;>try simp (disch:=first|assumption|omega) only[S0,rA,rQ,rB,rT,rE,Pa7,lt0,Jbg, *]))
 have e_x:szR (1048576) (fV ⟨az,bl,av⟩)=1048576-((fV ⟨az,bl,av⟩:Nat):Int):=if_pos c_x;have a52:fV ⟨az,bl,av⟩<=1048576:=by omega
 have ye:fV ⟨az,bl,av⟩<=1099511627776:=by omega
 have vA:=a52;rw[Ca9]at vA;simp only at vA;have m1_x_reps:szL aW az<=1099511627776:=by first|omega|(have h:=ye;rw[dG]at h;exact h)
 have m2_x_reps:ctL Faq az<=1125899906842624:=by have:=nU (c:=Faq) (f:=aW) (m:=16) (by omega) Zai az;omega
 have m1_x_bag:szL bA bl<=1099511627776:=by first|omega|(have h:=ye;rw[dG]at h;exact h)
 have m2_x_bag:ctL Far bl<=1125899906842624:=by have:=nU (c:=Far) (f:=bA) (m:=16) (by omega) Zaj bl;omega
 have m1_x_asked:av.length<=1099511627776:=by first|omega|(have h:=ye;rw[dG]at h;exact h)
 have m2_x_asked:ctL uN av<=1125899906842624:=by have:=nU (c:=uN) (f:=(fun _=>0)) (m:=16) (by omega) Sap av;simp only[dG]at *;omega
 have s1_members:szL (fun _=>0) members<=1048576:=by rw[dG];omega
 have po:szL (fun _=>0) members<=1099511627776:=by omega
 have m1_members:members.length<=1099511627776:=by first|omega|(have h:=po;rw[dG]at h;exact h)
 have m2_members:ctL (fun _=>1) members<=1125899906842624:=by have:=nU (c:=(fun _=>1)) (f:=(fun _=>0)) (m:=16) (by omega) (fun _=>by simp) members;simp only[dG]at *;omega
 have n1:mM az:=Tat (by have:=Ca9 ⟨az,bl,av⟩;simp only at this;omega);have n2:Ba3 bl:=Tau (by have:=Ca9 ⟨az,bl,av⟩;simp only at this;omega)
 have n3:av.length<=10000000000:=by
  have:=Ca9 ⟨az,bl,av⟩;simp only at this;have:=gH (f:=fun _=>0) (xs:=av);omega
 have n4:members.length<=10000000000:=by omega
 (refine aD ?_;repeat' (refine aC ?_ ?_<;>intro _<;>try simp (disch:=first|assumption|omega) only[S0,rA,rQ,rB,rT,rE,Pa7,Yap,Ual,Gaa,Gam,Yas,Uar,lt0,Jbg, *]))
theorem hpure:∀ ds,WTs [.sl 64 [.int .i64,.int .i64,.sl 24 [.sl 96 [.int .i64,.int .i64,.int .i64,.int .i64,.int .i64,.int .i64,.int .i64,.int .i64,.int .i64,.sl 8 [.int .i64]]],.sl 192 [.int .i64,.int .i64,.int .i64,.int .i64,.int .i64,.int .i64,.int .i64,.int .i64,.int .i64,.int .i64,.sl 8 [.int .i64],.int .i64,.sl 8 [.int .i64],.bool,.sl 8 [.int .i64],.sl 96 [.int .i64,.int .i64,.int .i64,.int .i64,.int .i64,.int .i64,.int .i64,.int .i64,.int .i64,.sl 8 [.int .i64]]]],.sl 136 [.int .i64,.int .i64,.int .i64,.int .i64,.int .i64,.int .i64,.int .i64,.int .i64,.int .i64,.int .i64,.int .i64,.int .i64,.int .i64,.int .i64,.sl 8 [.int .i64]],.sl 56 [.int .i64,.int .i64,.int .i64,.int .i64,.int .i64,.int .i64,.int .i64],.sl 8 [.int .i64]] ds->∃ n,jE T n 0 ds=some [.bool true]:=by
 intro ds h;simp only[WTs]at h;obtain⟨d0,r0,rfl,w0,d1,r1,rfl,w1,d2,r2,rfl,w2,d3,r3,rfl,w3,rfl⟩:=h;obtain⟨x,e_x,z6⟩:=Zad [d0,d1,d2] (by simp only[WTs];exact⟨_,_,rfl,w0,_,_,rfl,w1,_,_,rfl,w2,rfl⟩);simp only[Enc.enc,Qbf,and_true]at e_x;obtain⟨rfl,rfl,rfl⟩:=e_x;obtain⟨members,mi,lq⟩:=Fbd [d3] (by simp only[WTs];exact⟨_,_,rfl,w3,rfl⟩);simp only[Enc.enc,Qbf,and_true]at mi;subst mi;exact Bbg (law (x.reps) (x.bag) (x.asked) members z6 lq)
end FnExactFirstOpen
end Go.Proofs.YtcbkmmhkccnamaaGreat
