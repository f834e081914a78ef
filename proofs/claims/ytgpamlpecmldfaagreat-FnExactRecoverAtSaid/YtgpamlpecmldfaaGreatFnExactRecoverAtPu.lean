import Derived.Test.YtgpamlpecmldfaaGreatFnExactRecoverAtTab
set_option linter.all false
open Bool renaming and_eq_true → Qb6, false_eq_true → Rbk, not_eq_true' → Rb0, not_false → Sbb, not_true → Sbf, beq_eq_decide_eq → Sbh, true_and → Sbk, or_eq_true → Sbv, false_and → Sb4, decide_and → Tbb, and_assoc → Tbi, or_eq_false_iff → Tbu, and_false → Tby, and_eq_false_iff → Tb0, and_true → Tb1, not_not → Ubm, eq_iff_iff → Ubs
open Int renaming toNat_natCast → Tbf
open List renaming mem_singleton → Rbb, append_assoc → Rbd, length_append → Rbh, replicate → Rbs, length_take → Rbv, length_cons → Rbw, append_nil → Rb1, length_nil → Rb8, length_drop → Sbj, nil_append → Sbm, length_replicate → Sbu, take_length → Sbw, not_all_eq_any_not → Sb2, length_set → Tbg, replicate_zero → Tb8, replicate_succ' → Ubt
open Nat renaming lt_or_ge → Rbu, le_trans → Rbz, reduceEqDiff → Ubk
namespace Go.Proofs.YtgpamlpecmldfaaGreat
namespace FnExactRecoverAt
open Go Go.Proofs.YtgpamlpecmldfaaGreat.Rf
open Nat renaming reduceAdd → rA, reduceEqDiff → rQ
open Int renaming reduceBEq → rB, reduceLT → rT, reduceLE → rE
set_option maxHeartbeats 4000000
set_option maxRecDepth 10000
theorem Car (dw kt eS fa gR:Int):Fun T 15 [i64 dw,i64 kt,i64 eS,i64 fa,i64 gR]=some [i64 dw,i64 kt,i64 eS,i64 fa,i64 gR]:=by
 rw[aK (t:=Db4) rfl];unfold Db4
 (refine aB ?_;repeat' (refine aA ?_ ?_<;>intro _<;>try simp (disch:=first|assumption|omega) only[S0,rA,rQ,rB,rT,rE, *]))
theorem vL (dw kt eS fa gR:Int)(fg ob gb ga lk:Int):Fun T 120 [i64 dw,i64 kt,i64 eS,i64 fa,i64 gR,i64 fg,i64 ob,i64 gb,i64 ga,i64 lk]=some [.bool (decide ((⟨dw,kt,eS,fa,gR⟩:wW)=⟨fg,ob,gb,ga,lk⟩))]:=by
 rw[aK (t:=La5) rfl];unfold La5
 have e:decide ((⟨dw,kt,eS,fa,gR⟩:wW)=⟨fg,ob,gb,ga,lk⟩)=((dw==fg)&&(kt==ob)&&(eS==gb)&&(fa==ga)&&(gR==lk)):=by
  simp only[wW.mk.injEq,Sbh,Tbb,Tbi]
 rw[e]
 (refine aB ?_;repeat' (refine aA ?_ ?_<;>intro _<;>try simp (disch:=first|assumption|omega) only[S0,rA,rQ,rB,rT,rE, *]))
theorem qV (xs:(List Int))(l:Int)(h0:0<=l)(h1:l<=1048576)(hw:xs.length<=140737488351232):Fun T 7 [rL xs,i64 l]=some [i64 (szR l (szL (fun _=>0) xs))]:=by
 rw[aK (t:=tm7) rfl];unfold tm7
 have es:szL (fun _=>0) xs=xs.length:=iO;rw[es];by_cases c:(xs.length:Int)<=l
 ·have e:szR l xs.length=l-xs.length:=if_pos c
  have d:decide (l-(xs.length:Int)<0)=false:=by simp;omega
  (refine aB ?_;repeat' (refine aA ?_ ?_<;>intro _<;>try simp (disch:=first|assumption|omega) only[S0,rA,rQ,rB,rT,rE, *]))
 ·have e:szR l xs.length=-1:=if_neg c
  have d:decide (l-(xs.length:Int)<0)=true:=by simp;omega
  (refine aB ?_;repeat' (refine aA ?_ ?_<;>intro _<;>try simp (disch:=first|assumption|omega) only[S0,rA,rQ,rB,rT,rE, *]))
theorem Pa1 (xs:(List Int))(hs:szL (fun _=>0) xs<=1048576):Fun T 17 [rL xs]=some [rL xs]:=by
 rw[aK (t:=Db2) rfl];unfold Db2
 have hl:xs.length<=1048576:=Rbz bW hs;simp (disch:=first|assumption|omega) only[S0,rA,rQ,rB,rT,rE,sU,Tbf, *];rw[Fah xs rfl]
 ·(refine aB ?_;repeat' (refine aA ?_ ?_<;>intro _<;>try simp (disch:=first|assumption|omega) only[S0,rA,rQ,rB,rT,rE, *]))
 ·intro i ys hi hb e9 fS
  (refine aB ?_;repeat' (refine aA ?_ ?_<;>intro _<;>try simp (disch:=first|assumption|omega) only[S0,rA,rQ,rB,rT,rE,aM,lS, *]))
 ·intro ys fS
  (refine aB ?_;repeat' (refine aA ?_ ?_<;>intro _<;>try simp (disch:=first|assumption|omega) only[S0,rA,rQ,rB,rT,rE, *]))
theorem Pa5 (xs ys:(List Int))(hs:szL (fun _=>0) xs<=1099511627776):Fun T 122 [rL xs,rL ys]=some [.bool (decide (xs=ys))]:=by
 rw[aK (t:=La3) rfl];unfold La3
 have hx:xs.length<=1099511627776:=Rbz bW hs;by_cases hl:ys.length=xs.length
 ·simp (disch:=first|assumption|omega) only[S0,rA,rQ,rB,rT,rE, *]
  rw[Aaa 1 xs.length (fun i=>decide (atI xs i=atI ys i)) [.bool false],nH hl.symm]
  ·(refine aB ?_;repeat' (refine aA ?_ ?_<;>intro _<;>try simp (disch:=first|assumption|omega) only[S0,rA,rQ,rB,rT,rE, *]))
  ·intro i hi hp
   have hb:InB xs (i:Int):=aN.2 hi;have e9:InB ys (i:Int):=aN.2 (by omega);have h2:decide ((i:Int)<xs.length)=true:=by simp;omega
   have h3:(atI xs i==atI ys i)=true:=by simpa using hp
   (refine aB ?_;repeat' (refine aA ?_ ?_<;>intro _<;>try simp (disch:=first|assumption|omega) only[S0,rA,rQ,rB,rT,rE,aM, *]))
  ·intro i hi hp
   have hb:InB xs (i:Int):=aN.2 hi;have e9:InB ys (i:Int):=aN.2 (by omega);have h2:decide ((i:Int)<xs.length)=true:=by simp;omega
   have h3:(atI xs i==atI ys i)=false:=by simpa using hp
   (refine aB ?_;repeat' (refine aA ?_ ?_<;>intro _<;>try simp (disch:=first|assumption|omega) only[S0,rA,rQ,rB,rT,rE,aM, *]))
  ·have h2:decide ((xs.length:Int)<xs.length)=false:=by simp
   (refine aB ?_;repeat' (refine aA ?_ ?_<;>intro _<;>try simp (disch:=first|assumption|omega) only[S0,rA,rQ,rB,rT,rE, *]))
 ·have fS:((xs.length:Int)==(ys.length:Int))=false:=by simp;omega
  have e:=sP (fun h=>hl h.symm)
  (refine aB ?_;repeat' (refine aA ?_ ?_<;>intro _<;>try simp (disch:=first|assumption|omega) only[S0,rA,rQ,rB,rT,rE, *]))
theorem Ha4 (xs:(List Int))(k:Int)(hk:0<=k)(hb:k+(ctL (fun _=>1) xs:Nat)<=1152921504606846976)(hl:xs.length<=1099511627776):Fun T 131 [rL xs,i64 k]=some [i64 (k+(ctL (fun _=>1) xs:Nat)),rL (mkL (fun _=>1) (fun _ k=>k) xs k)]:=by
 rw[aK (t:=Lat) rfl];unfold Lat
 have hx:xs.length<=1099511627776:=hl;simp (disch:=first|assumption|omega) only[S0,rA,rQ,rB,rT,rE, *];rw[nZ xs (fun _=>1) (fun _ k=>k) k rfl rfl rfl hk hb ?_ ?_ (by omega)]
 ·(refine aB ?_;repeat' (refine aA ?_ ?_<;>intro _<;>try simp (disch:=first|assumption|omega) only[S0,rA,rQ,rB,rT,rE, *]))
 ·intro i ys m hi hy hb bh ig hm hc hlen
  have gl:m+1<=1152921504606846976:=hc
  (refine aB ?_;repeat' (refine aA ?_ ?_<;>intro _<;>try simp (disch:=first|assumption|omega|(simp only[gN];assumption)) only[S0,rA,rQ,rB,rT,rE,aM,lS,gN, *]))
  rfl
 ·intro ys m hy bh
  (refine aB ?_;repeat' (refine aA ?_ ?_<;>intro _<;>try simp (disch:=first|assumption|omega) only[S0,rA,rQ,rB,rT,rE, *]))
theorem Ha6 (xs:(List Int))(k:Int)(hk:0<=k)(hb:k+(ctL (fun _=>1) xs:Nat)<=1152921504606846976)(hl:xs.length<=1099511627776):Fun T 138 [rL (mkL (fun _=>1) (fun _ k=>k) xs k),i64 k]=some [i64 (k+(ctL (fun _=>1) xs:Nat))]:=by
 rw[aK (t:=Lam) rfl];unfold Lam
 have hx:xs.length<=1099511627776:=hl;simp (disch:=first|assumption|omega) only[S0,rA,rQ,rB,rT,rE, *];rw[oC xs (fun _=>1) (fun _ k=>k) k rfl hk hb (by omega)]
 ·(refine aB ?_;repeat' (refine aA ?_ ?_<;>intro _<;>try simp (disch:=first|assumption|omega) only[S0,rA,rQ,rB,rT,rE, *]))
 ·intro i m hi hb hy bh ig hm hc hlen
  have gl:m+1<=1152921504606846976:=hc
  (refine aB ?_;repeat' (refine aA ?_ ?_<;>intro _<;>try simp (disch:=first|assumption|omega) only[S0,rA,rQ,rB,rT,rE,aM, *]))
  rfl
 ·intro m hy bh
  (refine aB ?_;repeat' (refine aA ?_ ?_<;>intro _<;>try simp (disch:=first|assumption|omega) only[S0,rA,rQ,rB,rT,rE, *]))
theorem cB (eC:Int)(cJ:(List Int))(l:Int)(h0:0<=l)(h1:l<=1048576)(hw:uU ⟨eC,cJ⟩):Fun T 6 [i64 eC,rL cJ,i64 l]=some [i64 (szR l (aI ⟨eC,cJ⟩))]:=by
 rw[aK (t:=tm6) rfl];unfold tm6
 unfold uU at hw;simp only at hw;have w0:=hw;by_cases c0:((szL (fun _=>0) cJ:Nat):Int)<=l
 rotate_left
 ·have e0:szR (l) (szL (fun _=>0) cJ)=-1:=if_neg c0
  have d0:decide ((-1:Int)<0)=true:=rfl;have e:szR l (aI ⟨eC,cJ⟩)=-1:=by unfold szR aI;simp only[];split<;>omega
  (refine aB ?_;repeat' (refine aA ?_ ?_<;>intro _<;>try simp (disch:=first|assumption|omega) only[S0,rA,rQ,rB,rT,rE,qV, *]))
 have e0:szR (l) (szL (fun _=>0) cJ)=l-(szL (fun _=>0) cJ:Nat):=if_pos c0;have d0:decide (l-((szL (fun _=>0) cJ:Nat):Int)<0)=false:=by simp;omega
 have e:szR l (aI ⟨eC,cJ⟩)=l-((szL (fun _=>0) cJ:Nat):Int):=by unfold szR aI;simp only[];split<;>omega
 (refine aB ?_;repeat' (refine aA ?_ ?_<;>intro _<;>try simp (disch:=first|assumption|omega) only[S0,rA,rQ,rB,rT,rE,qV, *]))
theorem xR (eC:Int)(cJ:(List Int))(hs:aI ⟨eC,cJ⟩<=1048576):Fun T 16 [i64 eC,rL cJ]=some [i64 eC,rL cJ]:=by
 rw[aK (t:=Db3) rfl];unfold Db3
 unfold aI at hs;simp only at hs;have s0:szL (fun _=>0) cJ<=1048576:=by omega
 (refine aB ?_;repeat' (refine aA ?_ ?_<;>intro _<;>try simp (disch:=first|assumption|omega) only[S0,rA,rQ,rB,rT,rE,Pa1, *]))
theorem qW (eC:Int)(cJ:(List Int))(lf:Int)(ji:(List Int))(hs:aI ⟨eC,cJ⟩<=1099511627776):Fun T 121 [i64 eC,rL cJ,i64 lf,rL ji]=some [.bool (decide ((⟨eC,cJ⟩:bY)=⟨lf,ji⟩))]:=by
 rw[aK (t:=La4) rfl];unfold La4
 unfold aI at hs;simp only at hs;have s0:szL (fun _=>0) cJ<=1099511627776:=by omega
 have e:decide ((⟨eC,cJ⟩:bY)=⟨lf,ji⟩)=((eC==lf)&&decide ((cJ:(List Int))=ji)):=by
  simp only[bY.mk.injEq,Sbh,Tbb,Tbi]
 rw[e]
 (refine aB ?_;repeat' (refine aA ?_ ?_<;>intro _<;>try simp (disch:=first|assumption|omega) only[S0,rA,rQ,rB,rT,rE,Pa5, *]))
theorem Cas (ba cU cx aw bb a8 a6 a7 ah:Int)(af:(List Int))(l:Int)(h0:0<=l)(h1:l<=1048576)(hw:lW ⟨ba,cU,cx,⟨aw,bb,a8,a6,a7⟩,⟨ah,af⟩⟩):Fun T 5 [i64 ba,i64 cU,i64 cx,i64 aw,i64 bb,i64 a8,i64 a6,i64 a7,i64 ah,rL af,i64 l]=some [i64 (szR l (aG ⟨ba,cU,cx,⟨aw,bb,a8,a6,a7⟩,⟨ah,af⟩⟩))]:=by
 rw[aK (t:=tm5) rfl];unfold tm5
 unfold lW at hw;simp only at hw;have w0:=hw;by_cases c0:((aI ⟨ah,af⟩:Nat):Int)<=l
 rotate_left
 ·have e0:szR (l) (aI ⟨ah,af⟩)=-1:=if_neg c0
  have d0:decide ((-1:Int)<0)=true:=rfl;have e:szR l (aG ⟨ba,cU,cx,⟨aw,bb,a8,a6,a7⟩,⟨ah,af⟩⟩)=-1:=by unfold szR aG;simp only[];split<;>omega
  (refine aB ?_;repeat' (refine aA ?_ ?_<;>intro _<;>try simp (disch:=first|assumption|omega) only[S0,rA,rQ,rB,rT,rE,cB, *]))
 have e0:szR (l) (aI ⟨ah,af⟩)=l-(aI ⟨ah,af⟩:Nat):=if_pos c0;have d0:decide (l-((aI ⟨ah,af⟩:Nat):Int)<0)=false:=by simp;omega
 have e:szR l (aG ⟨ba,cU,cx,⟨aw,bb,a8,a6,a7⟩,⟨ah,af⟩⟩)=l-((aI ⟨ah,af⟩:Nat):Int):=by unfold szR aG;simp only[];split<;>omega
 (refine aB ?_;repeat' (refine aA ?_ ?_<;>intro _<;>try simp (disch:=first|assumption|omega) only[S0,rA,rQ,rB,rT,rE,cB, *]))
theorem Nag (ba cU cx aw bb a8 a6 a7 ah:Int)(af:(List Int))(hs:aG ⟨ba,cU,cx,⟨aw,bb,a8,a6,a7⟩,⟨ah,af⟩⟩<=1048576):Fun T 14 [i64 ba,i64 cU,i64 cx,i64 aw,i64 bb,i64 a8,i64 a6,i64 a7,i64 ah,rL af]=some [i64 ba,i64 cU,i64 cx,i64 aw,i64 bb,i64 a8,i64 a6,i64 a7,i64 ah,rL af]:=by
 rw[aK (t:=Db5) rfl];unfold Db5
 unfold aG at hs;simp only at hs;have s0:aI ⟨ah,af⟩<=1048576:=by omega
 (refine aB ?_;repeat' (refine aA ?_ ?_<;>intro _<;>try simp (disch:=first|assumption|omega) only[S0,rA,rQ,rB,rT,rE,Car,xR, *]))
theorem Cau (ba cU cx aw bb a8 a6 a7 ah:Int)(af:(List Int))(cS fe et cw cR cD cC cA cu:Int)(cm:(List Int))(hs:aG ⟨ba,cU,cx,⟨aw,bb,a8,a6,a7⟩,⟨ah,af⟩⟩<=1099511627776):Fun T 119 [i64 ba,i64 cU,i64 cx,i64 aw,i64 bb,i64 a8,i64 a6,i64 a7,i64 ah,rL af,i64 cS,i64 fe,i64 et,i64 cw,i64 cR,i64 cD,i64 cC,i64 cA,i64 cu,rL cm]=some [.bool (decide ((⟨ba,cU,cx,⟨aw,bb,a8,a6,a7⟩,⟨ah,af⟩⟩:aZ)=⟨cS,fe,et,⟨cw,cR,cD,cC,cA⟩,⟨cu,cm⟩⟩))]:=by
 rw[aK (t:=La6) rfl];unfold La6
 unfold aG at hs;simp only at hs;have s0:aI ⟨ah,af⟩<=1099511627776:=by omega
 have e:decide ((⟨ba,cU,cx,⟨aw,bb,a8,a6,a7⟩,⟨ah,af⟩⟩:aZ)=⟨cS,fe,et,⟨cw,cR,cD,cC,cA⟩,⟨cu,cm⟩⟩)=((ba==cS)&&(cU==fe)&&(cx==et)&&decide ((⟨aw,bb,a8,a6,a7⟩:wW)=⟨cw,cR,cD,cC,cA⟩)&&decide ((⟨ah,af⟩:bY)=⟨cu,cm⟩)):=by
  simp only[aZ.mk.injEq,Sbh,Tbb,Tbi]
 rw[e]
 (refine aB ?_;repeat' (refine aA ?_ ?_<;>intro _<;>try simp (disch:=first|assumption|omega) only[S0,rA,rQ,rB,rT,rE,vL,qW, *]))
theorem gK (xs:(List aZ))(l:Int)(h0:0<=l)(h1:l<=1048576)(hw:xs.length<=140737488351232/\∀ y0∈xs,lW y0):Fun T 4 [rL xs,i64 l]=some [i64 (szR l (szL aG xs))]:=by
 rw[aK (t:=tm4) rfl];unfold tm4
 obtain⟨sY,nw⟩:=hw;by_cases c:(xs.length:Int)<=l
 ·have d:decide (l-(xs.length:Int)<0)=false:=by simp;omega
  simp (disch:=first|assumption|omega) only[S0,rA,rQ,rB,rT,rE, *];rw[Ja0 xs aG (l-xs.length) rfl (by omega) (by omega)]
  ·by_cases hd:((xs.map aG).sum:Int)<=l-xs.length
   ·have e:szR l (szL aG xs)=l-xs.length-((xs.map aG).sum:Nat):=by unfold szR;rw[show (szL aG xs)=xs.length+(xs.map aG).sum from rfl,if_pos (by omega)];omega
    rw[decide_eq_true hd]
    (refine aB ?_;repeat' (refine aA ?_ ?_<;>intro _<;>try simp (disch:=first|assumption|omega) only[S0,rA,rQ,rB,rT,rE, *]))
   ·have e:szR l (szL aG xs)=-1:=by unfold szR;rw[show (szL aG xs)=xs.length+(xs.map aG).sum from rfl,if_neg (by omega)]
    rw[decide_eq_false hd]
    (refine aB ?_;repeat' (refine aA ?_ ?_<;>intro _<;>try simp (disch:=first|assumption|omega) only[S0,rA,rQ,rB,rT,rE, *]))
  ·intro i m hi hb hl hm n2 hf hr hd
   have hq:=nw _ (at_mem hi)
   (refine aB ?_;repeat' (refine aA ?_ ?_<;>intro _<;>try simp (disch:=first|assumption|omega) only[S0,rA,rQ,rB,rT,rE,aM,Cas, *]))
  ·intro i m hi hb hl hm n2 hf hr hd
   have hq:=nw _ (at_mem hi)
   (refine aB ?_;repeat' (refine aA ?_ ?_<;>intro _<;>try simp (disch:=first|assumption|omega) only[S0,rA,rQ,rB,rT,rE,aM,Cas, *]))
  ·intro m hl
   (refine aB ?_;repeat' (refine aA ?_ ?_<;>intro _<;>try simp (disch:=first|assumption|omega) only[S0,rA,rQ,rB,rT,rE, *]))
 ·have e:szR l (szL aG xs)=-1:=by unfold szR;rw[show (szL aG xs)=xs.length+(xs.map aG).sum from rfl,if_neg (by omega)]
  have d:decide (l-(xs.length:Int)<0)=true:=by simp;omega
  (refine aB ?_;repeat' (refine aA ?_ ?_<;>intro _<;>try simp (disch:=first|assumption|omega) only[S0,rA,rQ,rB,rT,rE, *]))
theorem xS (xs:(List aZ))(hs:szL aG xs<=1048576):Fun T 13 [rL xs]=some [rL xs]:=by
 rw[aK (t:=Db6) rfl];unfold Db6
 have hl:xs.length<=1048576:=Rbz bW hs;simp (disch:=first|assumption|omega) only[S0,rA,rQ,rB,rT,rE,sU,Tbf, *];rw[Fah xs rfl]
 ·(refine aB ?_;repeat' (refine aA ?_ ?_<;>intro _<;>try simp (disch:=first|assumption|omega) only[S0,rA,rQ,rB,rT,rE, *]))
 ·intro i ys hi hb e9 fS
  have hq:aG (atI xs i)<=1048576:=by
   have:=bS (f:=aG) (at_mem hi);omega
  (refine aB ?_;repeat' (refine aA ?_ ?_<;>intro _<;>try simp (disch:=first|assumption|omega) only[S0,rA,rQ,rB,rT,rE,aM,lS,Nag, *]))
 ·intro ys fS
  (refine aB ?_;repeat' (refine aA ?_ ?_<;>intro _<;>try simp (disch:=first|assumption|omega) only[S0,rA,rQ,rB,rT,rE, *]))
theorem qX (xs ys:(List aZ))(hs:szL aG xs<=1099511627776):Fun T 118 [rL xs,rL ys]=some [.bool (decide (xs=ys))]:=by
 rw[aK (t:=La7) rfl];unfold La7
 have hx:xs.length<=1099511627776:=Rbz bW hs;by_cases hl:ys.length=xs.length
 ·simp (disch:=first|assumption|omega) only[S0,rA,rQ,rB,rT,rE, *]
  rw[Aaa 1 xs.length (fun i=>decide (atI xs i=atI ys i)) [.bool false],nH hl.symm]
  ·(refine aB ?_;repeat' (refine aA ?_ ?_<;>intro _<;>try simp (disch:=first|assumption|omega) only[S0,rA,rQ,rB,rT,rE, *]))
  ·intro i hi hp
   have hb:InB xs (i:Int):=aN.2 hi;have e9:InB ys (i:Int):=aN.2 (by omega);have h2:decide ((i:Int)<xs.length)=true:=by simp;omega
   have hq:aG (atI xs i)<=1099511627776:=by
    have:=bS (f:=aG) (at_mem hi);omega
   (refine aB ?_;repeat' (refine aA ?_ ?_<;>intro _<;>try simp (disch:=first|assumption|omega) only[S0,rA,rQ,rB,rT,rE,aM,Cau, *]))
  ·intro i hi hp
   have hb:InB xs (i:Int):=aN.2 hi;have e9:InB ys (i:Int):=aN.2 (by omega);have h2:decide ((i:Int)<xs.length)=true:=by simp;omega
   have hq:aG (atI xs i)<=1099511627776:=by
    have:=bS (f:=aG) (at_mem hi);omega
   (refine aB ?_;repeat' (refine aA ?_ ?_<;>intro _<;>try simp (disch:=first|assumption|omega) only[S0,rA,rQ,rB,rT,rE,aM,Cau, *]))
  ·have h2:decide ((xs.length:Int)<xs.length)=false:=by simp
   (refine aB ?_;repeat' (refine aA ?_ ?_<;>intro _<;>try simp (disch:=first|assumption|omega) only[S0,rA,rQ,rB,rT,rE, *]))
 ·have fS:((xs.length:Int)==(ys.length:Int))=false:=by simp;omega
  have e:=sP (fun h=>hl h.symm)
  (refine aB ?_;repeat' (refine aA ?_ ?_<;>intro _<;>try simp (disch:=first|assumption|omega) only[S0,rA,rQ,rB,rT,rE, *]))
theorem xW (xs:(List aZ))(k:Int)(hk:0<=k)(hb:k+(ctL aL xs:Nat)<=1152921504606846976)(hl:szL aG xs<=1099511627776):Fun T 130 [rL xs,i64 k]=some [i64 (k+(ctL aL xs:Nat)),rL (mkL aL dX xs k)]:=by
 rw[aK (t:=Lau) rfl];unfold Lau
 have hx:xs.length<=1099511627776:=Rbz bW hl;simp (disch:=first|assumption|omega) only[S0,rA,rQ,rB,rT,rE, *];rw[nZ xs aL dX k rfl rfl rfl hk hb ?_ ?_ (by omega)]
 ·(refine aB ?_;repeat' (refine aA ?_ ?_<;>intro _<;>try simp (disch:=first|assumption|omega) only[S0,rA,rQ,rB,rT,rE, *]))
 ·intro i ys m hi hy hb bh ig hm hc hlen
  have ec:m+1+1+1+1+1+1+1+1+1+(ctL (fun _=>1) (atI xs (i:Int)).attr.deps:Nat)=m+(aL (atI xs i):Nat):=by rw[pX];omega
  have hq:aG (atI xs i)<=1099511627776:=by
   have:=bS (f:=aG) (at_mem hi);omega
  rw[Bav]at hq;rw[pX]at hc;have di:(atI xs i).attr.deps.length<=1099511627776:=by omega
  (refine aB ?_;repeat' (refine aA ?_ ?_<;>intro _<;>try simp (disch:=first|assumption|omega|(simp only[gN];assumption)) only[S0,rA,rQ,rB,rT,rE,aM,lS,gN,Ha4, *]))
  all_goals (try simp only[dX,ec])
 ·intro ys m hy bh
  (refine aB ?_;repeat' (refine aA ?_ ?_<;>intro _<;>try simp (disch:=first|assumption|omega) only[S0,rA,rQ,rB,rT,rE, *]))
theorem xX (xs:(List aZ))(k:Int)(hk:0<=k)(hb:k+(ctL aL xs:Nat)<=1152921504606846976)(hl:szL aG xs<=1099511627776):Fun T 137 [rL (mkL aL dX xs k),i64 k]=some [i64 (k+(ctL aL xs:Nat))]:=by
 rw[aK (t:=Lan) rfl];unfold Lan
 have hx:xs.length<=1099511627776:=Rbz bW hl;simp (disch:=first|assumption|omega) only[S0,rA,rQ,rB,rT,rE, *];rw[oC xs aL dX k rfl hk hb (by omega)]
 ·(refine aB ?_;repeat' (refine aA ?_ ?_<;>intro _<;>try simp (disch:=first|assumption|omega) only[S0,rA,rQ,rB,rT,rE, *]))
 ·intro i m hi hb hy bh ig hm hc hlen
  have ec:m+1+1+1+1+1+1+1+1+1+(ctL (fun _=>1) (atI xs (i:Int)).attr.deps:Nat)=m+(aL (atI xs i):Nat):=by rw[pX];omega
  have hq:aG (atI xs i)<=1099511627776:=by
   have:=bS (f:=aG) (at_mem hi);omega
  rw[Bav]at hq;rw[pX]at hc;have di:(atI xs i).attr.deps.length<=1099511627776:=by omega
  (refine aB ?_;repeat' (refine aA ?_ ?_<;>intro _<;>try simp (disch:=first|assumption|omega) only[S0,rA,rQ,rB,rT,rE,aM,Ha6,dX,lt0, *]))
  all_goals (try simp only[ec])
 ·intro m hy bh
  (refine aB ?_;repeat' (refine aA ?_ ?_<;>intro _<;>try simp (disch:=first|assumption|omega) only[S0,rA,rQ,rB,rT,rE, *]))
theorem uJ (xs:(List (List aZ)))(l:Int)(h0:0<=l)(h1:l<=1048576)(hw:xs.length<=140737488351232/\∀ y0∈xs,y0.length<=140737488351232/\∀ y1∈y0,lW y1):Fun T 3 [rL xs,i64 l]=some [i64 (szR l (szL (szL aG) xs))]:=by
 rw[aK (t:=tm3) rfl];unfold tm3
 obtain⟨sY,nw⟩:=hw;by_cases c:(xs.length:Int)<=l
 ·have d:decide (l-(xs.length:Int)<0)=false:=by simp;omega
  simp (disch:=first|assumption|omega) only[S0,rA,rQ,rB,rT,rE, *];rw[Ja0 xs (szL aG) (l-xs.length) rfl (by omega) (by omega)]
  ·by_cases hd:((xs.map (szL aG)).sum:Int)<=l-xs.length
   ·have e:szR l (szL (szL aG) xs)=l-xs.length-((xs.map (szL aG)).sum:Nat):=by unfold szR;rw[show (szL (szL aG) xs)=xs.length+(xs.map (szL aG)).sum from rfl,if_pos (by omega)];omega
    rw[decide_eq_true hd]
    (refine aB ?_;repeat' (refine aA ?_ ?_<;>intro _<;>try simp (disch:=first|assumption|omega) only[S0,rA,rQ,rB,rT,rE, *]))
   ·have e:szR l (szL (szL aG) xs)=-1:=by unfold szR;rw[show (szL (szL aG) xs)=xs.length+(xs.map (szL aG)).sum from rfl,if_neg (by omega)]
    rw[decide_eq_false hd]
    (refine aB ?_;repeat' (refine aA ?_ ?_<;>intro _<;>try simp (disch:=first|assumption|omega) only[S0,rA,rQ,rB,rT,rE, *]))
  ·intro i m hi hb hl hm n2 hf hr hd
   have hq:=nw _ (at_mem hi)
   (refine aB ?_;repeat' (refine aA ?_ ?_<;>intro _<;>try simp (disch:=first|assumption|omega) only[S0,rA,rQ,rB,rT,rE,aM,gK, *]))
  ·intro i m hi hb hl hm n2 hf hr hd
   have hq:=nw _ (at_mem hi)
   (refine aB ?_;repeat' (refine aA ?_ ?_<;>intro _<;>try simp (disch:=first|assumption|omega) only[S0,rA,rQ,rB,rT,rE,aM,gK, *]))
  ·intro m hl
   (refine aB ?_;repeat' (refine aA ?_ ?_<;>intro _<;>try simp (disch:=first|assumption|omega) only[S0,rA,rQ,rB,rT,rE, *]))
 ·have e:szR l (szL (szL aG) xs)=-1:=by unfold szR;rw[show (szL (szL aG) xs)=xs.length+(xs.map (szL aG)).sum from rfl,if_neg (by omega)]
  have d:decide (l-(xs.length:Int)<0)=true:=by simp;omega
  (refine aB ?_;repeat' (refine aA ?_ ?_<;>intro _<;>try simp (disch:=first|assumption|omega) only[S0,rA,rQ,rB,rT,rE, *]))
theorem Eal (xs:(List (List aZ)))(hs:szL (szL aG) xs<=1048576):Fun T 12 [rL xs]=some [rL xs]:=by
 rw[aK (t:=Db7) rfl];unfold Db7
 have hl:xs.length<=1048576:=Rbz bW hs;simp (disch:=first|assumption|omega) only[S0,rA,rQ,rB,rT,rE,sU,Tbf, *];rw[Fah xs rfl]
 ·(refine aB ?_;repeat' (refine aA ?_ ?_<;>intro _<;>try simp (disch:=first|assumption|omega) only[S0,rA,rQ,rB,rT,rE, *]))
 ·intro i ys hi hb e9 fS
  have hq:szL aG (atI xs i)<=1048576:=by
   have:=bS (f:=(szL aG)) (at_mem hi);omega
  (refine aB ?_;repeat' (refine aA ?_ ?_<;>intro _<;>try simp (disch:=first|assumption|omega) only[S0,rA,rQ,rB,rT,rE,aM,lS,xS, *]))
 ·intro ys fS
  (refine aB ?_;repeat' (refine aA ?_ ?_<;>intro _<;>try simp (disch:=first|assumption|omega) only[S0,rA,rQ,rB,rT,rE, *]))
theorem Eas (xs ys:(List (List aZ)))(hs:szL (szL aG) xs<=1099511627776):Fun T 117 [rL xs,rL ys]=some [.bool (decide (xs=ys))]:=by
 rw[aK (t:=La8) rfl];unfold La8
 have hx:xs.length<=1099511627776:=Rbz bW hs;by_cases hl:ys.length=xs.length
 ·simp (disch:=first|assumption|omega) only[S0,rA,rQ,rB,rT,rE, *]
  rw[Aaa 1 xs.length (fun i=>decide (atI xs i=atI ys i)) [.bool false],nH hl.symm]
  ·(refine aB ?_;repeat' (refine aA ?_ ?_<;>intro _<;>try simp (disch:=first|assumption|omega) only[S0,rA,rQ,rB,rT,rE, *]))
  ·intro i hi hp
   have hb:InB xs (i:Int):=aN.2 hi;have e9:InB ys (i:Int):=aN.2 (by omega);have h2:decide ((i:Int)<xs.length)=true:=by simp;omega
   have hq:szL aG (atI xs i)<=1099511627776:=by
    have:=bS (f:=(szL aG)) (at_mem hi);omega
   (refine aB ?_;repeat' (refine aA ?_ ?_<;>intro _<;>try simp (disch:=first|assumption|omega) only[S0,rA,rQ,rB,rT,rE,aM,qX, *]))
  ·intro i hi hp
   have hb:InB xs (i:Int):=aN.2 hi;have e9:InB ys (i:Int):=aN.2 (by omega);have h2:decide ((i:Int)<xs.length)=true:=by simp;omega
   have hq:szL aG (atI xs i)<=1099511627776:=by
    have:=bS (f:=(szL aG)) (at_mem hi);omega
   (refine aB ?_;repeat' (refine aA ?_ ?_<;>intro _<;>try simp (disch:=first|assumption|omega) only[S0,rA,rQ,rB,rT,rE,aM,qX, *]))
  ·have h2:decide ((xs.length:Int)<xs.length)=false:=by simp
   (refine aB ?_;repeat' (refine aA ?_ ?_<;>intro _<;>try simp (disch:=first|assumption|omega) only[S0,rA,rQ,rB,rT,rE, *]))
 ·have fS:((xs.length:Int)==(ys.length:Int))=false:=by simp;omega
  have e:=sP (fun h=>hl h.symm)
  (refine aB ?_;repeat' (refine aA ?_ ?_<;>intro _<;>try simp (disch:=first|assumption|omega) only[S0,rA,rQ,rB,rT,rE, *]))
theorem uL (xs:(List (List aZ)))(k:Int)(hk:0<=k)(hb:k+(ctL (ctL aL) xs:Nat)<=1152921504606846976)(hl:szL (szL aG) xs<=1099511627776):Fun T 129 [rL xs,i64 k]=some [i64 (k+(ctL (ctL aL) xs:Nat)),rL (mkL (ctL aL) (mkL aL dX) xs k)]:=by
 rw[aK (t:=Lav) rfl];unfold Lav
 have hx:xs.length<=1099511627776:=Rbz bW hl;simp (disch:=first|assumption|omega) only[S0,rA,rQ,rB,rT,rE, *];rw[nZ xs (ctL aL) (mkL aL dX) k rfl rfl rfl hk hb ?_ ?_ (by omega)]
 ·(refine aB ?_;repeat' (refine aA ?_ ?_<;>intro _<;>try simp (disch:=first|assumption|omega) only[S0,rA,rQ,rB,rT,rE, *]))
 ·intro i ys m hi hy hb bh ig hm hc hlen
  have hq:szL aG (atI xs i)<=1099511627776:=by
   have:=bS (f:=(szL aG)) (at_mem hi);omega
  (refine aB ?_;repeat' (refine aA ?_ ?_<;>intro _<;>try simp (disch:=first|assumption|omega|(simp only[gN];assumption)) only[S0,rA,rQ,rB,rT,rE,aM,lS,gN,xW, *]))
 ·intro ys m hy bh
  (refine aB ?_;repeat' (refine aA ?_ ?_<;>intro _<;>try simp (disch:=first|assumption|omega) only[S0,rA,rQ,rB,rT,rE, *]))
theorem uM (xs:(List (List aZ)))(k:Int)(hk:0<=k)(hb:k+(ctL (ctL aL) xs:Nat)<=1152921504606846976)(hl:szL (szL aG) xs<=1099511627776):Fun T 136 [rL (mkL (ctL aL) (mkL aL dX) xs k),i64 k]=some [i64 (k+(ctL (ctL aL) xs:Nat))]:=by
 rw[aK (t:=Lao) rfl];unfold Lao
 have hx:xs.length<=1099511627776:=Rbz bW hl;simp (disch:=first|assumption|omega) only[S0,rA,rQ,rB,rT,rE, *];rw[oC xs (ctL aL) (mkL aL dX) k rfl hk hb (by omega)]
 ·(refine aB ?_;repeat' (refine aA ?_ ?_<;>intro _<;>try simp (disch:=first|assumption|omega) only[S0,rA,rQ,rB,rT,rE, *]))
 ·intro i m hi hb hy bh ig hm hc hlen
  have hq:szL aG (atI xs i)<=1099511627776:=by
   have:=bS (f:=(szL aG)) (at_mem hi);omega
  have hz:decide (m+(ctL aL (atI xs i):Nat)<0)=false:=by simp;omega
  (refine aB ?_;repeat' (refine aA ?_ ?_<;>intro _<;>try simp (disch:=first|assumption|omega) only[S0,rA,rQ,rB,rT,rE,aM,xX,lt0, *]))
 ·intro m hy bh
  (refine aB ?_;repeat' (refine aA ?_ ?_<;>intro _<;>try simp (disch:=first|assumption|omega) only[S0,rA,rQ,rB,rT,rE, *]))
theorem nR (jj:Int)(cj:(List (List aZ)))(l:Int)(h0:0<=l)(h1:l<=1048576)(hw:wX ⟨jj,cj⟩):Fun T 2 [i64 jj,rL cj,i64 l]=some [i64 (szR l (aX ⟨jj,cj⟩))]:=by
 rw[aK (t:=tm2) rfl];unfold tm2
 unfold wX at hw;simp only at hw;have w0:=hw;by_cases c0:((szL (szL aG) cj:Nat):Int)<=l
 rotate_left
 ·have e0:szR (l) (szL (szL aG) cj)=-1:=if_neg c0
  have d0:decide ((-1:Int)<0)=true:=rfl;have e:szR l (aX ⟨jj,cj⟩)=-1:=by unfold szR aX;simp only[];split<;>omega
  (refine aB ?_;repeat' (refine aA ?_ ?_<;>intro _<;>try simp (disch:=first|assumption|omega) only[S0,rA,rQ,rB,rT,rE,uJ, *]))
 have e0:szR (l) (szL (szL aG) cj)=l-(szL (szL aG) cj:Nat):=if_pos c0;have d0:decide (l-((szL (szL aG) cj:Nat):Int)<0)=false:=by simp;omega
 have e:szR l (aX ⟨jj,cj⟩)=l-((szL (szL aG) cj:Nat):Int):=by unfold szR aX;simp only[];split<;>omega
 (refine aB ?_;repeat' (refine aA ?_ ?_<;>intro _<;>try simp (disch:=first|assumption|omega) only[S0,rA,rQ,rB,rT,rE,uJ, *]))
theorem Eaj (jj:Int)(cj:(List (List aZ)))(hs:aX ⟨jj,cj⟩<=1048576):Fun T 11 [i64 jj,rL cj]=some [i64 jj,rL cj]:=by
 rw[aK (t:=Db8) rfl];unfold Db8
 unfold aX at hs;simp only at hs;have s0:szL (szL aG) cj<=1048576:=by omega
 (refine aB ?_;repeat' (refine aA ?_ ?_<;>intro _<;>try simp (disch:=first|assumption|omega) only[S0,rA,rQ,rB,rT,rE,Eal, *]))
theorem Eaq (jj:Int)(cj:(List (List aZ)))(we:Int)(jl:(List (List aZ)))(hs:aX ⟨jj,cj⟩<=1099511627776):Fun T 116 [i64 jj,rL cj,i64 we,rL jl]=some [.bool (decide ((⟨jj,cj⟩:aY)=⟨we,jl⟩))]:=by
 rw[aK (t:=La9) rfl];unfold La9
 unfold aX at hs;simp only at hs;have s0:szL (szL aG) cj<=1099511627776:=by omega
 have e:decide ((⟨jj,cj⟩:aY)=⟨we,jl⟩)=((jj==we)&&decide ((cj:(List (List aZ)))=jl)):=by
  simp only[aY.mk.injEq,Sbh,Tbb,Tbi]
 rw[e]
 (refine aB ?_;repeat' (refine aA ?_ ?_<;>intro _<;>try simp (disch:=first|assumption|omega) only[S0,rA,rQ,rB,rT,rE,Eas, *]))
theorem Eam (jj:Int)(cj:(List (List aZ)))(k:Int)(hk:0<=k)(hb:k+(ctL (ctL aL) cj:Nat)<=1152921504606846976)(k7:szL (szL aG) cj<=1099511627776):Fun T 128 [i64 jj,rL cj,i64 k]=some [i64 (k+(ctL (ctL aL) cj:Nat)),rL (mkL (ctL aL) (mkL aL dX) cj (k))]:=by
 rw[aK (t:=Law) rfl];unfold Law
 (refine aB ?_;repeat' (refine aA ?_ ?_<;>intro _<;>try simp (disch:=first|assumption|omega) only[S0,rA,rQ,rB,rT,rE,uL, *]))
theorem Eao (jj:Int)(cj:(List (List aZ)))(k:Int)(hk:0<=k)(hb:k+(ctL (ctL aL) cj:Nat)<=1152921504606846976)(k7:szL (szL aG) cj<=1099511627776):Fun T 135 [i64 jj,rL (mkL (ctL aL) (mkL aL dX) cj (k)),i64 k]=some [i64 (k+(ctL (ctL aL) cj:Nat))]:=by
 rw[aK (t:=Lap) rfl];unfold Lap
 have z1:decide (k+(ctL (ctL aL) cj:Nat)<0)=false:=by simp;omega
 (refine aB ?_;repeat' (refine aA ?_ ?_<;>intro _<;>try simp (disch:=first|assumption|omega) only[S0,rA,rQ,rB,rT,rE,uM, *]))
theorem xV (cX ep ba cN aw bb a8 a6 a7 au:Int)(aq:(List Int))(ah:Int)(af:(List Int))(cW:Bool)(cL:(List Int))(cy:(List aZ))(l:Int)(h0:0<=l)(h1:l<=1048576)(hw:pM ⟨cX,ep,ba,cN,⟨aw,bb,a8,a6,a7⟩,⟨au,aq⟩,⟨ah,af⟩,cW,cL,cy⟩):Fun T 9 [i64 cX,i64 ep,i64 ba,i64 cN,i64 aw,i64 bb,i64 a8,i64 a6,i64 a7,i64 au,rL aq,i64 ah,rL af,.bool cW,rL cL,rL cy,i64 l]=some [i64 (szR l (aJ ⟨cX,ep,ba,cN,⟨aw,bb,a8,a6,a7⟩,⟨au,aq⟩,⟨ah,af⟩,cW,cL,cy⟩))]:=by
 rw[aK (t:=tm9) rfl];unfold tm9
 unfold pM at hw;simp only at hw;obtain⟨w0,w1,w2,w3⟩:=hw;by_cases c0:((aI ⟨au,aq⟩:Nat):Int)<=l
 rotate_left
 ·have e0:szR (l) (aI ⟨au,aq⟩)=-1:=if_neg c0
  have d0:decide ((-1:Int)<0)=true:=rfl;have e:szR l (aJ ⟨cX,ep,ba,cN,⟨aw,bb,a8,a6,a7⟩,⟨au,aq⟩,⟨ah,af⟩,cW,cL,cy⟩)=-1:=by unfold szR aJ;simp only[];split<;>omega
  (refine aB ?_;repeat' (refine aA ?_ ?_<;>intro _<;>try simp (disch:=first|assumption|omega) only[S0,rA,rQ,rB,rT,rE,cB,cB,qV,gK, *]))
 have e0:szR (l) (aI ⟨au,aq⟩)=l-(aI ⟨au,aq⟩:Nat):=if_pos c0;have d0:decide (l-((aI ⟨au,aq⟩:Nat):Int)<0)=false:=by simp;omega
 by_cases c1:((aI ⟨ah,af⟩:Nat):Int)<=l-((aI ⟨au,aq⟩:Nat):Int)
 rotate_left
 ·have e1:szR (l-((aI ⟨au,aq⟩:Nat):Int)) (aI ⟨ah,af⟩)=-1:=if_neg c1
  have d1:decide ((-1:Int)<0)=true:=rfl;have e:szR l (aJ ⟨cX,ep,ba,cN,⟨aw,bb,a8,a6,a7⟩,⟨au,aq⟩,⟨ah,af⟩,cW,cL,cy⟩)=-1:=by unfold szR aJ;simp only[];split<;>omega
  (refine aB ?_;repeat' (refine aA ?_ ?_<;>intro _<;>try simp (disch:=first|assumption|omega) only[S0,rA,rQ,rB,rT,rE,cB,cB,qV,gK, *]))
 have e1:szR (l-((aI ⟨au,aq⟩:Nat):Int)) (aI ⟨ah,af⟩)=l-((aI ⟨au,aq⟩:Nat):Int)-(aI ⟨ah,af⟩:Nat):=if_pos c1;have d1:decide (l-((aI ⟨au,aq⟩:Nat):Int)-((aI ⟨ah,af⟩:Nat):Int)<0)=false:=by simp;omega
 by_cases c2:((szL (fun _=>0) cL:Nat):Int)<=l-((aI ⟨au,aq⟩:Nat):Int)-((aI ⟨ah,af⟩:Nat):Int)
 rotate_left
 ·have e2:szR (l-((aI ⟨au,aq⟩:Nat):Int)-((aI ⟨ah,af⟩:Nat):Int)) (szL (fun _=>0) cL)=-1:=if_neg c2
  have d2:decide ((-1:Int)<0)=true:=rfl;have e:szR l (aJ ⟨cX,ep,ba,cN,⟨aw,bb,a8,a6,a7⟩,⟨au,aq⟩,⟨ah,af⟩,cW,cL,cy⟩)=-1:=by unfold szR aJ;simp only[];split<;>omega
  (refine aB ?_;repeat' (refine aA ?_ ?_<;>intro _<;>try simp (disch:=first|assumption|omega) only[S0,rA,rQ,rB,rT,rE,cB,cB,qV,gK, *]))
 have e2:szR (l-((aI ⟨au,aq⟩:Nat):Int)-((aI ⟨ah,af⟩:Nat):Int)) (szL (fun _=>0) cL)=l-((aI ⟨au,aq⟩:Nat):Int)-((aI ⟨ah,af⟩:Nat):Int)-(szL (fun _=>0) cL:Nat):=if_pos c2;have d2:decide (l-((aI ⟨au,aq⟩:Nat):Int)-((aI ⟨ah,af⟩:Nat):Int)-((szL (fun _=>0) cL:Nat):Int)<0)=false:=by simp;omega
 by_cases c3:((szL aG cy:Nat):Int)<=l-((aI ⟨au,aq⟩:Nat):Int)-((aI ⟨ah,af⟩:Nat):Int)-((szL (fun _=>0) cL:Nat):Int)
 rotate_left
 ·have e3:szR (l-((aI ⟨au,aq⟩:Nat):Int)-((aI ⟨ah,af⟩:Nat):Int)-((szL (fun _=>0) cL:Nat):Int)) (szL aG cy)=-1:=if_neg c3
  have d3:decide ((-1:Int)<0)=true:=rfl;have e:szR l (aJ ⟨cX,ep,ba,cN,⟨aw,bb,a8,a6,a7⟩,⟨au,aq⟩,⟨ah,af⟩,cW,cL,cy⟩)=-1:=by unfold szR aJ;simp only[];split<;>omega
  (refine aB ?_;repeat' (refine aA ?_ ?_<;>intro _<;>try simp (disch:=first|assumption|omega) only[S0,rA,rQ,rB,rT,rE,cB,cB,qV,gK, *]))
 have e3:szR (l-((aI ⟨au,aq⟩:Nat):Int)-((aI ⟨ah,af⟩:Nat):Int)-((szL (fun _=>0) cL:Nat):Int)) (szL aG cy)=l-((aI ⟨au,aq⟩:Nat):Int)-((aI ⟨ah,af⟩:Nat):Int)-((szL (fun _=>0) cL:Nat):Int)-(szL aG cy:Nat):=if_pos c3;have d3:decide (l-((aI ⟨au,aq⟩:Nat):Int)-((aI ⟨ah,af⟩:Nat):Int)-((szL (fun _=>0) cL:Nat):Int)-((szL aG cy:Nat):Int)<0)=false:=by simp;omega
 have e:szR l (aJ ⟨cX,ep,ba,cN,⟨aw,bb,a8,a6,a7⟩,⟨au,aq⟩,⟨ah,af⟩,cW,cL,cy⟩)=l-((aI ⟨au,aq⟩:Nat):Int)-((aI ⟨ah,af⟩:Nat):Int)-((szL (fun _=>0) cL:Nat):Int)-((szL aG cy:Nat):Int):=by unfold szR aJ;simp only[];split<;>omega
 (refine aB ?_;repeat' (refine aA ?_ ?_<;>intro _<;>try simp (disch:=first|assumption|omega) only[S0,rA,rQ,rB,rT,rE,cB,cB,qV,gK, *]))
theorem Ha0 (cX ep ba cN aw bb a8 a6 a7 au:Int)(aq:(List Int))(ah:Int)(af:(List Int))(cW:Bool)(cL:(List Int))(cy:(List aZ))(hs:aJ ⟨cX,ep,ba,cN,⟨aw,bb,a8,a6,a7⟩,⟨au,aq⟩,⟨ah,af⟩,cW,cL,cy⟩<=1048576):Fun T 19 [i64 cX,i64 ep,i64 ba,i64 cN,i64 aw,i64 bb,i64 a8,i64 a6,i64 a7,i64 au,rL aq,i64 ah,rL af,.bool cW,rL cL,rL cy]=some [i64 cX,i64 ep,i64 ba,i64 cN,i64 aw,i64 bb,i64 a8,i64 a6,i64 a7,i64 au,rL aq,i64 ah,rL af,.bool cW,rL cL,rL cy]:=by
 rw[aK (t:=Db0) rfl];unfold Db0
 unfold aJ at hs;simp only at hs;have s0:aI ⟨au,aq⟩<=1048576:=by omega
 have s1:aI ⟨ah,af⟩<=1048576:=by omega
 have s2:szL (fun _=>0) cL<=1048576:=by omega
 have s3:szL aG cy<=1048576:=by omega
 (refine aB ?_;repeat' (refine aA ?_ ?_<;>intro _<;>try simp (disch:=first|assumption|omega) only[S0,rA,rQ,rB,rT,rE,Car,xR,Pa1,xS, *]))
theorem xY (cX ep ba cN aw bb a8 a6 a7 au:Int)(aq:(List Int))(ah:Int)(af:(List Int))(cW:Bool)(cL:(List Int))(cy:(List aZ))(fY jk cS gw cw cR cD cC cA eK:Int)(eu:(List Int))(cu:Int)(cm:(List Int))(jm:Bool)(k9:(List Int))(jo:(List aZ))(hs:aJ ⟨cX,ep,ba,cN,⟨aw,bb,a8,a6,a7⟩,⟨au,aq⟩,⟨ah,af⟩,cW,cL,cy⟩<=1099511627776):Fun T 124 [i64 cX,i64 ep,i64 ba,i64 cN,i64 aw,i64 bb,i64 a8,i64 a6,i64 a7,i64 au,rL aq,i64 ah,rL af,.bool cW,rL cL,rL cy,i64 fY,i64 jk,i64 cS,i64 gw,i64 cw,i64 cR,i64 cD,i64 cC,i64 cA,i64 eK,rL eu,i64 cu,rL cm,.bool jm,rL k9,rL jo]=some [.bool (decide ((⟨cX,ep,ba,cN,⟨aw,bb,a8,a6,a7⟩,⟨au,aq⟩,⟨ah,af⟩,cW,cL,cy⟩:aQ)=⟨fY,jk,cS,gw,⟨cw,cR,cD,cC,cA⟩,⟨eK,eu⟩,⟨cu,cm⟩,jm,k9,jo⟩))]:=by
 rw[aK (t:=La1) rfl];unfold La1
 unfold aJ at hs;simp only at hs;have s0:aI ⟨au,aq⟩<=1099511627776:=by omega
 have s1:aI ⟨ah,af⟩<=1099511627776:=by omega
 have s2:szL (fun _=>0) cL<=1099511627776:=by omega
 have s3:szL aG cy<=1099511627776:=by omega
 have e:decide ((⟨cX,ep,ba,cN,⟨aw,bb,a8,a6,a7⟩,⟨au,aq⟩,⟨ah,af⟩,cW,cL,cy⟩:aQ)=⟨fY,jk,cS,gw,⟨cw,cR,cD,cC,cA⟩,⟨eK,eu⟩,⟨cu,cm⟩,jm,k9,jo⟩)=((cX==fY)&&(ep==jk)&&(ba==cS)&&(cN==gw)&&decide ((⟨aw,bb,a8,a6,a7⟩:wW)=⟨cw,cR,cD,cC,cA⟩)&&decide ((⟨au,aq⟩:bY)=⟨eK,eu⟩)&&decide ((⟨ah,af⟩:bY)=⟨cu,cm⟩)&&(cW==jm)&&decide ((cL:(List Int))=k9)&&decide ((cy:(List aZ))=jo)):=by
  simp only[aQ.mk.injEq,Sbh,Tbb,Tbi]
 rw[e]
 (refine aB ?_;repeat' (refine aA ?_ ?_<;>intro _<;>try simp (disch:=first|assumption|omega) only[S0,rA,rQ,rB,rT,rE,vL,qW,Pa5,qX, *]))
theorem nS (xs:(List aQ))(l:Int)(h0:0<=l)(h1:l<=1048576)(hw:xs.length<=140737488351232/\∀ y0∈xs,pM y0):Fun T 8 [rL xs,i64 l]=some [i64 (szR l (szL aJ xs))]:=by
 rw[aK (t:=tm8) rfl];unfold tm8
 obtain⟨sY,nw⟩:=hw;by_cases c:(xs.length:Int)<=l
 ·have d:decide (l-(xs.length:Int)<0)=false:=by simp;omega
  simp (disch:=first|assumption|omega) only[S0,rA,rQ,rB,rT,rE, *];rw[Ja0 xs aJ (l-xs.length) rfl (by omega) (by omega)]
  ·by_cases hd:((xs.map aJ).sum:Int)<=l-xs.length
   ·have e:szR l (szL aJ xs)=l-xs.length-((xs.map aJ).sum:Nat):=by unfold szR;rw[show (szL aJ xs)=xs.length+(xs.map aJ).sum from rfl,if_pos (by omega)];omega
    rw[decide_eq_true hd]
    (refine aB ?_;repeat' (refine aA ?_ ?_<;>intro _<;>try simp (disch:=first|assumption|omega) only[S0,rA,rQ,rB,rT,rE, *]))
   ·have e:szR l (szL aJ xs)=-1:=by unfold szR;rw[show (szL aJ xs)=xs.length+(xs.map aJ).sum from rfl,if_neg (by omega)]
    rw[decide_eq_false hd]
    (refine aB ?_;repeat' (refine aA ?_ ?_<;>intro _<;>try simp (disch:=first|assumption|omega) only[S0,rA,rQ,rB,rT,rE, *]))
  ·intro i m hi hb hl hm n2 hf hr hd
   have hq:=nw _ (at_mem hi)
   (refine aB ?_;repeat' (refine aA ?_ ?_<;>intro _<;>try simp (disch:=first|assumption|omega) only[S0,rA,rQ,rB,rT,rE,aM,xV, *]))
  ·intro i m hi hb hl hm n2 hf hr hd
   have hq:=nw _ (at_mem hi)
   (refine aB ?_;repeat' (refine aA ?_ ?_<;>intro _<;>try simp (disch:=first|assumption|omega) only[S0,rA,rQ,rB,rT,rE,aM,xV, *]))
  ·intro m hl
   (refine aB ?_;repeat' (refine aA ?_ ?_<;>intro _<;>try simp (disch:=first|assumption|omega) only[S0,rA,rQ,rB,rT,rE, *]))
 ·have e:szR l (szL aJ xs)=-1:=by unfold szR;rw[show (szL aJ xs)=xs.length+(xs.map aJ).sum from rfl,if_neg (by omega)]
  have d:decide (l-(xs.length:Int)<0)=true:=by simp;omega
  (refine aB ?_;repeat' (refine aA ?_ ?_<;>intro _<;>try simp (disch:=first|assumption|omega) only[S0,rA,rQ,rB,rT,rE, *]))
theorem Eak (xs:(List aQ))(hs:szL aJ xs<=1048576):Fun T 18 [rL xs]=some [rL xs]:=by
 rw[aK (t:=Db1) rfl];unfold Db1
 have hl:xs.length<=1048576:=Rbz bW hs;simp (disch:=first|assumption|omega) only[S0,rA,rQ,rB,rT,rE,sU,Tbf, *];rw[Fah xs rfl]
 ·(refine aB ?_;repeat' (refine aA ?_ ?_<;>intro _<;>try simp (disch:=first|assumption|omega) only[S0,rA,rQ,rB,rT,rE, *]))
 ·intro i ys hi hb e9 fS
  have hq:aJ (atI xs i)<=1048576:=by
   have:=bS (f:=aJ) (at_mem hi);omega
  (refine aB ?_;repeat' (refine aA ?_ ?_<;>intro _<;>try simp (disch:=first|assumption|omega) only[S0,rA,rQ,rB,rT,rE,aM,lS,Ha0, *]))
 ·intro ys fS
  (refine aB ?_;repeat' (refine aA ?_ ?_<;>intro _<;>try simp (disch:=first|assumption|omega) only[S0,rA,rQ,rB,rT,rE, *]))
theorem Ear (xs ys:(List aQ))(hs:szL aJ xs<=1099511627776):Fun T 123 [rL xs,rL ys]=some [.bool (decide (xs=ys))]:=by
 rw[aK (t:=La2) rfl];unfold La2
 have hx:xs.length<=1099511627776:=Rbz bW hs;by_cases hl:ys.length=xs.length
 ·simp (disch:=first|assumption|omega) only[S0,rA,rQ,rB,rT,rE, *]
  rw[Aaa 1 xs.length (fun i=>decide (atI xs i=atI ys i)) [.bool false],nH hl.symm]
  ·(refine aB ?_;repeat' (refine aA ?_ ?_<;>intro _<;>try simp (disch:=first|assumption|omega) only[S0,rA,rQ,rB,rT,rE, *]))
  ·intro i hi hp
   have hb:InB xs (i:Int):=aN.2 hi;have e9:InB ys (i:Int):=aN.2 (by omega);have h2:decide ((i:Int)<xs.length)=true:=by simp;omega
   have hq:aJ (atI xs i)<=1099511627776:=by
    have:=bS (f:=aJ) (at_mem hi);omega
   (refine aB ?_;repeat' (refine aA ?_ ?_<;>intro _<;>try simp (disch:=first|assumption|omega) only[S0,rA,rQ,rB,rT,rE,aM,xY, *]))
  ·intro i hi hp
   have hb:InB xs (i:Int):=aN.2 hi;have e9:InB ys (i:Int):=aN.2 (by omega);have h2:decide ((i:Int)<xs.length)=true:=by simp;omega
   have hq:aJ (atI xs i)<=1099511627776:=by
    have:=bS (f:=aJ) (at_mem hi);omega
   (refine aB ?_;repeat' (refine aA ?_ ?_<;>intro _<;>try simp (disch:=first|assumption|omega) only[S0,rA,rQ,rB,rT,rE,aM,xY, *]))
  ·have h2:decide ((xs.length:Int)<xs.length)=false:=by simp
   (refine aB ?_;repeat' (refine aA ?_ ?_<;>intro _<;>try simp (disch:=first|assumption|omega) only[S0,rA,rQ,rB,rT,rE, *]))
 ·have fS:((xs.length:Int)==(ys.length:Int))=false:=by simp;omega
  have e:=sP (fun h=>hl h.symm)
  (refine aB ?_;repeat' (refine aA ?_ ?_<;>intro _<;>try simp (disch:=first|assumption|omega) only[S0,rA,rQ,rB,rT,rE, *]))
theorem Ean (xs:(List aQ))(k:Int)(hk:0<=k)(hb:k+(ctL bJ xs:Nat)<=1152921504606846976)(hl:szL aJ xs<=1099511627776):Fun T 132 [rL xs,i64 k]=some [i64 (k+(ctL bJ xs:Nat)),rL (mkL bJ iP xs k)]:=by
 rw[aK (t:=Las) rfl];unfold Las
 have hx:xs.length<=1099511627776:=Rbz bW hl;simp (disch:=first|assumption|omega) only[S0,rA,rQ,rB,rT,rE, *];rw[nZ xs bJ iP k rfl rfl rfl hk hb ?_ ?_ (by omega)]
 ·(refine aB ?_;repeat' (refine aA ?_ ?_<;>intro _<;>try simp (disch:=first|assumption|omega) only[S0,rA,rQ,rB,rT,rE, *]))
 ·intro i ys m hi hy hb bh ig hm hc hlen
  have ec:m+1+1+1+1+1+1+1+1+1+1+(ctL (fun _=>1) (atI xs (i:Int)).first.deps:Nat)+1+(ctL (fun _=>1) (atI xs (i:Int)).attr.deps:Nat)+1+(ctL (fun _=>1) (atI xs (i:Int)).who:Nat)+(ctL aL (atI xs (i:Int)).seen:Nat)=m+(bJ (atI xs i):Nat):=by rw[nE];omega
  have hq:aJ (atI xs i)<=1099511627776:=by
   have:=bS (f:=aJ) (at_mem hi);omega
  rw[qM]at hq;rw[nE]at hc;have gS:(atI xs i).first.deps.length<=1099511627776:=by omega
  have di:(atI xs i).attr.deps.length<=1099511627776:=by omega
  have og:(atI xs i).who.length<=1099511627776:=by omega
  have mL:szL aG (atI xs i).seen<=1099511627776:=by omega
  (refine aB ?_;repeat' (refine aA ?_ ?_<;>intro _<;>try simp (disch:=first|assumption|omega|(simp only[gN];assumption)) only[S0,rA,rQ,rB,rT,rE,aM,lS,gN,Ha4,xW, *]))
  all_goals (try simp only[iP,ec])
 ·intro ys m hy bh
  (refine aB ?_;repeat' (refine aA ?_ ?_<;>intro _<;>try simp (disch:=first|assumption|omega) only[S0,rA,rQ,rB,rT,rE, *]))
theorem Eap (xs:(List aQ))(k:Int)(hk:0<=k)(hb:k+(ctL bJ xs:Nat)<=1152921504606846976)(hl:szL aJ xs<=1099511627776):Fun T 139 [rL (mkL bJ iP xs k),i64 k]=some [i64 (k+(ctL bJ xs:Nat))]:=by
 rw[aK (t:=Lal) rfl];unfold Lal
 have hx:xs.length<=1099511627776:=Rbz bW hl;simp (disch:=first|assumption|omega) only[S0,rA,rQ,rB,rT,rE, *];rw[oC xs bJ iP k rfl hk hb (by omega)]
 ·(refine aB ?_;repeat' (refine aA ?_ ?_<;>intro _<;>try simp (disch:=first|assumption|omega) only[S0,rA,rQ,rB,rT,rE, *]))
 ·intro i m hi hb hy bh ig hm hc hlen
  have ec:m+1+1+1+1+1+1+1+1+1+1+(ctL (fun _=>1) (atI xs (i:Int)).first.deps:Nat)+1+(ctL (fun _=>1) (atI xs (i:Int)).attr.deps:Nat)+1+(ctL (fun _=>1) (atI xs (i:Int)).who:Nat)+(ctL aL (atI xs (i:Int)).seen:Nat)=m+(bJ (atI xs i):Nat):=by rw[nE];omega
  have hq:aJ (atI xs i)<=1099511627776:=by
   have:=bS (f:=aJ) (at_mem hi);omega
  rw[qM]at hq;rw[nE]at hc;have gS:(atI xs i).first.deps.length<=1099511627776:=by omega
  have di:(atI xs i).attr.deps.length<=1099511627776:=by omega
  have og:(atI xs i).who.length<=1099511627776:=by omega
  have mL:szL aG (atI xs i).seen<=1099511627776:=by omega
  (refine aB ?_;repeat' (refine aA ?_ ?_<;>intro _<;>try simp (disch:=first|assumption|omega) only[S0,rA,rQ,rB,rT,rE,aM,Ha6,xX,iP,lt0, *]))
  all_goals (try simp only[ec])
 ·intro m hy bh
  (refine aB ?_;repeat' (refine aA ?_ ?_<;>intro _<;>try simp (disch:=first|assumption|omega) only[S0,rA,rQ,rB,rT,rE, *]))
theorem Cat (eV bc:Int)(ak:(List (List aZ)))(bq:(List aQ))(l:Int)(h0:0<=l)(h1:l<=1048576)(hw:Aax ⟨eV,⟨bc,ak⟩,bq⟩):Fun T 1 [i64 eV,i64 bc,rL ak,rL bq,i64 l]=some [i64 (szR l (bV ⟨eV,⟨bc,ak⟩,bq⟩))]:=by
 rw[aK (t:=tm1) rfl];unfold tm1
 unfold Aax at hw;simp only at hw;obtain⟨w0,w1⟩:=hw;by_cases c0:((aX ⟨bc,ak⟩:Nat):Int)<=l
 rotate_left
 ·have e0:szR (l) (aX ⟨bc,ak⟩)=-1:=if_neg c0
  have d0:decide ((-1:Int)<0)=true:=rfl;have e:szR l (bV ⟨eV,⟨bc,ak⟩,bq⟩)=-1:=by unfold szR bV;simp only[];split<;>omega
  (refine aB ?_;repeat' (refine aA ?_ ?_<;>intro _<;>try simp (disch:=first|assumption|omega) only[S0,rA,rQ,rB,rT,rE,nR,nS, *]))
 have e0:szR (l) (aX ⟨bc,ak⟩)=l-(aX ⟨bc,ak⟩:Nat):=if_pos c0;have d0:decide (l-((aX ⟨bc,ak⟩:Nat):Int)<0)=false:=by simp;omega
 by_cases c1:((szL aJ bq:Nat):Int)<=l-((aX ⟨bc,ak⟩:Nat):Int)
 rotate_left
 ·have e1:szR (l-((aX ⟨bc,ak⟩:Nat):Int)) (szL aJ bq)=-1:=if_neg c1
  have d1:decide ((-1:Int)<0)=true:=rfl;have e:szR l (bV ⟨eV,⟨bc,ak⟩,bq⟩)=-1:=by unfold szR bV;simp only[];split<;>omega
  (refine aB ?_;repeat' (refine aA ?_ ?_<;>intro _<;>try simp (disch:=first|assumption|omega) only[S0,rA,rQ,rB,rT,rE,nR,nS, *]))
 have e1:szR (l-((aX ⟨bc,ak⟩:Nat):Int)) (szL aJ bq)=l-((aX ⟨bc,ak⟩:Nat):Int)-(szL aJ bq:Nat):=if_pos c1;have d1:decide (l-((aX ⟨bc,ak⟩:Nat):Int)-((szL aJ bq:Nat):Int)<0)=false:=by simp;omega
 have e:szR l (bV ⟨eV,⟨bc,ak⟩,bq⟩)=l-((aX ⟨bc,ak⟩:Nat):Int)-((szL aJ bq:Nat):Int):=by unfold szR bV;simp only[];split<;>omega
 (refine aB ?_;repeat' (refine aA ?_ ?_<;>intro _<;>try simp (disch:=first|assumption|omega) only[S0,rA,rQ,rB,rT,rE,nR,nS, *]))
theorem Nah (eV bc:Int)(ak:(List (List aZ)))(bq:(List aQ))(hs:bV ⟨eV,⟨bc,ak⟩,bq⟩<=1048576):Fun T 10 [i64 eV,i64 bc,rL ak,rL bq]=some [i64 eV,i64 bc,rL ak,rL bq]:=by
 rw[aK (t:=Db9) rfl];unfold Db9
 unfold bV at hs;simp only at hs;have s0:aX ⟨bc,ak⟩<=1048576:=by omega
 have s1:szL aJ bq<=1048576:=by omega
 (refine aB ?_;repeat' (refine aA ?_ ?_<;>intro _<;>try simp (disch:=first|assumption|omega) only[S0,rA,rQ,rB,rT,rE,Eaj,Eak, *]))
theorem Nap (eV bc:Int)(ak:(List (List aZ)))(bq:(List aQ))(nF fv:Int)(ew:(List (List aZ)))(gx:(List aQ))(hs:bV ⟨eV,⟨bc,ak⟩,bq⟩<=1099511627776):Fun T 115 [i64 eV,i64 bc,rL ak,rL bq,i64 nF,i64 fv,rL ew,rL gx]=some [.bool (decide ((⟨eV,⟨bc,ak⟩,bq⟩:wQ)=⟨nF,⟨fv,ew⟩,gx⟩))]:=by
 rw[aK (t:=Maa) rfl];unfold Maa
 unfold bV at hs;simp only at hs;have s0:aX ⟨bc,ak⟩<=1099511627776:=by omega
 have s1:szL aJ bq<=1099511627776:=by omega
 have e:decide ((⟨eV,⟨bc,ak⟩,bq⟩:wQ)=⟨nF,⟨fv,ew⟩,gx⟩)=((eV==nF)&&decide ((⟨bc,ak⟩:aY)=⟨fv,ew⟩)&&decide ((bq:(List aQ))=gx)):=by
  simp only[wQ.mk.injEq,Sbh,Tbb,Tbi]
 rw[e]
 (refine aB ?_;repeat' (refine aA ?_ ?_<;>intro _<;>try simp (disch:=first|assumption|omega) only[S0,rA,rQ,rB,rT,rE,Eaq,Ear, *]))
theorem Nal (eV bc:Int)(ak:(List (List aZ)))(bq:(List aQ))(k:Int)(hk:0<=k)(hb:k+(ctL (ctL aL) ak+ctL bJ bq:Nat)<=1152921504606846976)(k7:szL (szL aG) ak<=1099511627776)(iz:szL aJ bq<=1099511627776):Fun T 127 [i64 eV,i64 bc,rL ak,rL bq,i64 k]=some [i64 (k+(ctL (ctL aL) ak:Nat)+(ctL bJ bq:Nat)),rL (mkL (ctL aL) (mkL aL dX) ak (k)),rL (mkL bJ iP bq (k+(ctL (ctL aL) ak:Nat)))]:=by
 rw[aK (t:=Lax) rfl];unfold Lax
 (refine aB ?_;repeat' (refine aA ?_ ?_<;>intro _<;>try simp (disch:=first|assumption|omega) only[S0,rA,rQ,rB,rT,rE,uL,Ean,Eam, *]))
theorem Nao (eV bc:Int)(ak:(List (List aZ)))(bq:(List aQ))(k:Int)(hk:0<=k)(hb:k+(ctL (ctL aL) ak+ctL bJ bq:Nat)<=1152921504606846976)(k7:szL (szL aG) ak<=1099511627776)(iz:szL aJ bq<=1099511627776):Fun T 134 [i64 eV,i64 bc,rL (mkL (ctL aL) (mkL aL dX) ak (k)),rL (mkL bJ iP bq (k+(ctL (ctL aL) ak:Nat))),i64 k]=some [i64 (k+(ctL (ctL aL) ak:Nat)+(ctL bJ bq:Nat))]:=by
 rw[aK (t:=Laq) rfl];unfold Laq
 have z1:decide (k+(ctL (ctL aL) ak:Nat)<0)=false:=by simp;omega
 have z2:decide (k+(ctL (ctL aL) ak:Nat)+(ctL bJ bq:Nat)<0)=false:=by simp;omega
 (refine aB ?_;repeat' (refine aA ?_ ?_<;>intro _<;>try simp (disch:=first|assumption|omega) only[S0,rA,rQ,rB,rT,rE,uM,Eap,Eao, *]))
theorem Cav (dw eS fa cX ep ba cU cx aw bb a8 a6 a7 ah:Int)(af:(List Int))(fg gb ga fY jk cS fe et cw cR cD cC cA cu:Int)(cm:(List Int))(hs:dJ ⟨dw,eS,fa,cX,ep,ba,cU,cx,⟨aw,bb,a8,a6,a7⟩,⟨ah,af⟩⟩<=1099511627776):Fun T 126 [i64 dw,i64 eS,i64 fa,i64 cX,i64 ep,i64 ba,i64 cU,i64 cx,i64 aw,i64 bb,i64 a8,i64 a6,i64 a7,i64 ah,rL af,i64 fg,i64 gb,i64 ga,i64 fY,i64 jk,i64 cS,i64 fe,i64 et,i64 cw,i64 cR,i64 cD,i64 cC,i64 cA,i64 cu,rL cm]=some [.bool (decide ((⟨dw,eS,fa,cX,ep,ba,cU,cx,⟨aw,bb,a8,a6,a7⟩,⟨ah,af⟩⟩:gH)=⟨fg,gb,ga,fY,jk,cS,fe,et,⟨cw,cR,cD,cC,cA⟩,⟨cu,cm⟩⟩))]:=by
 rw[aK (t:=Laz) rfl];unfold Laz
 unfold dJ at hs;simp only at hs;have s0:aI ⟨ah,af⟩<=1099511627776:=by omega
 have e:decide ((⟨dw,eS,fa,cX,ep,ba,cU,cx,⟨aw,bb,a8,a6,a7⟩,⟨ah,af⟩⟩:gH)=⟨fg,gb,ga,fY,jk,cS,fe,et,⟨cw,cR,cD,cC,cA⟩,⟨cu,cm⟩⟩)=((dw==fg)&&(eS==gb)&&(fa==ga)&&(cX==fY)&&(ep==jk)&&(ba==cS)&&(cU==fe)&&(cx==et)&&decide ((⟨aw,bb,a8,a6,a7⟩:wW)=⟨cw,cR,cD,cC,cA⟩)&&decide ((⟨ah,af⟩:bY)=⟨cu,cm⟩)):=by
  simp only[gH.mk.injEq,Sbh,Tbb,Tbi]
 rw[e]
 (refine aB ?_;repeat' (refine aA ?_ ?_<;>intro _<;>try simp (disch:=first|assumption|omega) only[S0,rA,rQ,rB,rT,rE,vL,qW, *]))
theorem Ha7 (xs ys:(List gH))(hs:szL dJ xs<=1099511627776):Fun T 125 [rL xs,rL ys]=some [.bool (decide (xs=ys))]:=by
 rw[aK (t:=La0) rfl];unfold La0
 have hx:xs.length<=1099511627776:=Rbz bW hs;by_cases hl:ys.length=xs.length
 ·simp (disch:=first|assumption|omega) only[S0,rA,rQ,rB,rT,rE, *]
  rw[Aaa 1 xs.length (fun i=>decide (atI xs i=atI ys i)) [.bool false],nH hl.symm]
  ·(refine aB ?_;repeat' (refine aA ?_ ?_<;>intro _<;>try simp (disch:=first|assumption|omega) only[S0,rA,rQ,rB,rT,rE, *]))
  ·intro i hi hp
   have hb:InB xs (i:Int):=aN.2 hi;have e9:InB ys (i:Int):=aN.2 (by omega);have h2:decide ((i:Int)<xs.length)=true:=by simp;omega
   have hq:dJ (atI xs i)<=1099511627776:=by
    have:=bS (f:=dJ) (at_mem hi);omega
   (refine aB ?_;repeat' (refine aA ?_ ?_<;>intro _<;>try simp (disch:=first|assumption|omega) only[S0,rA,rQ,rB,rT,rE,aM,Cav, *]))
  ·intro i hi hp
   have hb:InB xs (i:Int):=aN.2 hi;have e9:InB ys (i:Int):=aN.2 (by omega);have h2:decide ((i:Int)<xs.length)=true:=by simp;omega
   have hq:dJ (atI xs i)<=1099511627776:=by
    have:=bS (f:=dJ) (at_mem hi);omega
   (refine aB ?_;repeat' (refine aA ?_ ?_<;>intro _<;>try simp (disch:=first|assumption|omega) only[S0,rA,rQ,rB,rT,rE,aM,Cav, *]))
  ·have h2:decide ((xs.length:Int)<xs.length)=false:=by simp
   (refine aB ?_;repeat' (refine aA ?_ ?_<;>intro _<;>try simp (disch:=first|assumption|omega) only[S0,rA,rQ,rB,rT,rE, *]))
 ·have fS:((xs.length:Int)==(ys.length:Int))=false:=by simp;omega
  have e:=sP (fun h=>hl h.symm)
  (refine aB ?_;repeat' (refine aA ?_ ?_<;>intro _<;>try simp (disch:=first|assumption|omega) only[S0,rA,rQ,rB,rT,rE, *]))
theorem Ha3 (xs:(List gH))(k:Int)(hk:0<=k)(hb:k+(ctL fM xs:Nat)<=1152921504606846976)(hl:szL dJ xs<=1099511627776):Fun T 133 [rL xs,i64 k]=some [i64 (k+(ctL fM xs:Nat)),rL (mkL fM oP xs k)]:=by
 rw[aK (t:=Lar) rfl];unfold Lar
 have hx:xs.length<=1099511627776:=Rbz bW hl;simp (disch:=first|assumption|omega) only[S0,rA,rQ,rB,rT,rE, *];rw[nZ xs fM oP k rfl rfl rfl hk hb ?_ ?_ (by omega)]
 ·(refine aB ?_;repeat' (refine aA ?_ ?_<;>intro _<;>try simp (disch:=first|assumption|omega) only[S0,rA,rQ,rB,rT,rE, *]))
 ·intro i ys m hi hy hb bh ig hm hc hlen
  have ec:m+1+1+1+1+1+1+1+1+1+1+1+1+1+1+(ctL (fun _=>1) (atI xs (i:Int)).attr.deps:Nat)=m+(fM (atI xs i):Nat):=by rw[pY];omega
  have hq:dJ (atI xs i)<=1099511627776:=by
   have:=bS (f:=dJ) (at_mem hi);omega
  rw[zA]at hq;rw[pY]at hc;have di:(atI xs i).attr.deps.length<=1099511627776:=by omega
  (refine aB ?_;repeat' (refine aA ?_ ?_<;>intro _<;>try simp (disch:=first|assumption|omega|(simp only[gN];assumption)) only[S0,rA,rQ,rB,rT,rE,aM,lS,gN,Ha4, *]))
  all_goals (try simp only[oP,ec])
 ·intro ys m hy bh
  (refine aB ?_;repeat' (refine aA ?_ ?_<;>intro _<;>try simp (disch:=first|assumption|omega) only[S0,rA,rQ,rB,rT,rE, *]))
theorem Ha5 (xs:(List gH))(k:Int)(hk:0<=k)(hb:k+(ctL fM xs:Nat)<=1152921504606846976)(hl:szL dJ xs<=1099511627776):Fun T 140 [rL (mkL fM oP xs k),i64 k]=some [i64 (k+(ctL fM xs:Nat))]:=by
 rw[aK (t:=Lak) rfl];unfold Lak
 have hx:xs.length<=1099511627776:=Rbz bW hl;simp (disch:=first|assumption|omega) only[S0,rA,rQ,rB,rT,rE, *];rw[oC xs fM oP k rfl hk hb (by omega)]
 ·(refine aB ?_;repeat' (refine aA ?_ ?_<;>intro _<;>try simp (disch:=first|assumption|omega) only[S0,rA,rQ,rB,rT,rE, *]))
 ·intro i m hi hb hy bh ig hm hc hlen
  have ec:m+1+1+1+1+1+1+1+1+1+1+1+1+1+1+(ctL (fun _=>1) (atI xs (i:Int)).attr.deps:Nat)=m+(fM (atI xs i):Nat):=by rw[pY];omega
  have hq:dJ (atI xs i)<=1099511627776:=by
   have:=bS (f:=dJ) (at_mem hi);omega
  rw[zA]at hq;rw[pY]at hc;have di:(atI xs i).attr.deps.length<=1099511627776:=by omega
  (refine aB ?_;repeat' (refine aA ?_ ?_<;>intro _<;>try simp (disch:=first|assumption|omega) only[S0,rA,rQ,rB,rT,rE,aM,Ha6,oP,lt0, *]))
  all_goals (try simp only[ec])
 ·intro m hy bh
  (refine aB ?_;repeat' (refine aA ?_ ?_<;>intro _<;>try simp (disch:=first|assumption|omega) only[S0,rA,rQ,rB,rT,rE, *]))
theorem bC (x lo up:Int):Fun T 68 [i64 x,i64 lo,i64 up]=some [.bool (inR x lo up)]:=by
 rw[aK (t:=Cbm) rfl];unfold Cbm;unfold inR
 (refine aB ?_;repeat' (refine aA ?_ ?_<;>intro _<;>try simp (disch:=first|assumption|omega) only[S0,rA,rQ,rB,rT,rE, *]))
theorem bB (x lo up:Int):Fun T 25 [i64 x,i64 lo,i64 up]=some [.bool (inR x lo up)]:=by
 rw[aK (t:=Dbu) rfl];unfold Dbu;unfold inR
 (refine aB ?_;repeat' (refine aA ?_ ?_<;>intro _<;>try simp (disch:=first|assumption|omega) only[S0,rA,rQ,rB,rT,rE, *]))
theorem iB (n:Int):Fun T 60 [i64 n]=some [.bool (bM n)]:=by
 rw[aK (t:=Cbu) rfl];unfold Cbu;unfold bM
 (refine aB ?_;repeat' (refine aA ?_ ?_<;>intro _<;>try simp (disch:=first|assumption|omega) only[S0,rA,rQ,rB,rT,rE, *]))
theorem kK (n:Int):Fun T 23 [i64 n]=some [.bool (bM n)]:=by
 rw[aK (t:=Dbw) rfl];unfold Dbw;unfold bM
 (refine aB ?_;repeat' (refine aA ?_ ?_<;>intro _<;>try simp (disch:=first|assumption|omega) only[S0,rA,rQ,rB,rT,rE, *]))
theorem tH (n:Int):Fun T 70 [i64 n]=some [.bool (inR n 0 3)]:=by
 rw[aK (t:=Cbk) rfl];unfold Cbk
 (refine aB ?_;repeat' (refine aA ?_ ?_<;>intro _<;>try simp (disch:=first|assumption|omega) only[S0,rA,rQ,rB,rT,rE,bC, *]))
theorem sV (n:Int):Fun T 31 [i64 n]=some [.bool (inR n 0 3)]:=by
 rw[aK (t:=Dbo) rfl];unfold Dbo
 (refine aB ?_;repeat' (refine aA ?_ ?_<;>intro _<;>try simp (disch:=first|assumption|omega) only[S0,rA,rQ,rB,rT,rE,bB, *]))
theorem Aa3 (k i f t a:Int):Fun T 30 [i64 k,i64 i,i64 f,i64 t,i64 a]=some [i64 (Ea5 ⟨k,i,f,t,a⟩)]:=by
 rw[aK (t:=Dbp) rfl];unfold Dbp;unfold Ea5
 (refine aB ?_;repeat' (refine aA ?_ ?_<;>intro _<;>try simp (disch:=first|assumption|omega) only[S0,rA,rQ,rB,rT,rE,sV,bB, *]))
theorem fB (k i f t a:Int):Fun T 29 [i64 k,i64 i,i64 f,i64 t,i64 a]=some [.bool (wT ⟨k,i,f,t,a⟩)]:=by
 rw[aK (t:=Dbq) rfl];unfold Dbq;unfold wT
 (refine aB ?_;repeat' (refine aA ?_ ?_<;>intro _<;>try simp (disch:=first|assumption|omega) only[S0,rA,rQ,rB,rT,rE,Aa3,rZ,Ua0, *]))
 all_goals (refine Gaz ?_;simp only[Qb6,Sbv,Rb0,Bool.not_eq_false',Tb0,Tbu,Rbk,beq_iff_eq,beq_eq_false_iff_ne,decide_eq_true_eq,decide_eq_false_iff_not,ne_eq]at *;grind)
theorem dS (k i f t a:Int):Fun T 69 [i64 k,i64 i,i64 f,i64 t,i64 a]=some [.bool (wT ⟨k,i,f,t,a⟩)]:=by
 rw[aK (t:=Cbl) rfl];unfold Cbl;unfold wT
 (refine aB ?_;repeat' (refine aA ?_ ?_<;>intro _<;>try simp (disch:=first|assumption|omega) only[S0,rA,rQ,rB,rT,rE,bC,tH,rZ, *]))
theorem bR (n rep no:Int)(hg:bM n=true):Fun T 35 [i64 n,i64 rep,i64 no]=some [.bool (inst n rep no)]:=by
 rw[aK (t:=Dbk) rfl];unfold Dbk;unfold inst
 have hn:=aV hg
 (refine aB ?_;repeat' (refine aA ?_ ?_<;>intro _<;>try simp (disch:=first|assumption|omega) only[S0,rA,rQ,rB,rT,rE,bB, *]))
theorem bE (n rep no:Int):Fun T 79 [i64 n,i64 rep,i64 no]=some [.bool (bM n&&inst n rep no)]:=by
 rw[aK (t:=Cbb) rfl];unfold Cbb;unfold inst
 cases hg:bM n
 ·(refine aB ?_;repeat' (refine aA ?_ ?_<;>intro _<;>try simp (disch:=first|assumption|omega) only[S0,rA,rQ,rB,rT,rE,iB, *]))
 have hn:=aV hg
 (refine aB ?_;repeat' (refine aA ?_ ?_<;>intro _<;>try simp (disch:=first|assumption|omega) only[S0,rA,rQ,rB,rT,rE,iB,bC, *]))
theorem Eac (xs:List Int)(lo up:Int)(hx:xs.length<=1099511627776):Fun T 33 [rL xs,i64 lo,i64 up]=some [.bool (xs.all fun x=>inR x lo up)]:=by
 rw[aK (t:=Dbm) rfl];unfold Dbm
 simp (disch:=first|assumption|omega) only[S0,rA,rQ,rB,rT,rE,aM, *];rw[Pb9 1 xs (fun x=>inR x lo up) [.bool false]]
 ·(refine aB ?_;repeat' (refine aA ?_ ?_<;>intro _<;>try simp (disch:=first|assumption|omega) only[S0,rA,rQ,rB,rT,rE, *]))
 ·intro i hi hb hl hp
  (refine aB ?_;repeat' (refine aA ?_ ?_<;>intro _<;>try simp (disch:=first|assumption|omega) only[S0,rA,rQ,rB,rT,rE,aM,bB, *]))
 ·intro i hi hb hl hp
  (refine aB ?_;repeat' (refine aA ?_ ?_<;>intro _<;>try simp (disch:=first|assumption|omega) only[S0,rA,rQ,rB,rT,rE,aM,bB, *]))
 ·intro hl
  (refine aB ?_;repeat' (refine aA ?_ ?_<;>intro _<;>try simp (disch:=first|assumption|omega) only[S0,rA,rQ,rB,rT,rE, *]))
theorem jJ (n s:Int)(xs:List Int)(hx:xs.length<=1099511627776):Fun T 32 [i64 n,i64 s,rL xs]=some [.bool (fF n ⟨s,xs⟩)]:=by
 rw[aK (t:=Dbn) rfl];unfold Dbn;unfold fF
 (refine aB ?_;repeat' (refine aA ?_ ?_<;>intro _<;>try simp (disch:=first|assumption|omega) only[S0,rA,rQ,rB,rT,rE,bB,Eac, *]))
theorem kQ (x:Int):Fun T 74 [i64 x]=some [.bool (!inR x 0 6)]:=by
 rw[aK (t:=Cbg) rfl];unfold Cbg
 (refine aB ?_;repeat' (refine aA ?_ ?_<;>intro _<;>try simp (disch:=first|assumption|omega) only[S0,rA,rQ,rB,rT,rE,bC, *]))
theorem vN  (xs:List Int)(hx:xs.length<=1099511627776):Fun T 73 [rL xs]=some [i64 (ixF (fun x=>!inR x 0 6) xs)]:=by
 rw[aK (t:=Cbh) rfl];unfold Cbh
 simp (disch:=first|assumption|omega) only[S0,rA,rQ,rB,rT,rE,aM, *];rw[Bag 1 xs (fun x=>!inR x 0 6) (fun i=>[i64 i])]
 ·cases h:xs.any (fun x=>!inR x 0 6)
  ·have e:ixF (fun x=>!inR x 0 6) xs=-1:=by
    have h2:=eB (fun x=>!inR x 0 6) xs;rw[h]at h2;unfold ixF at h2 ⊢;split at h2<;>simp_all
   rw[e];simp (disch:=first|assumption|omega) only[S0,rA,rQ,rB,rT,rE]
  ·simp (disch:=first|assumption|omega) only[S0,rA,rQ,rB,rT,rE]
 ·intro i hi hb hl hp
  (refine aB ?_;repeat' (refine aA ?_ ?_<;>intro _<;>try simp (disch:=first|assumption|omega) only[S0,rA,rQ,rB,rT,rE,aM,kQ, *]))
 ·intro i hi hb hl hp
  (refine aB ?_;repeat' (refine aA ?_ ?_<;>intro _<;>try simp (disch:=first|assumption|omega) only[S0,rA,rQ,rB,rT,rE,aM,kQ, *]))
 ·intro hl
  (refine aB ?_;repeat' (refine aA ?_ ?_<;>intro _<;>try simp (disch:=first|assumption|omega) only[S0,rA,rQ,rB,rT,rE, *]))
theorem vY  (xs:List Int)(hx:xs.length<=1099511627776):Fun T 72 [rL xs]=some [.bool (xs.any (fun x=>!inR x 0 6))]:=by
 rw[aK (t:=Cbi) rfl];unfold Cbi
 (refine aB ?_;repeat' (refine aA ?_ ?_<;>intro _<;>try simp (disch:=first|assumption|omega) only[S0,rA,rQ,rB,rT,rE,vN,eB, *]))
theorem gD (n s:Int)(xs:List Int)(hx:xs.length<=1099511627776):Fun T 71 [i64 n,i64 s,rL xs]=some [.bool (bM n&&fF n ⟨s,xs⟩)]:=by
 rw[aK (t:=Cbj) rfl];unfold Cbj;unfold fF
 have e:xs.any (fun x=>!inR x 0 6)=!xs.all fun x=>inR x 0 6:=by rw[Sb2]
 (refine aB ?_;repeat' (refine aA ?_ ?_<;>intro _<;>try simp (disch:=first|assumption|omega) only[S0,rA,rQ,rB,rT,rE,iB,bC,vY,e,Ubm, *]))
theorem Aa4 (xs ys:List Int)(hx:xs.length<=1099511627776):Fun T 28 [rL xs,rL ys]=some [.bool (decide (xs=ys))]:=by
 rw[aK (t:=Dbr) rfl];unfold Dbr
 by_cases hl:ys.length=xs.length
 ·simp (disch:=first|assumption|omega) only[S0,rA,rQ,rB,rT,rE, *]
  rw[Aaa 1 xs.length (fun i=>decide (atI xs i=atI ys i)) [.bool false],nH hl.symm]
  ·(refine aB ?_;repeat' (refine aA ?_ ?_<;>intro _<;>try simp (disch:=first|assumption|omega) only[S0,rA,rQ,rB,rT,rE, *]))
  ·intro i hi hp
   have hb:InB xs (i:Int):=aN.2 hi;have e9:InB ys (i:Int):=aN.2 (by omega);have h2:decide ((i:Int)<xs.length)=true:=by simp;omega
   have h3:(atI xs i==atI ys i)=true:=by simpa using hp
   (refine aB ?_;repeat' (refine aA ?_ ?_<;>intro _<;>try simp (disch:=first|assumption|omega) only[S0,rA,rQ,rB,rT,rE,aM, *]))
  ·intro i hi hp
   have hb:InB xs (i:Int):=aN.2 hi;have e9:InB ys (i:Int):=aN.2 (by omega);have h2:decide ((i:Int)<xs.length)=true:=by simp;omega
   have h3:(atI xs i==atI ys i)=false:=by simpa using hp
   (refine aB ?_;repeat' (refine aA ?_ ?_<;>intro _<;>try simp (disch:=first|assumption|omega) only[S0,rA,rQ,rB,rT,rE,aM, *]))
  ·have h2:decide ((xs.length:Int)<xs.length)=false:=by simp
   (refine aB ?_;repeat' (refine aA ?_ ?_<;>intro _<;>try simp (disch:=first|assumption|omega) only[S0,rA,rQ,rB,rT,rE, *]))
 ·have fS:((xs.length:Int)==(ys.length:Int))=false:=by simp;omega
  have e:=sP (fun h=>hl h.symm)
  (refine aB ?_;repeat' (refine aA ?_ ?_<;>intro _<;>try simp (disch:=first|assumption|omega) only[S0,rA,rQ,rB,rT,rE, *]))
theorem slices_Equal_int (xs ys:List Int)(hx:xs.length<=1099511627776):Fun T 77 [rL xs,rL ys]=some [.bool (decide (xs=ys))]:=by
 rw[aK (t:=Cbd) rfl];unfold Cbd
 by_cases hl:ys.length=xs.length
 ·simp (disch:=first|assumption|omega) only[S0,rA,rQ,rB,rT,rE, *]
  rw[Aaa 1 xs.length (fun i=>decide (atI xs i=atI ys i)) [.bool false],nH hl.symm]
  ·(refine aB ?_;repeat' (refine aA ?_ ?_<;>intro _<;>try simp (disch:=first|assumption|omega) only[S0,rA,rQ,rB,rT,rE, *]))
  ·intro i hi hp
   have hb:InB xs (i:Int):=aN.2 hi;have e9:InB ys (i:Int):=aN.2 (by omega);have h2:decide ((i:Int)<xs.length)=true:=by simp;omega
   have h3:(atI xs i==atI ys i)=true:=by simpa using hp
   (refine aB ?_;repeat' (refine aA ?_ ?_<;>intro _<;>try simp (disch:=first|assumption|omega) only[S0,rA,rQ,rB,rT,rE,aM, *]))
  ·intro i hi hp
   have hb:InB xs (i:Int):=aN.2 hi;have e9:InB ys (i:Int):=aN.2 (by omega);have h2:decide ((i:Int)<xs.length)=true:=by simp;omega
   have h3:(atI xs i==atI ys i)=false:=by simpa using hp
   (refine aB ?_;repeat' (refine aA ?_ ?_<;>intro _<;>try simp (disch:=first|assumption|omega) only[S0,rA,rQ,rB,rT,rE,aM, *]))
  ·have h2:decide ((xs.length:Int)<xs.length)=false:=by simp
   (refine aB ?_;repeat' (refine aA ?_ ?_<;>intro _<;>try simp (disch:=first|assumption|omega) only[S0,rA,rQ,rB,rT,rE, *]))
 ·have fS:((xs.length:Int)==(ys.length:Int))=false:=by simp;omega
  have e:=sP (fun h=>hl h.symm)
  (refine aB ?_;repeat' (refine aA ?_ ?_<;>intro _<;>try simp (disch:=first|assumption|omega) only[S0,rA,rQ,rB,rT,rE, *]))
theorem jK (s s':Int)(xs ys:List Int)(hx:xs.length<=1099511627776):Fun T 27 [i64 s,rL xs,i64 s',rL ys]=some [.bool (decide ((⟨s,xs⟩:bY)=⟨s',ys⟩))]:=by
 rw[aK (t:=Dbs) rfl];unfold Dbs
 have e:decide ((⟨s,xs⟩:bY)=⟨s',ys⟩)=(s==s'&&decide (xs=ys)):=by simp[bY.mk.injEq,Sbh]
 (refine aB ?_;repeat' (refine aA ?_ ?_<;>intro _<;>try simp (disch:=first|assumption|omega) only[S0,rA,rQ,rB,rT,rE,Aa4,e, *]))
theorem bX (s s':Int)(xs ys:List Int)(hx:xs.length<=1099511627776):Fun T 76 [i64 s,rL xs,i64 s',rL ys]=some [.bool (decide ((⟨s,xs⟩:bY)=⟨s',ys⟩))]:=by
 rw[aK (t:=Cbe) rfl];unfold Cbe
 have e:decide ((⟨s,xs⟩:bY)=⟨s',ys⟩)=(s==s'&&decide (xs=ys)):=by simp[bY.mk.injEq,Sbh]
 (refine aB ?_;repeat' (refine aA ?_ ?_<;>intro _<;>try simp (disch:=first|assumption|omega) only[S0,rA,rQ,rB,rT,rE,slices_Equal_int,e, *]))
theorem fH (n:Int)(hg:bM n=true):Fun T 26 [i64 n]=some [i64 (none0 n).seq,rL (none0 n).deps]:=by
 rw[aK (t:=Dbt) rfl];unfold Dbt;unfold none0
 have hn:=aV hg
 (refine aB ?_;repeat' (refine aA ?_ ?_<;>intro _<;>try simp (disch:=first|assumption|omega) only[S0,rA,rQ,rB,rT,rE,sU, *]))
theorem bI (n:Int)(hg:bM n=true):Fun T 75 [i64 n]=some [i64 (none0 n).seq,rL (none0 n).deps]:=by
 rw[aK (t:=Cbf) rfl];unfold Cbf;unfold none0
 have hn:=aV hg
 (refine aB ?_;repeat' (refine aA ?_ ?_<;>intro _<;>try simp (disch:=first|assumption|omega) only[S0,rA,rQ,rB,rT,rE,sU, *]))
theorem lD (n tS sg sta k i f t a sq:Int)(xs:List Int)(hg:bM n=true)(hx:xs.length<=1099511627776) :
  Fun T 24 [i64 n,i64 tS,i64 sg,i64 sta,i64 k,i64 i,i64 f,i64 t,i64 a,i64 sq,rL xs]=some [.bool (rowOk n ⟨tS,sg,sta,⟨k,i,f,t,a⟩,⟨sq,xs⟩⟩)]:=by
 rw[aK (t:=Dbv) rfl];unfold Dbv;unfold rowOk
 (refine aB ?_;repeat' (refine aA ?_ ?_<;>intro _<;>try simp (disch:=first|assumption|omega) only[S0,rA,rQ,rB,rT,rE,bB,rZ,fH,jK,fB,jJ, *]))
theorem oK (n tS sg sta k i f t a sq:Int)(xs:List Int)(hg:bM n=true)(hx:xs.length<=1099511627776) :
  Fun T 67 [i64 n,i64 tS,i64 sg,i64 sta,i64 k,i64 i,i64 f,i64 t,i64 a,i64 sq,rL xs]=some [.bool (rowOk n ⟨tS,sg,sta,⟨k,i,f,t,a⟩,⟨sq,xs⟩⟩)]:=by
 rw[aK (t:=Cbn) rfl];unfold Cbn;unfold rowOk
 have h1:=@Ab2 ⟨k,i,f,t,a⟩;have h2:=Cao hg;have h3:decide ((⟨sq,xs⟩:bY)=none0 n)=true->fF n ⟨sq,xs⟩=true:=fun h=>by rw[of_decide_eq_true h];exact h2
 (refine aB ?_;repeat' (refine aA ?_ ?_<;>intro _<;>try simp (disch:=first|assumption|omega) only[S0,rA,rQ,rB,rT,rE,bC,rZ,bI,bX,dS,gD, *]))
 all_goals (refine Gaz ?_;simp only[Qb6,Sbv,Rb0,Bool.not_eq_false',Tb0,Tbu,Rbk,beq_iff_eq,beq_eq_false_iff_ne,decide_eq_true_eq,decide_eq_false_iff_not,ne_eq]at *;grind)
theorem slices_Clone_int (xs:List Int)(hx:xs.length<=10000000000):Fun T 96 [rL xs]=some [rL xs]:=by
 rw[Fac (e:=Qbm) rfl]
 cases xs with
 |nil=>rfl
 | cons x xs =>
  show Fun (Daj [(96,.tm Wa8)]) 96 [rL (x::xs)]=_
  rw[aK (t:=Wa8) rfl];unfold Wa8;have rl:(x::xs).length<=100000000000:=by omega
  have h0:(aS.mk 1 0).run []=some [.rows 1 []]:=rfl;have h1:(x::xs).isEmpty=false:=rfl;simp (disch:=first|assumption|omega) only[SA,SB,SC,SP,SQ,SZ,reduceIte,reduceCtorEq,Nat.reduceAdd,Ubk,Mbg,Gbf,h0,h1,jW]
theorem fK (s:Int)(xs:List Int)(hx:xs.length<=10000000000):Fun T 95 [i64 s,rL xs]=some [i64 s,rL xs]:=by
 rw[aK (t:=Wa9) rfl];unfold Wa9
 (refine aB ?_;repeat' (refine aA ?_ ?_<;>intro _<;>try simp (disch:=first|assumption|omega) only[S0,rA,rQ,rB,rT,rE,slices_Clone_int, *]))
theorem eQ (n:Int)(rows:List (List aZ))(hs:gQ rows):Fun T 22 [i64 n,rL rows]=some [.bool (eH ⟨n,rows⟩)]:=by
 rw[aK (t:=Dbx) rfl];unfold Dbx;unfold eH
 obtain⟨ky,gk⟩:=hs;cases hg:bM n
 ·(refine aB ?_;repeat' (refine aA ?_ ?_<;>intro _<;>try simp (disch:=first|assumption|omega) only[S0,rA,rQ,rB,rT,rE,kK, *]))
 cases hl:(rows.length:Int)==n
 ·(refine aB ?_;repeat' (refine aA ?_ ?_<;>intro _<;>try simp (disch:=first|assumption|omega) only[S0,rA,rQ,rB,rT,rE,kK, *]))
 simp (disch:=first|assumption|omega) only[S0,rA,rQ,rB,rT,rE,kK, *];rw[Jbg 1 rows (fun l=>l.all (fun r=>rowOk n r)&&decide ((l.length:Int)<=6)) [.bool false]]
 ·(refine aB ?_;repeat' (refine aA ?_ ?_<;>intro _<;>try simp (disch:=first|assumption|omega) only[S0,rA,rQ,rB,rT,rE, *]))
 ·intro i hi hb bh hm
  obtain⟨ou,lR⟩:=gk _ hm;simp (disch:=first|assumption|omega) only[S0,rA,rQ,rB,rT,rE,aM, *];rw[Jbg 3 (atI rows i) (fun r=>rowOk n r) [.bool false]]
  ·have e:decide (6<((atI rows (i:Int)).length:Int))=!decide (((atI rows (i:Int)).length:Int)<=6):=by
    by_cases h:((atI rows (i:Int)).length:Int)<=6
    ·simp[h]
    ·simp[h];omega
   (refine aB ?_;repeat' (refine aA ?_ ?_<;>intro _<;>try simp (disch:=first|assumption|omega) only[S0,rA,rQ,rB,rT,rE,e, *]))
  ·intro j hj gC jz uh
   have hq3:=lR _ uh;have hq4:(atI (atI rows (i:Int)) (j:Int)).attr.deps.length<=1099511627776:=by omega
   (refine aB ?_;repeat' (refine aA ?_ ?_<;>intro _<;>try simp (disch:=first|assumption|omega) only[S0,rA,rQ,rB,rT,rE,aM,lD, *]))
  ·intro ka
   (refine aB ?_;repeat' (refine aA ?_ ?_<;>intro _<;>try simp (disch:=first|assumption|omega) only[S0,rA,rQ,rB,rT,rE, *]))
 ·intro ka
  (refine aB ?_;repeat' (refine aA ?_ ?_<;>intro _<;>try simp (disch:=first|assumption|omega) only[S0,rA,rQ,rB,rT,rE, *]))
theorem iC (ca cG cq bk b9 br bw b2 bl:Int)(az:(List Int))(n:Int)(rows:List (List aZ))(hg:bM n=true)(hx:az.length<=1099511627776):Fun T 66 [i64 ca,i64 cG,i64 cq,i64 bk,i64 b9,i64 br,i64 bw,i64 b2,i64 bl,rL az,i64 n,rL rows]=some [.bool (!rowOk n ⟨ca,cG,cq,⟨bk,b9,br,bw,b2⟩,⟨bl,az⟩⟩)]:=by
 rw[aK (t:=Cbo) rfl];unfold Cbo
 (refine aB ?_;repeat' (refine aA ?_ ?_<;>intro _<;>try simp (disch:=first|assumption|omega) only[S0,rA,rQ,rB,rT,rE,oK, *]))
theorem oV (n:Int)(rows:List (List aZ))(hg:bM n=true)(xs:List aZ)(hx:xs.length<=1099511627776)(hq:∀ x∈xs,x.attr.deps.length<=1099511627776):Fun T 65 [rL xs,i64 n,rL rows]=some [i64 (ixF (fun r=>!rowOk n r) xs)]:=by
 rw[aK (t:=Cbp) rfl];unfold Cbp
 simp (disch:=first|assumption|omega) only[S0,rA,rQ,rB,rT,rE,aM, *];rw[Bag 1 xs (fun r=>!rowOk n r) (fun i=>[i64 i])]
 ·cases h:xs.any (fun r=>!rowOk n r)
  ·have e:ixF (fun r=>!rowOk n r) xs=-1:=by
    have h2:=eB (fun r=>!rowOk n r) xs;rw[h]at h2;unfold ixF at h2 ⊢;split at h2<;>simp_all
   rw[e];simp (disch:=first|assumption|omega) only[S0,rA,rQ,rB,rT,rE]
  ·simp (disch:=first|assumption|omega) only[S0,rA,rQ,rB,rT,rE]
 ·intro i hi hb hl hp
  have j0:=hq _ (at_mem hi)
  try simp only at j0 hp
  (refine aB ?_;repeat' (refine aA ?_ ?_<;>intro _<;>try simp (disch:=first|assumption|omega) only[S0,rA,rQ,rB,rT,rE,aM,iC, *]))
 ·intro i hi hb hl hp
  have j0:=hq _ (at_mem hi)
  try simp only at j0 hp
  (refine aB ?_;repeat' (refine aA ?_ ?_<;>intro _<;>try simp (disch:=first|assumption|omega) only[S0,rA,rQ,rB,rT,rE,aM,iC, *]))
 ·intro hl
  (refine aB ?_;repeat' (refine aA ?_ ?_<;>intro _<;>try simp (disch:=first|assumption|omega) only[S0,rA,rQ,rB,rT,rE, *]))
theorem pG (n:Int)(rows:List (List aZ))(hg:bM n=true)(xs:List aZ)(hx:xs.length<=1099511627776)(hq:∀ x∈xs,x.attr.deps.length<=1099511627776):Fun T 64 [rL xs,i64 n,rL rows]=some [.bool (xs.any (fun r=>!rowOk n r))]:=by
 rw[aK (t:=Cbq) rfl];unfold Cbq
 (refine aB ?_;repeat' (refine aA ?_ ?_<;>intro _<;>try simp (disch:=first|assumption|omega) only[S0,rA,rQ,rB,rT,rE,oV,eB, *]))
theorem jU (l:List aZ)(n:Int)(rows:List (List aZ))(hg:bM n=true)(hx:l.length<=1099511627776)(hq:∀ x∈l,x.attr.deps.length<=1099511627776):Fun T 63 [rL l,i64 n,rL rows]=some [.bool (decide (6<(l.length:Int))||l.any fun r=>!rowOk n r)]:=by
 rw[aK (t:=Cbr) rfl];unfold Cbr
 (refine aB ?_;repeat' (refine aA ?_ ?_<;>intro _<;>try simp (disch:=first|assumption|omega) only[S0,rA,rQ,rB,rT,rE,pG, *]))
theorem tF (n:Int)(rows:List (List aZ))(hg:bM n=true)(xs:List (List aZ))(hx:xs.length<=1099511627776)(hq:∀ x∈xs,x.length<=1099511627776/\∀ y∈x,y.attr.deps.length<=1099511627776):Fun T 62 [rL xs,i64 n,rL rows]=some [i64 (ixF (fun l=>decide (6<(l.length:Int))||l.any fun r=>!rowOk n r) xs)]:=by
 rw[aK (t:=Cbs) rfl];unfold Cbs
 simp (disch:=first|assumption|omega) only[S0,rA,rQ,rB,rT,rE,aM, *];rw[Bag 1 xs (fun l=>decide (6<(l.length:Int))||l.any fun r=>!rowOk n r) (fun i=>[i64 i])]
 ·cases h:xs.any (fun l=>decide (6<(l.length:Int))||l.any fun r=>!rowOk n r)
  ·have e:ixF (fun l=>decide (6<(l.length:Int))||l.any fun r=>!rowOk n r) xs=-1:=by
    have h2:=eB (fun l=>decide (6<(l.length:Int))||l.any fun r=>!rowOk n r) xs;rw[h]at h2;unfold ixF at h2 ⊢;split at h2<;>simp_all
   rw[e];simp (disch:=first|assumption|omega) only[S0,rA,rQ,rB,rT,rE]
  ·simp (disch:=first|assumption|omega) only[S0,rA,rQ,rB,rT,rE]
 ·intro i hi hb hl hp
  have j0:=hq _ (at_mem hi)
  try simp only at j0 hp
  obtain⟨ou,lR⟩:=j0
  (refine aB ?_;repeat' (refine aA ?_ ?_<;>intro _<;>try simp (disch:=first|assumption|omega) only[S0,rA,rQ,rB,rT,rE,aM,jU, *]))
 ·intro i hi hb hl hp
  have j0:=hq _ (at_mem hi)
  try simp only at j0 hp
  obtain⟨ou,lR⟩:=j0
  (refine aB ?_;repeat' (refine aA ?_ ?_<;>intro _<;>try simp (disch:=first|assumption|omega) only[S0,rA,rQ,rB,rT,rE,aM,jU, *]))
 ·intro hl
  (refine aB ?_;repeat' (refine aA ?_ ?_<;>intro _<;>try simp (disch:=first|assumption|omega) only[S0,rA,rQ,rB,rT,rE, *]))
theorem tK (n:Int)(rows:List (List aZ))(hg:bM n=true)(xs:List (List aZ))(hx:xs.length<=1099511627776)(hq:∀ x∈xs,x.length<=1099511627776/\∀ y∈x,y.attr.deps.length<=1099511627776):Fun T 61 [rL xs,i64 n,rL rows]=some [.bool (xs.any (fun l=>decide (6<(l.length:Int))||l.any fun r=>!rowOk n r))]:=by
 rw[aK (t:=Cbt) rfl];unfold Cbt
 (refine aB ?_;repeat' (refine aA ?_ ?_<;>intro _<;>try simp (disch:=first|assumption|omega) only[S0,rA,rQ,rB,rT,rE,tF,eB, *]))
theorem iJ (n:Int)(rows:List (List aZ))(hs:gQ rows):Fun T 59 [i64 n,rL rows]=some [.bool (eH ⟨n,rows⟩)]:=by
 rw[aK (t:=Cbw) rfl];unfold Cbw;unfold eH
 obtain⟨ky,gk⟩:=hs;have zg:∀ x∈rows,x.length<=1099511627776/\∀ y∈x,y.attr.deps.length<=1099511627776:=fun x hx=>⟨by have:=(gk x hx).1;omega,fun y hy=>by have:=(gk x hx).2 y hy;omega⟩
 have e:(rows.any fun l=>decide (6<(l.length:Int))||l.any fun r=>!rowOk n r)=!rows.all fun l=>l.all (fun r=>rowOk n r)&&decide ((l.length:Int)<=6):=by
  rw[Sb2];congr 1;funext l;rw[<- Sb2,Bool.not_and,Bool.or_comm];congr 1;by_cases h:(l.length:Int)<=6
  ·simp[h]
  ·simp[h];omega
 (refine aB ?_;repeat' (refine aA ?_ ?_<;>intro _<;>try simp (disch:=first|assumption|omega) only[S0,rA,rQ,rB,rT,rE,iB,tK,e,Ubm, *]))
theorem uB (xs:List Int)(hx:xs.length<=10000000000):Fun T 41 [rL xs]=some [rL xs]:=by
 rw[aK (t:=Dbe) rfl];unfold Dbe
 have h0:(aS.mk 1 0).run []=some [.rows 1 []]:=rfl
 (refine aB ?_;repeat' (refine aA ?_ ?_<;>intro _<;>try simp (disch:=first|assumption|omega) only[S0,rA,rQ,rB,rT,rE,h0,jW, *]))
theorem eP (s:Int)(xs:List Int)(hx:xs.length<=10000000000):Fun T 40 [i64 s,rL xs]=some [i64 s,rL xs]:=by
 rw[aK (t:=Dbf) rfl];unfold Dbf
 (refine aB ?_;repeat' (refine aA ?_ ?_<;>intro _<;>try simp (disch:=first|assumption|omega) only[S0,rA,rQ,rB,rT,rE,uB, *]))
theorem fZ (ca cG cq bk b9 br bw b2 bl:Int)(az:(List Int))(hx:az.length<=10000000000):Fun T 39 [i64 ca,i64 cG,i64 cq,i64 bk,i64 b9,i64 br,i64 bw,i64 b2,i64 bl,rL az]=some [i64 ca,i64 cG,i64 cq,i64 bk,i64 b9,i64 br,i64 bw,i64 b2,i64 bl,rL az]:=by
 rw[aK (t:=Dbg) rfl];unfold Dbg
 (refine aB ?_;repeat' (refine aA ?_ ?_<;>intro _<;>try simp (disch:=first|assumption|omega) only[S0,rA,rQ,rB,rT,rE,eP, *]))
theorem gL (ca cG cq bk b9 br bw b2 bl:Int)(az:(List Int))(hx:az.length<=10000000000):Fun T 94 [i64 ca,i64 cG,i64 cq,i64 bk,i64 b9,i64 br,i64 bw,i64 b2,i64 bl,rL az]=some [i64 ca,i64 cG,i64 cq,i64 bk,i64 b9,i64 br,i64 bw,i64 b2,i64 bl,rL az]:=by
 rw[aK (t:=Bbw) rfl];unfold Bbw
 (refine aB ?_;repeat' (refine aA ?_ ?_<;>intro _<;>try simp (disch:=first|assumption|omega) only[S0,rA,rQ,rB,rT,rE,fK, *]))
theorem iT (n:Int)(rows:List (List aZ))(rep no:Int)(hg:bM n=true)(hs:gQ rows)(hb:InB rows rep)(h1:1<=no)(h2:no<=1000):Fun T 38 [i64 n,rL rows,i64 rep,i64 no]=some [i64 (eY ⟨n,rows⟩ rep no).ballot,i64 (eY ⟨n,rows⟩ rep no).vote,i64 (eY ⟨n,rows⟩ rep no).state,i64 (eY ⟨n,rows⟩ rep no).cmd.kind,i64 (eY ⟨n,rows⟩ rep no).cmd.id,i64 (eY ⟨n,rows⟩ rep no).cmd.src,i64 (eY ⟨n,rows⟩ rep no).cmd.dst,i64 (eY ⟨n,rows⟩ rep no).cmd.amt,i64 (eY ⟨n,rows⟩ rep no).attr.seq,rL (eY ⟨n,rows⟩ rep no).attr.deps]:=by
 rw[aK (t:=Dbh) rfl];unfold Dbh;unfold eY row0
 have hq:=hs.2 _ (jQ hb);by_cases h:no<=(atI rows rep).length
 ·have h3:decide (((atI rows rep).length:Int)<no)=false:=by simp;omega
  have gC:InB (atI rows rep) (no-1):=by unfold InB;omega
  have lR:=hq.2 _ (jQ gC)
  (refine aB ?_;repeat' (refine aA ?_ ?_<;>intro _<;>try simp (disch:=first|assumption|omega) only[S0,rA,rQ,rB,rT,rE,aM,fZ, *]))
 ·have h3:decide (((atI rows rep).length:Int)<no)=true:=by simp;omega
  (refine aB ?_;repeat' (refine aA ?_ ?_<;>intro _<;>try simp (disch:=first|assumption|omega) only[S0,rA,rQ,rB,rT,rE,aM,fH, *]))
theorem iI (n:Int)(rows:List (List aZ))(rep no:Int)(hg:bM n=true)(hs:gQ rows)(hb:InB rows rep)(h1:1<=no)(h2:no<=1000):Fun T 93 [i64 n,rL rows,i64 rep,i64 no]=some [i64 (eY ⟨n,rows⟩ rep no).ballot,i64 (eY ⟨n,rows⟩ rep no).vote,i64 (eY ⟨n,rows⟩ rep no).state,i64 (eY ⟨n,rows⟩ rep no).cmd.kind,i64 (eY ⟨n,rows⟩ rep no).cmd.id,i64 (eY ⟨n,rows⟩ rep no).cmd.src,i64 (eY ⟨n,rows⟩ rep no).cmd.dst,i64 (eY ⟨n,rows⟩ rep no).cmd.amt,i64 (eY ⟨n,rows⟩ rep no).attr.seq,rL (eY ⟨n,rows⟩ rep no).attr.deps]:=by
 rw[aK (t:=Bbx) rfl];unfold Bbx;unfold eY row0
 have hq:=hs.2 _ (jQ hb);by_cases h:no<=(atI rows rep).length
 ·have h3:decide (no<=((atI rows rep).length:Int))=true:=by simp;omega
  have gC:InB (atI rows rep) (no-1):=by unfold InB;omega
  have lR:=hq.2 _ (jQ gC)
  (refine aB ?_;repeat' (refine aA ?_ ?_<;>intro _<;>try simp (disch:=first|assumption|omega) only[S0,rA,rQ,rB,rT,rE,aM,gL, *]))
 ·have h3:decide (no<=((atI rows rep).length:Int))=false:=by simp;omega
  (refine aB ?_;repeat' (refine aA ?_ ?_<;>intro _<;>try simp (disch:=first|assumption|omega) only[S0,rA,rQ,rB,rT,rE,aM,bI, *]))
theorem oD (n:Int)(rows:List (List aZ))(rep no:Int)(hs:gQ rows):Fun T 43 [i64 n,rL rows,i64 rep,i64 no]=some [.bool (eH ⟨n,rows⟩&&inst n rep no)]:=by
 rw[aK (t:=Dbc) rfl];unfold Dbc
 cases ht:eH ⟨n,rows⟩
 ·(refine aB ?_;repeat' (refine aA ?_ ?_<;>intro _<;>try simp (disch:=first|assumption|omega) only[S0,rA,rQ,rB,rT,rE,eQ, *]))
 ·have hg:bM n=true:=bL ht
  (refine aB ?_;repeat' (refine aA ?_ ?_<;>intro _<;>try simp (disch:=first|assumption|omega) only[S0,rA,rQ,rB,rT,rE,eQ,bR, *]))
theorem Ba0 (n:Int)(rows:List (List aZ))(rep no me:Int)(ht:eH ⟨n,rows⟩=true)(hi:inst n rep no=true)(hm:inR me 0 (n-1)=true)(hs:gQ rows):Fun T 44 [i64 n,rL rows,i64 rep,i64 no,i64 me]=some [i64 (nb (eY ⟨n,rows⟩ rep no).ballot me)]:=by
 rw[aK (t:=Dbb) rfl];unfold Dbb
 have hg:bM n=true:=bL ht;have hn:=aV hg;have hb:InB rows rep:=kC ht hi;have hr:=kG hi;have hq:=xE (Aa0 ht hi);have uh:=Saq hm;simp (disch:=first|assumption|omega) only[S0,rA,rQ,rB,rT,rE,iT, *];generalize (eY ⟨n,rows⟩ rep no).ballot=b at hq ⊢;rw[wI (T:=T) (.yield 1,[i64 (nb b me)]) (fun k:Int=>(nb b me-k).toNat) (fun k=>k % 8=me/\8+me<=k/\k<=nb b me) (fun k=>[i64 k]) (8+me) rfl ⟨by omega,by omega,by unfold nb;split<;>omega⟩ (by simp)]
 ·(refine aB ?_;repeat' (refine aA ?_ ?_<;>intro _<;>try simp (disch:=first|assumption|omega) only[S0,rA,rQ,rB,rT,rE, *]))
 ·rintro k ⟨h1,h2,h3⟩
  have h4:nb b me<=20000:=by unfold nb;split<;>omega
  by_cases hk:k<=b
  ·have kd:decide (k<=b)=true:=by simpa using hk
   have h5:k+8<=nb b me:=by unfold nb;split<;>omega
   exact .inl ⟨k+8,by (refine aB ?_;repeat' (refine aA ?_ ?_<;>intro _<;>try simp (disch:=first|assumption|omega) only[S0,rA,rQ,rB,rT,rE, *])),⟨by omega,by omega,h5⟩,by omega⟩
  ·have kd:decide (k<=b)=false:=by simpa using hk
   have h5:k=nb b me:=by unfold nb at h3 ⊢;split at h3<;>split<;>omega
   subst h5;exact .inr (by (refine aB ?_;repeat' (refine aA ?_ ?_<;>intro _<;>try simp (disch:=first|assumption|omega) only[S0,rA,rQ,rB,rT,rE, *])))
theorem oL (n:Int)(rows:List (List aZ))(rep no me:Int)(ht:eH ⟨n,rows⟩=true)(hi:inst n rep no=true)(hm:inR me 0 (n-1)=true)(hs:gQ rows):Fun T 97 [i64 n,rL rows,i64 rep,i64 no,i64 me]=some [i64 (nb (eY ⟨n,rows⟩ rep no).ballot me),.bool (decide (nb (eY ⟨n,rows⟩ rep no).ballot me<=9999))]:=by
 rw[aK (t:=Bbv) rfl];unfold Bbv
 have hg:bM n=true:=bL ht;have hn:=aV hg;have hb:InB rows rep:=kC ht hi;have hr:=kG hi;have hq:=xE (Aa0 ht hi);have uh:=Saq hm;simp (disch:=first|assumption|omega) only[S0,rA,rQ,rB,rT,rE,iI, *];generalize (eY ⟨n,rows⟩ rep no).ballot=b at hq ⊢;rw[wI (T:=T) (.yield 1,[i64 (nb b me)]) (fun k:Int=>(nb b me-k).toNat) (fun k=>b+1<=k/\8<=k/\k<=nb b me) (fun k=>[i64 k]) (max (b+1) 8) rfl ⟨by omega,by omega,by unfold nb;split<;>omega⟩ (by simp)]
 ·(refine aB ?_;repeat' (refine aA ?_ ?_<;>intro _<;>try simp (disch:=first|assumption|omega) only[S0,rA,rQ,rB,rT,rE, *]))
 ·rintro k ⟨h1,h2,h3⟩
  have h4:nb b me<=20000:=by unfold nb;split<;>omega
  by_cases hk:k % 8=me
  ·have kd:(k % 8==me)=true:=by simpa using hk
   have h5:k=nb b me:=by unfold nb at h3 ⊢;split at h3<;>split<;>omega
   subst h5;exact .inr (by (refine aB ?_;repeat' (refine aA ?_ ?_<;>intro _<;>try simp (disch:=first|assumption|omega) only[S0,rA,rQ,rB,rT,rE, *])))
  ·have kd:(k % 8==me)=false:=by simpa using hk
   have h5:k+1<=nb b me:=by unfold nb at h3 ⊢;split at h3<;>split<;>omega
   exact .inl ⟨k+1,by (refine aB ?_;repeat' (refine aA ?_ ?_<;>intro _<;>try simp (disch:=first|assumption|omega) only[S0,rA,rQ,rB,rT,rE, *])),⟨by omega,by omega,h5⟩,by omega⟩
theorem mW (n:Int)(rows:List (List aZ))(rep no me:Int)(hs:gQ rows):Fun T 42 [i64 n,rL rows,i64 rep,i64 no,i64 me]=some [i64 (nbR ⟨n,rows⟩ rep no me).1,.bool (nbR ⟨n,rows⟩ rep no me).2]:=by
 rw[aK (t:=Dbd) rfl];unfold Dbd;unfold nbR
 cases ht:eH ⟨n,rows⟩
 ·(refine aB ?_;repeat' (refine aA ?_ ?_<;>intro _<;>try simp (disch:=first|assumption|omega) only[S0,rA,rQ,rB,rT,rE,oD, *]))
 have hg:bM n=true:=bL ht;have hn:=aV hg;cases hi:inst n rep no
 ·(refine aB ?_;repeat' (refine aA ?_ ?_<;>intro _<;>try simp (disch:=first|assumption|omega) only[S0,rA,rQ,rB,rT,rE,oD, *]))
 cases hm:inR me 0 (n-1)
 ·(refine aB ?_;repeat' (refine aA ?_ ?_<;>intro _<;>try simp (disch:=first|assumption|omega) only[S0,rA,rQ,rB,rT,rE,oD,bB, *]))
 by_cases h:nb (eY ⟨n,rows⟩ rep no).ballot me<=9999
 ·have h2:decide (9999<nb (eY ⟨n,rows⟩ rep no).ballot me)=false:=by simp;omega
  (refine aB ?_;repeat' (refine aA ?_ ?_<;>intro _<;>try simp (disch:=first|assumption|omega) only[S0,rA,rQ,rB,rT,rE,oD,bB,Ba0, *]))
 ·have h2:decide (9999<nb (eY ⟨n,rows⟩ rep no).ballot me)=true:=by simp;omega
  (refine aB ?_;repeat' (refine aA ?_ ?_<;>intro _<;>try simp (disch:=first|assumption|omega) only[S0,rA,rQ,rB,rT,rE,oD,bB,Ba0, *]))
theorem Eab (n:Int)(hg:bM n=true):Fun T 47 [i64 n]=some [i64 n,rL (Rbs n.toNat ([]:List aZ))]:=by
 rw[aK (t:=Cb8) rfl];unfold Cb8
 have hn:=aV hg
 (refine aB ?_;repeat' (refine aA ?_ ?_<;>intro _<;>try simp (disch:=first|assumption|omega) only[S0,rA,rQ,rB,rT,rE,sU, *]))
theorem uA (n:Int)(rows:List (List aZ))(hg:bM n=true)(hl:(rows.length:Int)=n)(hs:gQ rows):Fun T 46 [i64 n,rL rows]=some [i64 n,rL rows]:=by
 rw[aK (t:=Cb9) rfl];unfold Cb9
 obtain⟨ky,gk⟩:=hs;have hn:=aV hg;have e0:Rbs n.toNat ([]:List aZ)=upto [] rows 0:=by rw[Ga8];congr 1;omega
 simp (disch:=first|assumption|omega) only[SA,SB,SC,SP,SQ,SZ,reduceIte,reduceCtorEq,Nat.reduceAdd,Ubk,Eab];rw[uK rows.length (fun i=>[i64 i,rL (upto [] rows i)]) (.yield 1,[rL rows]) (by rw[e0];rfl) (by simp)]
 ·(refine aB ?_;repeat' (refine aA ?_ ?_<;>intro _<;>try simp (disch:=first|assumption|omega) only[S0,rA,rQ,rB,rT,rE, *]))
 ·intro i hi bh
  have hb:InB rows (i:Int):=aN.2 hi;have hq:=gk _ (at_mem hi);have hu:(upto [] rows i).length=rows.length:=Lag [] rows (Nat.le_of_lt hi);have pH:InB (upto [] rows i) (i:Int):=aN.2 (by rw[hu];exact hi)
  have oc:upto [] rows i=dK (upto [] rows i) i ((atI rows (i:Int)).take 0):=by
   have:atI (upto [] rows i) (i:Int)=[]:=by
    unfold upto;rw[wE,List.getD_eq_getElem?_getD,List.getElem?_append_right (by rw[Rbv];omega),List.getElem?_replicate];split<;>rfl
   have h3:=Ead pH;rw[this]at h3;rw[List.take_zero];exact h3.symm
  have wx:dK (upto [] rows i) i (atI rows (i:Int))=upto [] rows (i+1):=by
   rw[dK];exact Laf [] rows (by rw[bN hi];exact List.getElem?_eq_getElem hi)
  obtain⟨ou,lR⟩:=hq;have hr:rows.length<=10:=by omega
  simp (disch:=first|assumption|omega) only[S0,rA,rQ,rB,rT,rE,aM,bh];rw[uK (atI rows (i:Int)).length (fun j=>[i64 j,rL (dK (upto [] rows i) i ((atI rows (i:Int)).take j))]) (.yield 3,[rL (upto [] rows (i+1))]) (by rw[<- oc];rfl) (by simp)]
  ·clear hu oc wx
   simp (disch:=first|assumption|omega) only[S0,rA,rQ,rB,rT,rE]
  ·intro j hj jz
   have gC:InB (atI rows (i:Int)) (j:Int):=aN.2 hj;have hq3:=lR _ (at_mem hj)
   have ha:atI (dK (upto [] rows i) (i:Int) ((atI rows (i:Int)).take j)) (i:Int)=(atI rows (i:Int)).take j:=by
    have:=gN;exact this.1 pH
   have yx:InB (dK (upto [] rows i) (i:Int) ((atI rows (i:Int)).take j)) (i:Int):=aN.2 (by rw[dK,Tbg,hu];exact hi);have la:=take_at hj;have gu:((atI rows (i:Int)).take j).length+1<=100000000000:=by rw[Rbv];omega
   have a5g:((atI rows (i:Int)).take j).length+([atI (atI rows (i:Int)) (j:Int)]:List aZ).length<=100000000000:=gu;clear hu oc wx;simp (disch:=first|assumption|omega) only[S0,rA,rQ,rB,rT,rE,aM,lS,uT,jW,Aaw,gN,fZ,jz,ha,la]
  ·intro jz
   rw[Sbw];clear hu oc
   (refine aB ?_;repeat' (refine aA ?_ ?_<;>intro _<;>try simp (disch:=first|assumption|omega) only[S0,rA,rQ,rB,rT,rE, *]))
 ·intro bh
  rw[Lah];simp (disch:=first|assumption|omega) only[S0,rA,rQ,rB,rT,rE,bh]
theorem nD (xs:List aZ)(hs:oF xs):Fun T 101 [rL xs]=some [rL xs]:=by
 rw[aK (t:=Mak) rfl];unfold Mak
 have h0:(aS.mk 10 0).run []=some [rL ([]:List aZ)]:=rfl;obtain⟨ky,gk⟩:=hs;simp (disch:=first|assumption|omega) only[S0,rA,rQ,rB,rT,rE,h0];rw[uK xs.length (fun i=>[rL (xs.take i),i64 i]) (.yield 1,[rL xs]) rfl (by simp)]
 ·simp (disch:=first|assumption|omega) only[S0,rA,rQ,rB,rT,rE]
 ·intro i hi bh
  have hb:InB xs (i:Int):=aN.2 hi;have hq:=gk _ (at_mem hi);have la:=take_at hi;have gu:(xs.take i).length+([atI xs (i:Int)]:List aZ).length<=100000000000:=by rw[Rbv];simp only[Rbw,Rb8];omega
  simp (disch:=first|assumption|omega) only[S0,rA,rQ,rB,rT,rE,aM,uT,jW,gL,bh,la]
 ·intro bh
  rw[Sbw];simp (disch:=first|assumption|omega) only[S0,rA,rQ,rB,rT,rE,bh]
theorem nU (n:Int)(rows:List (List aZ))(hs:gQ rows):Fun T 100 [i64 n,rL rows]=some [i64 n,rL rows]:=by
 rw[aK (t:=Mal) rfl];unfold Mal
 obtain⟨ky,gk⟩:=hs;simp (disch:=first|assumption|omega) only[S0,rA,rQ,rB,rT,rE];rw[uK rows.length (fun i=>[i64 i,rL (rows.take i)]) (.yield 1,[rL rows]) rfl (by simp)]
 ·simp (disch:=first|assumption|omega) only[S0,rA,rQ,rB,rT,rE]
 ·intro i hi bh
  have hb:InB rows (i:Int):=aN.2 hi;have hq:=gk _ (at_mem hi);have la:=take_at hi;have gu:(rows.take i).length+([atI rows (i:Int)]:List (List aZ)).length<=100000000000:=by rw[Rbv];simp only[Rbw,Rb8];omega
  simp (disch:=first|assumption|omega) only[S0,rA,rQ,rB,rT,rE,aM,uT,jW,nD,bh,la]
 ·intro bh
  rw[Sbw];simp (disch:=first|assumption|omega) only[S0,rA,rQ,rB,rT,rE,bh]
theorem tZ (n:Int)(rows:List (List aZ))(rep no:Int)(ca cG cq bk b9 br bw b2 bl:Int)(az:(List Int))(hg:bM n=true)(hl:(rows.length:Int)=n)(hs:gQ rows)(hb:InB rows rep)(h1:1<=no)(h2:no<=1000)(hx:az.length<=10000000000) :
  Fun T 52 [i64 n,rL rows,i64 rep,i64 no,i64 ca,i64 cG,i64 cq,i64 bk,i64 b9,i64 br,i64 bw,i64 b2,i64 bl,rL az]=some [i64 (wY ⟨n,rows⟩ rep no ⟨ca,cG,cq,⟨bk,b9,br,bw,b2⟩,⟨bl,az⟩⟩).n,rL (wY ⟨n,rows⟩ rep no ⟨ca,cG,cq,⟨bk,b9,br,bw,b2⟩,⟨bl,az⟩⟩).rows]:=by
 rw[aK (t:=Cb3) rfl];unfold Cb3;unfold wY
 have hq:=hs.2 _ (jQ hb);have ou:=hq.1;simp (maxSteps:=2000000) (disch:=first|assumption|omega) only[SA,SB,SC,SP,SQ,SZ,reduceIte,reduceCtorEq,Nat.reduceAdd,Ubk,uA,hg,hl];rw[wI (T:=T) (.yield 1,[rL (dK rows rep (ext n (atI rows rep) no))]) (fun j:Nat=>(no-(atI rows rep).length).toNat-j) (fun j=>j<=(no-(atI rows rep).length).toNat) (fun j=>[rL (dK rows rep (atI rows rep++Rbs j (row0 n)))]) 0 (by rw[Tb8,Rb1,Ead hb];rfl) (by omega) (by simp)]
 ·have gC:InB (dK rows rep (ext n (atI rows rep) no)) rep:=by unfold InB;rw[dK,Tbg];exact hb
  have ha:atI (dK rows rep (ext n (atI rows rep) no)) rep=ext n (atI rows rep) no:=gN.1 hb;have oY:InB (ext n (atI rows rep) no) (no-1):=by unfold InB;rw[Ea1 (by omega)];omega
  simp (disch:=first|assumption|omega) only[S0,rA,rQ,rB,rT,rE,aM,lS,gN,fZ,ha]
 ·intro j hj
  have gC:InB (dK rows rep (atI rows rep++Rbs j (row0 n))) rep:=by unfold InB;rw[dK,Tbg];exact hb
  have ha:atI (dK rows rep (atI rows rep++Rbs j (row0 n))) rep=atI rows rep++Rbs j (row0 n):=gN.1 hb;have hlen:((atI rows rep++Rbs j (row0 n)).length:Int)=(atI rows rep).length+j:=by simp
  have lp:(atI rows rep++Rbs j (row0 n))++[row0 n]=atI rows rep++Rbs (j+1) (row0 n):=by rw[Rbd,<- Ubt]
  have gu:(atI rows rep++Rbs j (row0 n)).length+([row0 n]:List aZ).length<=100000000000:=by simp only[Rbh,Sbu,Rbw,Rb8];omega
  unfold row0 at lp gu ha gC hlen ⊢;by_cases hc:(atI rows rep).length+j<no
  ·have gl:decide (((atI rows rep).length:Int)+j<no)=true:=by simpa using hc
   refine .inl ⟨j+1,?_,by omega,by omega⟩;simp (disch:=first|assumption|omega) only[S0,rA,rQ,rB,rT,rE,aM,lS,uT,jW,Aaw,gN,fH,ha,hlen,gl,lp]
  ·have gl:decide (((atI rows rep).length:Int)+j<no)=false:=by simpa using hc
   have kq:j=(no-(atI rows rep).length).toNat:=by omega
   refine .inr ?_;simp (disch:=first|assumption|omega) only[S0,rA,rQ,rB,rT,rE,aM,lS,uT,jW,Aaw,gN,ha,hlen,gl];rw[kq];rfl
theorem tJ (n:Int)(rows:List (List aZ))(rep no:Int)(ca cG cq bk b9 br bw b2 bl:Int)(az:(List Int))(hg:bM n=true)(hs:gQ rows)(hb:InB rows rep)(h1:1<=no)(h2:no<=1000)(hx:az.length<=10000000000) :
  Fun T 110 [i64 rep,i64 no,i64 ca,i64 cG,i64 cq,i64 bk,i64 b9,i64 br,i64 bw,i64 b2,i64 bl,rL az,i64 n,rL rows]=some [i64 (wY ⟨n,rows⟩ rep no ⟨ca,cG,cq,⟨bk,b9,br,bw,b2⟩,⟨bl,az⟩⟩).n,rL (wY ⟨n,rows⟩ rep no ⟨ca,cG,cq,⟨bk,b9,br,bw,b2⟩,⟨bl,az⟩⟩).rows]:=by
 rw[aK (t:=Xaa) rfl];unfold Xaa;unfold wY
 have hq:=hs.2 _ (jQ hb);have ou:=hq.1;simp (disch:=first|assumption|omega) only[S0,rA,rQ,rB,rT,rE];rw[wI (T:=T) (.yield 1,[rL (dK rows rep (ext n (atI rows rep) no))]) (fun j:Nat=>(no-(atI rows rep).length).toNat-j) (fun j=>j<=(no-(atI rows rep).length).toNat) (fun j=>[rL (dK rows rep (atI rows rep++Rbs j (row0 n)))]) 0 (by rw[Tb8,Rb1,Ead hb];rfl) (by omega) (by simp)]
 ·have gC:InB (dK rows rep (ext n (atI rows rep) no)) rep:=by unfold InB;rw[dK,Tbg];exact hb
  have ha:atI (dK rows rep (ext n (atI rows rep) no)) rep=ext n (atI rows rep) no:=gN.1 hb;have oY:InB (ext n (atI rows rep) no) (no-1):=by unfold InB;rw[Ea1 (by omega)];omega
  simp (disch:=first|assumption|omega) only[S0,rA,rQ,rB,rT,rE,aM,lS,gN,gL,ha]
 ·intro j hj
  have gC:InB (dK rows rep (atI rows rep++Rbs j (row0 n))) rep:=by unfold InB;rw[dK,Tbg];exact hb
  have ha:atI (dK rows rep (atI rows rep++Rbs j (row0 n))) rep=atI rows rep++Rbs j (row0 n):=gN.1 hb;have hlen:((atI rows rep++Rbs j (row0 n)).length:Int)=(atI rows rep).length+j:=by simp
  have lp:(atI rows rep++Rbs j (row0 n))++[row0 n]=atI rows rep++Rbs (j+1) (row0 n):=by rw[Rbd,<- Ubt]
  have gu:(atI rows rep++Rbs j (row0 n)).length+([row0 n]:List aZ).length<=100000000000:=by simp only[Rbh,Sbu,Rbw,Rb8];omega
  unfold row0 at lp gu ha gC hlen ⊢;by_cases hc:(atI rows rep).length+j<no
  ·have gl:decide (((atI rows rep).length:Int)+j<no)=true:=by simpa using hc
   refine .inl ⟨j+1,?_,by omega,by omega⟩;simp (disch:=first|assumption|omega) only[S0,rA,rQ,rB,rT,rE,aM,lS,uT,jW,Aaw,gN,bI,ha,hlen,gl,lp]
  ·have gl:decide (((atI rows rep).length:Int)+j<no)=false:=by simpa using hc
   have kq:j=(no-(atI rows rep).length).toNat:=by omega
   refine .inr ?_;simp (disch:=first|assumption|omega) only[S0,rA,rQ,rB,rT,rE,aM,lS,uT,jW,Aaw,gN,ha,hlen,gl];rw[kq];rfl
theorem lF (xs:List Int)(n:Int)(hx:xs.length<=1099511627776):Fun T 37 [rL xs,i64 n]=some [.bool (Fa0 xs n)]:=by
 rw[aK (t:=Dbi) rfl];unfold Dbi;unfold Fa0
 simp (disch:=first|assumption|omega) only[S0,rA,rQ,rB,rT,rE];rw[Bag 1 xs (fun x=>x==n) (fun _=>[.bool true])]
 ·(refine aB ?_;repeat' (refine aA ?_ ?_<;>intro _<;>try simp (disch:=first|assumption|omega) only[S0,rA,rQ,rB,rT,rE, *]))
 ·intro i hi hb hl hp
  (refine aB ?_;repeat' (refine aA ?_ ?_<;>intro _<;>try simp (disch:=first|assumption|omega) only[S0,rA,rQ,rB,rT,rE,aM, *]))
 ·intro i hi hb hl hp
  (refine aB ?_;repeat' (refine aA ?_ ?_<;>intro _<;>try simp (disch:=first|assumption|omega) only[S0,rA,rQ,rB,rT,rE,aM, *]))
 ·intro hl
  simp (disch:=first|assumption|omega) only[S0,rA,rQ,rB,rT,rE,hl]
theorem slices_Index_int (xs:List Int)(n:Int)(hx:xs.length<=1099511627776):Fun T 86 [rL xs,i64 n]=some [i64 (ixF (fun x=>n==x) xs)]:=by
 rw[aK (t:=Bb4) rfl];unfold Bb4
 simp (disch:=first|assumption|omega) only[S0,rA,rQ,rB,rT,rE];rw[Bag 1 xs (fun x=>n==x) (fun i=>[i64 i])]
 ·cases h:xs.any (fun x=>n==x)
  ·have e:ixF (fun x=>n==x) xs=-1:=by
    have h2:=eB (fun x=>n==x) xs;rw[h]at h2;unfold ixF at h2 ⊢;split at h2<;>simp_all
   rw[e];simp (disch:=first|assumption|omega) only[S0,rA,rQ,rB,rT,rE]
  ·simp (disch:=first|assumption|omega) only[S0,rA,rQ,rB,rT,rE]
 ·intro i hi hb hl hp
  (refine aB ?_;repeat' (refine aA ?_ ?_<;>intro _<;>try simp (disch:=first|assumption|omega) only[S0,rA,rQ,rB,rT,rE,aM, *]))
 ·intro i hi hb hl hp
  (refine aB ?_;repeat' (refine aA ?_ ?_<;>intro _<;>try simp (disch:=first|assumption|omega) only[S0,rA,rQ,rB,rT,rE,aM, *]))
 ·intro hl
  simp (disch:=first|assumption|omega) only[S0,rA,rQ,rB,rT,rE,hl]
theorem slices_Contains_int (xs:List Int)(n:Int)(hx:xs.length<=1099511627776):Fun T 85 [rL xs,i64 n]=some [.bool (Fa0 xs n)]:=by
 rw[aK (t:=Bb5) rfl];unfold Bb5
 have e:Fa0 xs n=xs.any fun x=>n==x:=by
  unfold Fa0;congr 1;funext x;rw[Ubs,beq_iff_eq,beq_iff_eq];exact eq_comm
 simp (disch:=first|assumption|omega) only[S0,rA,rQ,rB,rT,rE,slices_Index_int,eB,e]
theorem rR (a:Int):Fun T 92 [i64 a]=some [.bool false]:=by
 rw[aK (t:=Bby) rfl];unfold Bby
 simp (disch:=first|assumption|omega) only[S0,rA,rQ,rB,rT,rE]
theorem mD (a b:Int):Fun T 91 [i64 a,i64 b]=some [i64 (Uaz a b)]:=by
 rw[aK (t:=Bbz) rfl];unfold Bbz;unfold Uaz
 by_cases h:a<b
 ·simp (disch:=first|assumption|omega) only[S0,rA,rQ,rB,rT,rE,rR,h]
 ·by_cases h2:b<a
  ·simp (disch:=first|assumption|omega) only[S0,rA,rQ,rB,rT,rE,rR,h,h2]
  ·simp (disch:=first|assumption|omega) only[S0,rA,rQ,rB,rT,rE,rR,h,h2]
theorem gX (xs ys:List Int)(hx:xs.length<=1099511627776)(hy:ys.length<=1099511627776):Fun T 90 [rL xs,rL ys]=some [i64 (Wav xs ys)]:=by
 rw[aK (t:=Bb0) rfl];unfold Bb0;unfold Wav
 simp (disch:=first|assumption|omega) only[S0,rA,rQ,rB,rT,rE];rw[wI (T:=T) (match Gay xs ys with|some c=>(.ret,[i64 c])|none=>(.yield 1,[])) (fun i:Nat=>xs.length-i) (fun i=>i<=xs.length/\Gay (xs.drop i) (ys.drop i)=Gay xs ys) (fun i=>[i64 i]) 0 rfl ⟨by omega,by simp⟩ (by split<;>simp)]
 ·cases Gay xs ys with
  |some c=>simp (disch:=first|assumption|omega) only[S0,rA,rQ,rB,rT,rE]
  | none =>
   cases h:decide ((xs.length:Int)<ys.length)
   ·simp (disch:=first|assumption|omega) only[S0,rA,rQ,rB,rT,rE,h,Rbk]
   ·simp (disch:=first|assumption|omega) only[S0,rA,rQ,rB,rT,rE,h]
 ·rintro i ⟨hi,he⟩
  rcases Rbu i xs.length with bh|mo
  ·have h1:decide ((i:Int)<xs.length)=true:=by simp;omega
   have hb:InB xs (i:Int):=aN.2 bh
   rcases Rbu i ys.length with jz|hge2
   ·have h2:decide ((ys.length:Int)<=i)=false:=by simp;omega
    have gC:InB ys (i:Int):=aN.2 jz;rw[Qa6 bh jz]at he;by_cases h3:atI xs (i:Int)<atI ys (i:Int)
    ·rw[if_pos h3]at he
     have e:Uaz (atI xs (i:Int)) (atI ys (i:Int))=-1:=if_pos h3;rw[<- he];refine .inr ?_;simp (disch:=first|assumption|omega) only[S0,rA,rQ,rB,rT,rE,aM,mD,h1,h2,e]
    ·rw[if_neg h3]at he
     by_cases h4:atI ys (i:Int)<atI xs (i:Int)
     ·rw[if_pos h4]at he
      have e:Uaz (atI xs (i:Int)) (atI ys (i:Int))=1:=by unfold Uaz;rw[if_neg h3,if_pos h4]
      rw[<- he];refine .inr ?_;simp (disch:=first|assumption|omega) only[S0,rA,rQ,rB,rT,rE,aM,mD,h1,h2,e]
     ·rw[if_neg h4]at he
      have e:Uaz (atI xs (i:Int)) (atI ys (i:Int))=0:=by unfold Uaz;rw[if_neg h3,if_neg h4]
      refine .inl ⟨i+1,?_,⟨by omega,he⟩,by omega⟩;simp (disch:=first|assumption|omega) only[S0,rA,rQ,rB,rT,rE,aM,mD,h1,h2,e]
   ·have h2:decide ((ys.length:Int)<=i)=true:=by simp;omega
    rw[Uay bh hge2]at he;rw[<- he];refine .inr ?_;simp (disch:=first|assumption|omega) only[S0,rA,rQ,rB,rT,rE,aM,h1,h2]
  ·have h1:decide ((i:Int)<xs.length)=false:=by simp;omega
   rw[List.drop_eq_nil_of_le mo]at he;have zo:Gay xs ys=none:=by rw[<- he];rfl
   rw[zo];refine .inr ?_;simp (disch:=first|assumption|omega) only[S0,rA,rQ,rB,rT,rE,h1]
theorem dU (xs:List Int)(lo up:Int)(hx:xs.length<=10000000000):Fun T 36 [rL xs,i64 lo,i64 up]=some [.bool (Haq xs lo up)]:=by
 rw[aK (t:=Dbj) rfl];unfold Dbj;unfold Haq
 simp (disch:=first|assumption|omega) only[S0,rA,rQ,rB,rT,rE];rw[Vas 1 xs.length (fun i=>inR (atI xs (i:Int)) lo up&&Aab xs i) [.bool false]]
 ·(refine aB ?_;repeat' (refine aA ?_ ?_<;>intro _<;>try simp (disch:=first|assumption|omega) only[S0,rA,rQ,rB,rT,rE, *]))
 ·intro i hi bh
  have hb:InB xs (i:Int):=aN.2 hi;unfold Aab;cases h1:inR (atI xs (i:Int)) lo up
  ·simp (disch:=first|assumption|omega) only[S0,rA,rQ,rB,rT,rE,aM,bB,bh,h1]
  ·cases i with
   | zero =>
    have yp:decide ((0:Int)<xs.length)=true:=bh;have hb0:InB xs 0:=hb;have eo:inR (atI xs 0) lo up=true:=h1;have d0:decide ((0:Int)<0)=false:=rfl;have d1:decide ((0:Nat)<0)=false:=rfl;simp (disch:=first|assumption|omega) only[S0,rA,rQ,rB,rT,rE,aM,bB,yp,eo,d0,d1,Int.natCast_zero,Nat.lt_irrefl,Int.cast_ofNat_Int]
   | succ i =>
    have gC:InB xs ((i:Int)+1-1):=by unfold InB;omega
    have d1:decide ((0:Int)<(i:Int)+1)=true:=decide_eq_true (by omega);have d2:decide (0<i+1)=true:=decide_eq_true (by omega);have oY:InB xs ((i:Int)+1):=hb;have uc:decide ((i:Int)+1<xs.length)=true:=bh;have jg:inR (atI xs ((i:Int)+1)) lo up=true:=h1;cases h2:decide (atI xs ((i:Int)+1)<=atI xs ((i:Int)+1-1))
    ·simp (disch:=first|assumption|omega) only[S0,rA,rQ,rB,rT,rE,aM,bB,uc,jg,d1,d2,h2]
    ·simp (disch:=first|assumption|omega) only[S0,rA,rQ,rB,rT,rE,aM,bB,uc,jg,d1,d2,h2]
 ·intro bh
  simp (disch:=first|assumption|omega) only[S0,rA,rQ,rB,rT,rE,bh]
theorem yE (xs:List Int)(hx:xs.length<=10000000000):Fun T 81 [rL xs]=some [.bool (wV (Aab xs) xs.length)]:=by
 rw[aK (t:=Bb9) rfl];unfold Bb9
 have e:wV (Aab xs) xs.length=wV (fun i=>decide (i<1)||!decide (atI xs (i:Int)<=atI xs ((i:Int)-1))) xs.length:=by
  refine Fab fun i hi=>?_
  unfold Aab
  cases i with
  |zero=>rfl
  |succ i=>simp
 rw[e];simp (disch:=first|assumption|omega) only[S0,rA,rQ,rB,rT,rE];have h1:(D.int .i64 1)=i64 ((1:Nat):Int):=rfl;rw[h1,Mba 1 1 xs.length (fun i=>!decide (atI xs (i:Int)<=atI xs ((i:Int)-1))) [.bool false]]
 ·(refine aB ?_;repeat' (refine aA ?_ ?_<;>intro _<;>try simp (disch:=first|assumption|omega) only[S0,rA,rQ,rB,rT,rE, *]))
 ·intro i hs hi bh
  have hb:InB xs (i:Int):=aN.2 hi;have gC:InB xs ((i:Int)-1):=by unfold InB;omega
  have hz:((0:Nat):Int)+1=1:=rfl;cases hq:decide (atI xs (i:Int)<=atI xs ((i:Int)-1))<;>simp (disch:=first|assumption|omega) only[S0,rA,rQ,rB,rT,rE,aM,bh,hz,hq]
 ·intro i hi bh
  simp (disch:=first|assumption|omega) only[S0,rA,rQ,rB,rT,rE,bh]
theorem iZ (x n:Int)(hg:sK n):Fun T 84 [i64 x,i64 n]=some [.bool (!inR x 0 (n-1))]:=by
 rw[aK (t:=Bb6) rfl];unfold Bb6
 unfold sK at hg;simp (disch:=first|assumption|omega) only[S0,rA,rQ,rB,rT,rE,bC]
theorem rC (n:Int)(hg:sK n)(xs:List Int)(hx:xs.length<=1099511627776):Fun T 83 [rL xs,i64 n]=some [i64 (ixF (fun x=>!inR x 0 (n-1)) xs)]:=by
 rw[aK (t:=Bb7) rfl];unfold Bb7
 simp (disch:=first|assumption|omega) only[S0,rA,rQ,rB,rT,rE,aM, *];rw[Bag 1 xs (fun x=>!inR x 0 (n-1)) (fun i=>[i64 i])]
 ·cases h:xs.any (fun x=>!inR x 0 (n-1))
  ·have e:ixF (fun x=>!inR x 0 (n-1)) xs=-1:=by
    have h2:=eB (fun x=>!inR x 0 (n-1)) xs;rw[h]at h2;unfold ixF at h2 ⊢;split at h2<;>simp_all
   rw[e];simp (disch:=first|assumption|omega) only[S0,rA,rQ,rB,rT,rE]
  ·simp (disch:=first|assumption|omega) only[S0,rA,rQ,rB,rT,rE]
 ·intro i hi hb hl hp
  (refine aB ?_;repeat' (refine aA ?_ ?_<;>intro _<;>try simp (disch:=first|assumption|omega) only[S0,rA,rQ,rB,rT,rE,aM,iZ, *]))
 ·intro i hi hb hl hp
  (refine aB ?_;repeat' (refine aA ?_ ?_<;>intro _<;>try simp (disch:=first|assumption|omega) only[S0,rA,rQ,rB,rT,rE,aM,iZ, *]))
 ·intro hl
  (refine aB ?_;repeat' (refine aA ?_ ?_<;>intro _<;>try simp (disch:=first|assumption|omega) only[S0,rA,rQ,rB,rT,rE, *]))
theorem rO (n:Int)(hg:sK n)(xs:List Int)(hx:xs.length<=1099511627776):Fun T 82 [rL xs,i64 n]=some [.bool (xs.any (fun x=>!inR x 0 (n-1)))]:=by
 rw[aK (t:=Bb8) rfl];unfold Bb8
 (refine aB ?_;repeat' (refine aA ?_ ?_<;>intro _<;>try simp (disch:=first|assumption|omega) only[S0,rA,rQ,rB,rT,rE,rC,eB, *]))
theorem dD (n:Int)(xs:List Int)(hg:sK n)(hx:xs.length<=10000000000):Fun T 80 [i64 n,rL xs]=some [.bool (Haq xs 0 (n-1))]:=by
 rw[aK (t:=Cba) rfl];unfold Cba;unfold Haq
 have rl:xs.length<=1099511627776:=by omega
 have e:xs.any (fun x=>!inR x 0 (n-1))=!xs.all fun x=>inR x 0 (n-1):=by rw[Sb2]
 rw[Oaf,Oag xs (fun x=>inR x 0 (n-1)),Bool.and_comm];cases h:wV (Aab xs) xs.length
 ·simp (disch:=first|assumption|omega) only[S0,rA,rQ,rB,rT,rE,yE,h]
 ·simp (disch:=first|assumption|omega) only[S0,rA,rQ,rB,rT,rE,yE,rO,h,e,Ubm]
theorem jI (n me:Int)(b4 cz bp b5 aE bo bg bf bd av:Int)(an:(List Int))(ax:Int)(ar:(List Int))(cn:Bool)(ct:(List Int))(bj:(List aZ))(hg:bM n=true)(hs:Ja9 ⟨b4,cz,bp,b5,⟨aE,bo,bg,bf,bd⟩,⟨av,an⟩,⟨ax,ar⟩,cn,ct,bj⟩):Fun T 34 [i64 n,i64 me,i64 b4,i64 cz,i64 bp,i64 b5,i64 aE,i64 bo,i64 bg,i64 bf,i64 bd,i64 av,rL an,i64 ax,rL ar,.bool cn,rL ct,rL bj]=some [.bool (iY n me ⟨b4,cz,bp,b5,⟨aE,bo,bg,bf,bd⟩,⟨av,an⟩,⟨ax,ar⟩,cn,ct,bj⟩)]:=by
 rw[aK (t:=Dbl) rfl];unfold Dbl
 have hn:=aV hg;obtain⟨h1,h2,h3,h4,h5⟩:=hs;simp only at h1 h2 h3 h4 h5;have tw:an.length<=1099511627776:=by omega
 have tg:ar.length<=1099511627776:=by omega
 have zt:ct.length<=1099511627776:=by omega
 have ea:decide ((⟨av,an⟩:bY)=none0 n)=decide ((⟨av,an⟩:bY)=⟨(none0 n).seq,(none0 n).deps⟩):=rfl;have eb:decide ((⟨ax,ar⟩:bY)=none0 n)=decide ((⟨ax,ar⟩:bY)=⟨(none0 n).seq,(none0 n).deps⟩):=rfl;unfold iY;cases c1:inst n b4 cz
 ·simp (disch:=first|assumption|omega) only[S0,rA,rQ,rB,rT,rE,bR,c1]
 cases c2:inR bp 0 9999
 ·simp (disch:=first|assumption|omega) only[S0,rA,rQ,rB,rT,rE,bR,bB,c1,c2]
 cases c3:Haq ct 0 (n-1)
 ·simp (disch:=first|assumption|omega) only[S0,rA,rQ,rB,rT,rE,bR,bB,dU,c1,c2,c3]
 cases c4:Fa0 ct me
 ·simp (disch:=first|assumption|omega) only[S0,rA,rQ,rB,rT,rE,bR,bB,dU,lF,c1,c2,c3,c4]
 cases c5:fF n ⟨av,an⟩
 ·simp (disch:=first|assumption|omega) only[S0,rA,rQ,rB,rT,rE,bR,bB,dU,lF,jJ,c1,c2,c3,c4,c5]
 cases c6:fF n ⟨ax,ar⟩
 ·simp (disch:=first|assumption|omega) only[S0,rA,rQ,rB,rT,rE,bR,bB,dU,lF,jJ,c1,c2,c3,c4,c5,c6]
 simp (disch:=first|assumption|omega) only[S0,rA,rQ,rB,rT,rE,bR,bB,dU,lF,jJ,c1,c2,c3,c4,c5,c6];rw[Jbg 1 bj (fun r=>rowOk n r&&!(r.state==3)) [.bool false]]
 ·have e0:((bj.length:Int)==0)=true->(bj.all fun r=>rowOk n r&&!(r.state==3))=true:=fun h=>by
   have:bj=[]:=List.length_eq_zero_iff.1 (by simpa using h);rw[this];rfl
  cases c7:bj.all fun r=>rowOk n r&&!(r.state==3)
  ·have e1:((bj.length:Int)==0)=false:=by
    cases h:((bj.length:Int)==0) with
    |false=>rfl
    |true=>rw[e0 h]at c7;cases c7
   rcases Kal b5 with rfl|rfl|rfl|⟨p1,p2,p3⟩
   ·simp (disch:=first|assumption|omega) only[S0,rA,rQ,rB,rT,rE,e1]
   ·simp (disch:=first|assumption|omega) only[S0,rA,rQ,rB,rT,rE,e1]
   ·simp (disch:=first|assumption|omega) only[S0,rA,rQ,rB,rT,rE]
   ·simp (disch:=first|assumption|omega) only[S0,rA,rQ,rB,rT,rE,p1,p2,p3,Rbk]
  ·clear e0
   rcases Kal b5 with rfl|rfl|rfl|⟨p1,p2,p3⟩
   ·simp (disch:=first|assumption|omega) only[S0,rA,rQ,rB,rT,rE,fB]<;>repeat' (refine aA (fun _=>?_) (fun _=>?_)<;>try simp (disch:=first|assumption|omega) only[S0,rA,rQ,rB,rT,rE,fB, *])
   ·simp (disch:=first|assumption|omega) only[S0,rA,rQ,rB,rT,rE,fB]<;>repeat' (refine aA (fun _=>?_) (fun _=>?_)<;>try simp (disch:=first|assumption|omega) only[S0,rA,rQ,rB,rT,rE,fB,jK, *])
   ·cases k0:decide (({ kind:=aE,id:=bo,src:=bg,dst:=bf,amt:=bd }:wW)={ kind:=0,id:=0,src:=0,dst:=0,amt:=0 })<;>cases k1:decide (({ seq:=av,deps:=an }:bY)=bY.mk (none0 n).seq (none0 n).deps)<;>cases k2:decide (({ seq:=ax,deps:=ar }:bY)=bY.mk (none0 n).seq (none0 n).deps)
    all_goals (have k1':=ea.trans k1;have k2':=eb.trans k2;simp (disch:=first|assumption|omega) only[S0,rA,rQ,rB,rT,rE,fH,jK,rZ,k0,k1,k2,k1',k2'])
    all_goals (cases cn<;>simp (disch:=first|assumption|omega) only[S0,rA,rQ,rB,rT,rE])
   ·simp (disch:=first|assumption|omega) only[S0,rA,rQ,rB,rT,rE,p1,p2,p3,Rbk]
 ·intro i hi hb bh hm
  have hq:=h5 _ hm;have j0:(atI bj (i:Int)).attr.deps.length<=1099511627776:=by omega
  simp (disch:=first|assumption|omega) only[S0,rA,rQ,rB,rT,rE,aM,lD,bh]<;>repeat' (refine aA (fun _=>?_) (fun _=>?_)<;>try simp (disch:=first|assumption|omega) only[S0,rA,rQ,rB,rT,rE,aM,lD, *])
 ·intro bh
  simp (disch:=first|assumption|omega) only[S0,rA,rQ,rB,rT,rE,bh]
theorem kP (ca cG cq bk b9 br bw b2 bl:Int)(az:(List Int))(n:Int)(hg:bM n=true)(hx:az.length<=1099511627776):Fun T 89 [i64 ca,i64 cG,i64 cq,i64 bk,i64 b9,i64 br,i64 bw,i64 b2,i64 bl,rL az,i64 n]=some [.bool (!(rowOk n ⟨ca,cG,cq,⟨bk,b9,br,bw,b2⟩,⟨bl,az⟩⟩&&!(cq==3)))]:=by
 rw[aK (t:=Bb1) rfl];unfold Bb1
 (refine aB ?_;repeat' (refine aA ?_ ?_<;>intro _<;>try simp (disch:=first|assumption|omega) only[S0,rA,rQ,rB,rT,rE,oK,Ubm, *]))
theorem vM (n:Int)(hg:bM n=true)(xs:List aZ)(hx:xs.length<=1099511627776)(hq:∀ x∈xs,x.attr.deps.length<=1099511627776):Fun T 88 [rL xs,i64 n]=some [i64 (ixF (fun r=>!(rowOk n r&&!(r.state==3))) xs)]:=by
 rw[aK (t:=Bb2) rfl];unfold Bb2
 simp (disch:=first|assumption|omega) only[S0,rA,rQ,rB,rT,rE,aM, *];rw[Bag 1 xs (fun r=>!(rowOk n r&&!(r.state==3))) (fun i=>[i64 i])]
 ·cases h:xs.any (fun r=>!(rowOk n r&&!(r.state==3)))
  ·have e:ixF (fun r=>!(rowOk n r&&!(r.state==3))) xs=-1:=by
    have h2:=eB (fun r=>!(rowOk n r&&!(r.state==3))) xs;rw[h]at h2;unfold ixF at h2 ⊢;split at h2<;>simp_all
   rw[e];simp (disch:=first|assumption|omega) only[S0,rA,rQ,rB,rT,rE]
  ·simp (disch:=first|assumption|omega) only[S0,rA,rQ,rB,rT,rE]
 ·intro i hi hb hl hp
  have j0:=hq _ (at_mem hi)
  try simp only at j0 hp
  (refine aB ?_;repeat' (refine aA ?_ ?_<;>intro _<;>try simp (disch:=first|assumption|omega) only[S0,rA,rQ,rB,rT,rE,aM,kP, *]))
 ·intro i hi hb hl hp
  have j0:=hq _ (at_mem hi)
  try simp only at j0 hp
  (refine aB ?_;repeat' (refine aA ?_ ?_<;>intro _<;>try simp (disch:=first|assumption|omega) only[S0,rA,rQ,rB,rT,rE,aM,kP, *]))
 ·intro hl
  (refine aB ?_;repeat' (refine aA ?_ ?_<;>intro _<;>try simp (disch:=first|assumption|omega) only[S0,rA,rQ,rB,rT,rE, *]))
theorem vX (n:Int)(hg:bM n=true)(xs:List aZ)(hx:xs.length<=1099511627776)(hq:∀ x∈xs,x.attr.deps.length<=1099511627776):Fun T 87 [rL xs,i64 n]=some [.bool (xs.any (fun r=>!(rowOk n r&&!(r.state==3))))]:=by
 rw[aK (t:=Bb3) rfl];unfold Bb3
 (refine aB ?_;repeat' (refine aA ?_ ?_<;>intro _<;>try simp (disch:=first|assumption|omega) only[S0,rA,rQ,rB,rT,rE,vM,eB, *]))
theorem jM (n me:Int)(b4 cz bp b5 aE bo bg bf bd av:Int)(an:(List Int))(ax:Int)(ar:(List Int))(cn:Bool)(ct:(List Int))(bj:(List aZ))(hg:bM n=true)(hs:Ja9 ⟨b4,cz,bp,b5,⟨aE,bo,bg,bf,bd⟩,⟨av,an⟩,⟨ax,ar⟩,cn,ct,bj⟩):Fun T 78 [i64 n,i64 me,i64 b4,i64 cz,i64 bp,i64 b5,i64 aE,i64 bo,i64 bg,i64 bf,i64 bd,i64 av,rL an,i64 ax,rL ar,.bool cn,rL ct,rL bj]=some [.bool (iY n me ⟨b4,cz,bp,b5,⟨aE,bo,bg,bf,bd⟩,⟨av,an⟩,⟨ax,ar⟩,cn,ct,bj⟩)]:=by
 rw[aK (t:=Cbc) rfl];unfold Cbc
 have hn:=aV hg;have za:sK n:=Qab hg;obtain⟨h1,h2,h3,h4,h5⟩:=hs;simp only at h1 h2 h3 h4 h5;have tw:an.length<=1099511627776:=by omega
 have tg:ar.length<=1099511627776:=by omega
 have zt:ct.length<=1099511627776:=by omega
 have um:bj.length<=1099511627776:=by omega
 have tE:∀ x∈bj,x.attr.deps.length<=1099511627776:=fun x hx=>by have:=h5 x hx;omega
 have ea:decide ((⟨av,an⟩:bY)=none0 n)=decide ((⟨av,an⟩:bY)=⟨(none0 n).seq,(none0 n).deps⟩):=rfl;have eb:decide ((⟨ax,ar⟩:bY)=none0 n)=decide ((⟨ax,ar⟩:bY)=⟨(none0 n).seq,(none0 n).deps⟩):=rfl;have e3:(bj.any fun r=>!(rowOk n r&&!(r.state==3)))=!bj.all fun r=>rowOk n r&&!(r.state==3):=by rw[Sb2]
 unfold iY;cases c1:inst n b4 cz
 ·simp (disch:=first|assumption|omega) only[S0,rA,rQ,rB,rT,rE,bE,hg,c1]
 cases c2:inR bp 0 9999
 ·simp (disch:=first|assumption|omega) only[S0,rA,rQ,rB,rT,rE,bE,bC,hg,c1,c2]
 cases c3:Haq ct 0 (n-1)
 ·simp (disch:=first|assumption|omega) only[S0,rA,rQ,rB,rT,rE,bE,bC,dD,hg,c1,c2,c3]
 cases c4:Fa0 ct me
 ·simp (disch:=first|assumption|omega) only[S0,rA,rQ,rB,rT,rE,bE,bC,dD,slices_Contains_int,hg,c1,c2,c3,c4]
 cases c5:fF n ⟨av,an⟩
 ·simp (disch:=first|assumption|omega) only[S0,rA,rQ,rB,rT,rE,bE,bC,dD,slices_Contains_int,gD,hg,c1,c2,c3,c4,c5]
 cases c6:fF n ⟨ax,ar⟩
 ·simp (disch:=first|assumption|omega) only[S0,rA,rQ,rB,rT,rE,bE,bC,dD,slices_Contains_int,gD,hg,c1,c2,c3,c4,c5,c6]
 simp (disch:=first|assumption|omega) only[S0,rA,rQ,rB,rT,rE,bE,bC,dD,slices_Contains_int,gD,hg,c1,c2,c3,c4,c5,c6]
 rcases Kal b5 with rfl|rfl|rfl|⟨p1,p2,p3⟩
 ·simp (disch:=first|assumption|omega) only[S0,rA,rQ,rB,rT,rE,dS]<;>repeat' (refine aA (fun _=>?_) (fun _=>?_)<;>try simp (disch:=first|assumption|omega) only[S0,rA,rQ,rB,rT,rE,dS, *])
 ·cases c7:wT ⟨aE,bo,bg,bf,bd⟩
  ·simp (disch:=first|assumption|omega) only[S0,rA,rQ,rB,rT,rE,dS,c7]
  cases c8:(bj.length:Int)==0
  ·simp (disch:=first|assumption|omega) only[S0,rA,rQ,rB,rT,rE,dS,c7,c8]
  cases c9:decide ((⟨av,an⟩:bY)=⟨ax,ar⟩)<;>cases tv:cn<;>simp (disch:=first|assumption|omega) only[S0,rA,rQ,rB,rT,rE,dS,bX,c7,c8,c9,tv]
 ·cases c7:decide ((⟨aE,bo,bg,bf,bd⟩:wW)=⟨0,0,0,0,0⟩)
  ·simp (disch:=first|assumption|omega) only[S0,rA,rQ,rB,rT,rE,bI,rZ,c7]
  cases c8:decide ((⟨av,an⟩:bY)=none0 n)
  ·simp (disch:=first|assumption|omega) only[S0,rA,rQ,rB,rT,rE,bI,bX,rZ,c7,c8]
  cases c9:decide ((⟨ax,ar⟩:bY)=none0 n)
  ·simp (disch:=first|assumption|omega) only[S0,rA,rQ,rB,rT,rE,bI,bX,rZ,c7,c8,c9]
  cases tv:cn
  rotate_left
  ·simp (disch:=first|assumption|omega) only[S0,rA,rQ,rB,rT,rE,bI,bX,rZ,c7,c8,c9,tv]
  cases c11:(bj.length:Int)==(ct.length:Int)
  ·simp (disch:=first|assumption|omega) only[S0,rA,rQ,rB,rT,rE,bI,bX,rZ,c7,c8,c9,tv,c11]
  simp (disch:=first|assumption|omega) only[S0,rA,rQ,rB,rT,rE,bI,bX,rZ,c7,c8,c9,tv,c11,vX,e3,Ubm]
 ·simp (disch:=first|assumption|omega) only[S0,rA,rQ,rB,rT,rE,p1,p2,p3,Rbk]
theorem bH (me n:Int)(rows:List (List aZ))(leads:List aQ)(hs:gQ rows)(gk:iH leads):Fun T 21 [i64 me,i64 n,rL rows,rL leads]=some [.bool (iN ⟨me,⟨n,rows⟩,leads⟩)]:=by
 rw[aK (t:=Dby) rfl];unfold Dby;unfold iN
 obtain⟨zg,zp⟩:=gk;cases ht:eH ⟨n,rows⟩
 ·simp (disch:=first|assumption|omega) only[S0,rA,rQ,rB,rT,rE,eQ,ht]
 have hg:bM n=true:=bL ht;have hn:=aV hg;cases hm:inR me 0 (n-1)
 ·simp (disch:=first|assumption|omega) only[S0,rA,rQ,rB,rT,rE,eQ,bB,ht,hm]
 simp (disch:=first|assumption|omega) only[S0,rA,rQ,rB,rT,rE,eQ,bB,ht,hm];rw[Vas 1 leads.length (yC n me leads) [.bool false]]
 ·(refine aB ?_;repeat' (refine aA ?_ ?_<;>intro _<;>try simp (disch:=first|assumption|omega) only[S0,rA,rQ,rB,rT,rE, *]))
 ·intro i hi bh
  have hb:InB leads (i:Int):=aN.2 hi;have hq:=zp _ (at_mem hi);unfold yC Ha9;cases c1:iY n me (atI leads (i:Int))
  ·simp (disch:=first|assumption|omega) only[S0,rA,rQ,rB,rT,rE,aM,jI,bh,c1]
  by_cases h0:0<(i:Int)
  ·have d0:decide (0<(i:Int))=true:=by simpa using h0
   have gC:InB leads ((i:Int)-1):=by unfold InB;omega
   simp (disch:=first|assumption|omega) only[S0,rA,rQ,rB,rT,rE,aM,jI,bh,c1,d0]<;>repeat' (refine aA (fun _=>?_) (fun _=>?_)<;>try simp (disch:=first|assumption|omega) only[S0,rA,rQ,rB,rT,rE,aM,jI, *])
  ·have d0:decide (0<(i:Int))=false:=by simpa using h0
   simp (disch:=first|assumption|omega) only[S0,rA,rQ,rB,rT,rE,aM,jI,bh,c1,d0]
 ·intro bh
  simp (disch:=first|assumption|omega) only[S0,rA,rQ,rB,rT,rE,bh]
theorem fJ (me n:Int)(rows:List (List aZ))(leads:List aQ)(hs:gQ rows)(gk:iH leads):Fun T 58 [i64 me,i64 n,rL rows,rL leads]=some [.bool (iN ⟨me,⟨n,rows⟩,leads⟩)]:=by
 rw[aK (t:=Cbx) rfl];unfold Cbx;unfold iN
 obtain⟨zg,zp⟩:=gk;cases ht:eH ⟨n,rows⟩
 ·simp (disch:=first|assumption|omega) only[S0,rA,rQ,rB,rT,rE,iJ,ht]
 have hg:bM n=true:=bL ht;have hn:=aV hg;cases hm:inR me 0 (n-1)
 ·simp (disch:=first|assumption|omega) only[S0,rA,rQ,rB,rT,rE,iJ,bC,ht,hm]
 simp (disch:=first|assumption|omega) only[S0,rA,rQ,rB,rT,rE,iJ,bC,ht,hm];rw[Vas 1 leads.length (yC n me leads) [.bool false]]
 ·(refine aB ?_;repeat' (refine aA ?_ ?_<;>intro _<;>try simp (disch:=first|assumption|omega) only[S0,rA,rQ,rB,rT,rE, *]))
 ·intro i hi bh
  have hb:InB leads (i:Int):=aN.2 hi;have hq:=zp _ (at_mem hi);unfold yC Ha9;cases c1:iY n me (atI leads (i:Int))
  ·simp (disch:=first|assumption|omega) only[S0,rA,rQ,rB,rT,rE,aM,jM,bh,c1]
  by_cases h0:0<(i:Int)
  ·have d0:decide (0<(i:Int))=true:=by simpa using h0
   have gC:InB leads ((i:Int)-1):=by unfold InB;omega
   have hc:=Qbp (atI leads (i:Int)).rep (atI leads (i:Int)).no (atI leads ((i:Int)-1)).rep (atI leads ((i:Int)-1)).no;have l1:([(atI leads (i:Int)).rep,(atI leads (i:Int)).no]:List Int).length<=1099511627776:=by simp
   have l2:([(atI leads ((i:Int)-1)).rep,(atI leads ((i:Int)-1)).no]:List Int).length<=1099511627776:=by simp
   generalize hz:(decide ((atI leads (i:Int)).rep<(atI leads ((i:Int)-1)).rep)||((atI leads ((i:Int)-1)).rep==(atI leads (i:Int)).rep&&decide ((atI leads (i:Int)).no<=(atI leads ((i:Int)-1)).no)))=z at hc ⊢;cases z<;>simp (disch:=first|assumption|omega) only[S0,rA,rQ,rB,rT,rE,aM,uT,jM,gX,bh,c1,d0,hc]
  ·have d0:decide (0<(i:Int))=false:=by simpa using h0
   simp (disch:=first|assumption|omega) only[S0,rA,rQ,rB,rT,rE,aM,jM,bh,c1,d0]
 ·intro bh
  simp (disch:=first|assumption|omega) only[S0,rA,rQ,rB,rT,rE,bh]
theorem gV (b4 cz bp b5 aE bo bg bf bd av:Int)(an:(List Int))(ax:Int)(ar:(List Int))(cn:Bool)(ct:(List Int))(bj:(List aZ))(h1:an.length<=10000000000)(h2:ar.length<=10000000000)(h3:ct.length<=10000000000)(h4:oF bj):Fun T 102 [i64 b4,i64 cz,i64 bp,i64 b5,i64 aE,i64 bo,i64 bg,i64 bf,i64 bd,i64 av,rL an,i64 ax,rL ar,.bool cn,rL ct,rL bj]=some [i64 b4,i64 cz,i64 bp,i64 b5,i64 aE,i64 bo,i64 bg,i64 bf,i64 bd,i64 av,rL an,i64 ax,rL ar,.bool cn,rL ct,rL bj]:=by
 rw[aK (t:=Maj) rfl];unfold Maj
 simp (disch:=first|assumption|omega) only[S0,rA,rQ,rB,rT,rE,fK,nD,slices_Clone_int]
theorem lZ (b6 ae:Int)(aa:(List (List aZ)))(aj:(List aQ))(h1:gQ aa)(h2:iH aj):Fun T 99 [i64 b6,i64 ae,rL aa,rL aj]=some [i64 b6,i64 ae,rL aa,rL aj]:=by
 rw[aK (t:=Bbt) rfl];unfold Bbt
 obtain⟨ky,gk⟩:=h2;simp (disch:=first|assumption|omega) only[S0,rA,rQ,rB,rT,rE,nU];rw[uK aj.length (fun i=>[i64 i,rL (aj.take i)]) (.yield 1,[rL aj]) rfl (by simp)]
 ·simp (disch:=first|assumption|omega) only[S0,rA,rQ,rB,rT,rE]
 ·intro i hi bh
  have hb:InB aj (i:Int):=aN.2 hi;obtain⟨q1,q2,q3,q4⟩:=gk _ (at_mem hi);have la:=take_at hi;have gu:(aj.take i).length+([atI aj (i:Int)]:List aQ).length<=100000000000:=by rw[Rbv];simp only[Rbw,Rb8];omega
  simp (disch:=first|assumption|omega) only[S0,rA,rQ,rB,rT,rE,aM,uT,jW,gV,bh,la]
 ·intro bh
  rw[Sbw];simp (disch:=first|assumption|omega) only[S0,rA,rQ,rB,rT,rE,bh]
theorem rG (cH db da cY ev b8 cF cr bn b7 bt bz b3 bm:Int)(ay:(List Int))(h:ay.length<=10000000000):Fun T 113 [i64 cH,i64 db,i64 da,i64 cY,i64 ev,i64 b8,i64 cF,i64 cr,i64 bn,i64 b7,i64 bt,i64 bz,i64 b3,i64 bm,rL ay]=some [i64 cH,i64 db,i64 da,i64 cY,i64 ev,i64 b8,i64 cF,i64 cr,i64 bn,i64 b7,i64 bt,i64 bz,i64 b3,i64 bm,rL ay]:=by
 rw[aK (t:=Mac) rfl];unfold Mac
 simp (disch:=first|assumption|omega) only[S0,rA,rQ,rB,rT,rE,fK]
theorem Iae (me n:Int)(rows:List (List aZ))(leads:List aQ)(out:List gH):Fun T 114 [i64 me,i64 n,rL rows,rL leads,rL out,.bool false]=some [i64 me,i64 n,rL rows,rL leads,rL out,.bool true,i64 me,i64 n,.hole,.hole,.hole,.bool false]:=by
 rw[aK (t:=Mab) rfl];unfold Mab
 simp (disch:=first|assumption|omega) only[S0,rA,rQ,rB,rT,rE]
theorem rF (me n:Int)(rows:List (List aZ))(leads:List aQ)(hs:gQ rows)(h2:iH leads):Fun T 98 [i64 me,i64 n,rL rows,rL leads]=some [i64 me,i64 n,rL rows,rL leads,.rows 15 [],.bool false]:=by
 rw[aK (t:=Bbu) rfl];unfold Bbu
 simp (disch:=first|assumption|omega) only[S0,rA,rQ,rB,rT,rE,lZ]
theorem lN (b4 cz bp b5 aE bo bg bf bd av:Int)(an:(List Int))(ax:Int)(ar:(List Int))(cn:Bool)(ct:(List Int))(bj:(List aZ))(h1:an.length<=10000000000)(h2:ar.length<=10000000000)(h3:ct.length<=10000000000)(h4:oF bj):Fun T 48 [i64 b4,i64 cz,i64 bp,i64 b5,i64 aE,i64 bo,i64 bg,i64 bf,i64 bd,i64 av,rL an,i64 ax,rL ar,.bool cn,rL ct,rL bj]=some [i64 b4,i64 cz,i64 bp,i64 b5,i64 aE,i64 bo,i64 bg,i64 bf,i64 bd,i64 av,rL an,i64 ax,rL ar,.bool cn,rL ct,rL bj]:=by
 rw[aK (t:=Cb7) rfl];unfold Cb7
 obtain⟨ou,lR⟩:=h4;have h0:(.rows 10 []:D)=rL ([]:List aZ):=rfl;simp (disch:=first|assumption|omega) only[S0,rA,rQ,rB,rT,rE,eP,uB];rw[uK bj.length (fun i=>[rL (bj.take i),i64 i]) (.yield 1,[rL bj]) rfl (by simp)]
 ·simp (disch:=first|assumption|omega) only[S0,rA,rQ,rB,rT,rE]
 ·intro i hi bh
  have hb:InB bj (i:Int):=aN.2 hi;have hd:=lR _ (at_mem hi);have la:=take_at hi;have gu:(bj.take i).length+([atI bj (i:Int)]:List aZ).length<=100000000000:=by rw[Rbv];simp only[Rbw,Rb8];omega
  simp (disch:=first|assumption|omega) only[S0,rA,rQ,rB,rT,rE,aM,uT,jW,fZ,bh,la]
 ·intro bh
  rw[Sbw];simp (disch:=first|assumption|omega) only[S0,rA,rQ,rB,rT,rE,bh]
theorem Hai (cH db da cY ev b8 cF cr bn b7 bt bz b3 bm:Int)(ay:(List Int))(dst me n:Int)(rows leads:D)(out:List gH)(ez:Bool)(h:ay.length<=10000000000)(hl:out.length<=10000000000)(hg:bM n=true) :
  Fun T 54 [i64 dst,i64 cH,i64 db,i64 da,i64 cY,i64 ev,i64 b8,i64 cF,i64 cr,i64 bn,i64 b7,i64 bt,i64 bz,i64 b3,i64 bm,rL ay,i64 me,i64 n,rows,leads,rL out,.bool ez]=some [i64 me,i64 n,rows,leads,rL (out++[Saa n me ⟨cH,db,da,cY,ev,b8,cF,cr,⟨bn,b7,bt,bz,b3⟩,⟨bm,ay⟩⟩ dst]),.bool ez]:=by
 rw[aK (t:=Cb1) rfl];unfold Cb1
 have gu:out.length+([Saa n me ⟨cH,db,da,cY,ev,b8,cF,cr,⟨bn,b7,bt,bz,b3⟩,⟨bm,ay⟩⟩ dst]:List gH).length<=100000000000:=by simp only[Rbw,Rb8];omega
 unfold Saa at gu ⊢
 have hr:(none0 n).deps.length<=10000000000:=by
  have:=aV hg;unfold none0;rw[Sbu];omega
 cases hz:((ay.length:Int)==0)
 ·simp only[hz]at gu ⊢
  simp (disch:=first|assumption|omega) only[S0,rA,rQ,rB,rT,rE,hz,eP,uT,jW]
 ·simp only[hz,if_true]at gu ⊢
  simp (disch:=first|assumption|omega) only[S0,rA,rQ,rB,rT,rE,hz,fH,eP,uT,jW]
theorem Ma1 (cH db da cY ev b8 cF cr bn b7 bt bz b3 bm:Int)(ay:(List Int))(me n:Int)(rows leads:D)(out:List gH)(ez:Bool)(h:ay.length<=10000000000)(hl:out.length<=1000000000)(hg:bM n=true) :
  Fun T 53 [i64 cH,i64 db,i64 da,i64 cY,i64 ev,i64 b8,i64 cF,i64 cr,i64 bn,i64 b7,i64 bt,i64 bz,i64 b3,i64 bm,rL ay,i64 me,i64 n,rows,leads,rL out,.bool ez]=some [i64 me,i64 n,rows,leads,rL (out++Bam n me ⟨cH,db,da,cY,ev,b8,cF,cr,⟨bn,b7,bt,bz,b3⟩,⟨bm,ay⟩⟩ n.toNat),.bool ez]:=by
 rw[aK (t:=Cb2) rfl];unfold Cb2
 simp (disch:=first|assumption|omega) only[S0,rA,rQ,rB,rT,rE];have hn:=aV hg;rw[uK n.toNat (fun i=>[i64 i,i64 me,i64 n,rows,leads,rL (out++Bam n me ⟨cH,db,da,cY,ev,b8,cF,cr,⟨bn,b7,bt,bz,b3⟩,⟨bm,ay⟩⟩ i),.bool ez]) (.yield 1,[i64 me,i64 n,rows,leads,rL (out++Bam n me ⟨cH,db,da,cY,ev,b8,cF,cr,⟨bn,b7,bt,bz,b3⟩,⟨bm,ay⟩⟩ n.toNat),.bool ez]) (by rw[show ∀ m,Bam n me m 0=[] from fun _=>rfl,Rb1];rfl) (by simp)]
 ·simp (disch:=first|assumption|omega) only[S0,rA,rQ,rB,rT,rE]
 ·intro i hi bh
  have jh:decide ((i:Int)<n)=true:=by simp;omega
  have hal:=wF n me ⟨cH,db,da,cY,ev,b8,cF,cr,⟨bn,b7,bt,bz,b3⟩,⟨bm,ay⟩⟩ i;have mn:(out++Bam n me ⟨cH,db,da,cY,ev,b8,cF,cr,⟨bn,b7,bt,bz,b3⟩,⟨bm,ay⟩⟩ i).length<=10000000000:=by rw[Rbh];omega
  rw[yS];cases k1:((i:Int)==me)
  ·simp (disch:=first|assumption|omega) only[S0,rA,rQ,rB,rT,rE,jh,k1,Hai,Sbb,Rbd]
  ·simp (disch:=first|assumption|omega) only[S0,rA,rQ,rB,rT,rE,jh,k1,Sbf,Rb1]
 ·intro bh
  have jh:decide (((n.toNat:Nat):Int)<n)=false:=by simp;omega
  simp (disch:=first|assumption|omega) only[S0,rA,rQ,rB,rT,rE,jh]
theorem Ma0 (me n:Int)(rows:List (List aZ))(leads:List aQ)(out:List gH)(ez:Bool)(hs:gQ rows)(h2:iH leads) :
  Fun T 55 [i64 me,i64 n,rL rows,rL leads,rL out,.bool ez]=some (if ez&&iN ⟨me,⟨n,rows⟩,leads⟩ then [i64 me,i64 n,rL rows,rL leads,rL out,.bool true] else [i64 0,i64 0,.rows 1 [],.rows 16 [],.rows 15 [],.bool false]):=by
 rw[aK (t:=Cb0) rfl];unfold Cb0
 cases ez
 ·simp (disch:=first|assumption|omega) only[S0,rA,rQ,rB,rT,rE,Sb4,Rbk]
 ·cases hr:iN ⟨me,⟨n,rows⟩,leads⟩<;>simp (disch:=first|assumption|omega) only[S0,rA,rQ,rB,rT,rE,hr,bH,Sbk,Rbk]
theorem lY (b4 cz bp b5 aE bo bg bf bd av:Int)(an:(List Int))(ax:Int)(ar:(List Int))(cn:Bool)(ct:(List Int))(bj:(List aZ))(a b:Int):Fun T 107 [i64 b4,i64 cz,i64 bp,i64 b5,i64 aE,i64 bo,i64 bg,i64 bf,i64 bd,i64 av,rL an,i64 ax,rL ar,.bool cn,rL ct,rL bj,rL [a,b]]=some [i64 (Wav [b4,cz] [a,b])]:=by
 rw[aK (t:=Xad) rfl];unfold Xad
 have z:(aS.mk 1 2).run [i64 b4,i64 cz]=some [rL ([b4,cz]:List Int)]:=rfl;have h1:([b4,cz]:List Int).length<=1099511627776:=by simp
 have h2:([a,b]:List Int).length<=1099511627776:=by simp
 simp (disch:=first|assumption|omega) only[S0,rA,rQ,rB,rT,rE,z,gX]
theorem oW (ls:List aQ)(a b:Int)(hl:ls.length<=10000000000)(hs:qE ls) :
  Fun T 106 [rL ls,rL [a,b]]=some [i64 (lJ (a,b) ls:Nat),.bool (Eay (a,b) ls)]:=by
 rw[aK (t:=Maf) rfl];unfold Maf
 have hc:=vW (a,b) ls
 have jc:∀ {j:Nat} (hj:j<ls.length),ltQ (kE (atI ls (j:Int))) (a,b)=decide (j<lJ (a,b) ls):=by
  intro j hj;rw[bN hj];by_cases h:j<lJ (a,b) ls
  ·rw[vV h,decide_eq_true h]
  ·rw[Bai hs hj (by omega),decide_eq_false h]
 simp (disch:=first|assumption|omega) only[S0,rA,rQ,rB,rT,rE];rw[wI (T:=T) (γ:=Nat×Nat) (.yield 1,[i64 (lJ (a,b) ls:Nat)]) (fun c=>c.2-c.1) (fun c=>c.1<=lJ (a,b) ls/\lJ (a,b) ls<=c.2/\c.2<=ls.length) (fun c=>[i64 (c.1:Nat),i64 (c.2:Nat)]) (0,ls.length) rfl ⟨by omega,hc,Nat.le_refl _⟩ (by simp)]
 ·have hh:=Bad (x:=(a,b)) hs
  by_cases hk:lJ (a,b) ls<ls.length
  ·have bh:decide (((lJ (a,b) ls:Nat):Int)<(ls.length:Int))=true:=by simpa using hk
   have hb:InB ls ((lJ (a,b) ls:Nat):Int):=aN.2 hk;have he:=Ab1 (atI ls ((lJ (a,b) ls:Nat):Int)) a b
   have hr:Eay (a,b) ls=(kE (atI ls ((lJ (a,b) ls:Nat):Int))==(a,b)):=by
    rw[Ubs,hh,bN hk,beq_iff_eq];exact⟨fun ⟨_,h⟩=>h,fun h=>⟨hk,h⟩⟩
   rw[<- hr]at he;simp (disch:=first|assumption|omega) only[S0,rA,rQ,rB,rT,rE,bh,aM,lY,he]
  ·have bh:decide (((lJ (a,b) ls:Nat):Int)<(ls.length:Int))=false:=by simpa using hk
   have hr:Eay (a,b) ls=false:=by
    cases h:Eay (a,b) ls with
    |false=>rfl
    |true=>exact absurd (hh.1 h).1 hk
   simp (disch:=first|assumption|omega) only[S0,rA,rQ,rB,rT,rE,bh,hr]
 ·rintro⟨i,j⟩ ⟨h1,h2,h3⟩
  simp only at h1 h2 h3;by_cases qx:i<j
  ·have hd:decide ((i:Int)<(j:Int))=true:=by simpa using qx
   obtain⟨u1,u2,u3⟩:=Fb7 (a:=(i:Int)+j) (by omega) (by omega);have hm:((i:Int)+j) / 2=(((i+j) / 2:Nat):Int):=by omega
   have tI:(i+j) / 2<ls.length:=by omega
   have hb:InB ls (((i+j) / 2:Nat):Int):=aN.2 tI;have bh:=Ab0 (atI ls (((i+j) / 2:Nat):Int)) a b;rw[jc tI]at bh;rw[hm]at u2 u3;refine .inl ?_;by_cases h4:(i+j) / 2<lJ (a,b) ls
   ·rw[decide_eq_true h4]at bh
    refine⟨((i+j) / 2+1,j),?_,⟨by simp only;omega,by simp only;omega,by simp only;omega⟩,by simp only;omega⟩;simp (disch:=first|assumption|omega) only[S0,rA,rQ,rB,rT,rE,hd,u1,u2,u3,aM,lY,bh]
   ·rw[decide_eq_false h4]at bh
    refine⟨(i,(i+j) / 2),?_,⟨by simp only;omega,by simp only;omega,by simp only;omega⟩,by simp only;omega⟩;simp (disch:=first|assumption|omega) only[S0,rA,rQ,rB,rT,rE,hd,u1,u2,u3,aM,lY,bh]
  ·have hd:decide ((i:Int)<(j:Int))=false:=by simpa using qx
   obtain rfl:i=lJ (a,b) ls:=by omega
   refine .inr ?_;simp (disch:=first|assumption|omega) only[S0,rA,rQ,rB,rT,rE,hd]
theorem Na4 (ls:List aQ)(k:Nat)(h:k<ls.length)(hl:ls.length<=10000000000):Fun T 108 [rL ls,i64 (k:Int),i64 ((k:Int)+1)]=some [rL (ls.take k++ls.drop (k+1))]:=by
 rw[Fac (e:=Bbq 16) rfl];exact Qa2 h hl
theorem Nav (ls:List aQ)(k:Nat)(l:aQ)(h:k<=ls.length)(hl:ls.length<=10000000000):Fun T 109 [rL ls,i64 (k:Int),rL [l]]=some [rL (ls.take k++l::ls.drop k)]:=by
 rw[Fac (e:=Bbp 16) rfl];exact Qad l h hl
theorem jT (a b:Int)(me n rows out:D)(ls:List aQ)(bad:D)(hl:ls.length<=10000000000)(hs:qE ls):Fun T 105 [i64 a,i64 b,me,n,rows,rL ls,out,bad]=some [i64 (lJ (a,b) ls:Nat),.bool (Eay (a,b) ls)]:=by
 rw[aK (t:=Mag) rfl];unfold Mag
 have z:(aS.mk 1 2).run [i64 a,i64 b]=some [rL ([a,b]:List Int)]:=rfl;simp (disch:=first|assumption|omega) only[S0,rA,rQ,rB,rT,rE,z,oW]
theorem Ca8 (a b:Int)(me n rows out:D)(ls:List aQ)(bad:D)(hl:ls.length<=10000000000)(hs:qE ls):Fun T 104 [i64 a,i64 b,me,n,rows,rL ls,out,bad]=some [me,n,rows,rL (kJ (a,b) ls),out,bad]:=by
 rw[aK (t:=Mah) rfl];unfold Mah
 cases h:Eay (a,b) ls
 ·rw[Uas h]
  simp (disch:=first|assumption|omega) only[S0,rA,rQ,rB,rT,rE,jT,h,Rbk]
 ·obtain⟨hk,-⟩:=(Bad hs).1 h
  rw[Uat hs h];simp (disch:=first|assumption|omega) only[S0,rA,rQ,rB,rT,rE,jT,h,Na4]
theorem Naz (b4 cz bp b5 aE bo bg bf bd av:Int)(an:(List Int))(ax:Int)(ar:(List Int))(cn:Bool)(ct:(List Int))(bj:(List aZ))(me n rows out:D)(ls:List aQ)(bad:D)(hl:ls.length<=1000000000)(hs:qE ls)(h1:an.length<=10000000000)(h2:ar.length<=10000000000)(h3:ct.length<=10000000000)(h4:oF bj) :
  Fun T 103 [i64 b4,i64 cz,i64 bp,i64 b5,i64 aE,i64 bo,i64 bg,i64 bf,i64 bd,i64 av,rL an,i64 ax,rL ar,.bool cn,rL ct,rL bj,me,n,rows,rL ls,out,bad]=some [me,n,rows,rL (Kaj ⟨b4,cz,bp,b5,⟨aE,bo,bg,bf,bd⟩,⟨av,an⟩,⟨ax,ar⟩,cn,ct,bj⟩ ls),out,bad]:=by
 rw[aK (t:=Mai) rfl];unfold Mai
 have hd:=oM (b4,cz) ls;have od:=qJ (x:=(b4,cz)) hs;have fw:=vW (b4,cz) (kJ (b4,cz) ls);unfold Kaj kE;simp (disch:=first|assumption|omega) only[S0,rA,rQ,rB,rT,rE,Ca8,jT,gV,uT,Nav]
theorem Ba1 (a b:Int)(me n rows out:D)(ls:List aQ)(ez:D)(hl:ls.length<=10000000000):Fun T 50 [i64 a,i64 b,me,n,rows,rL ls,out,ez]=some [me,n,rows,rL (kJ (a,b) ls),out,ez]:=by
 rw[aK (t:=Cb5) rfl];unfold Cb5
 simp (disch:=first|assumption|omega) only[S0,rA,rQ,rB,rT,rE];rw[uK ls.length (fun i=>[rL (kJ (a,b) (ls.take i)),i64 i]) (.yield 1,[rL (kJ (a,b) ls)]) rfl (by simp)]
 ·simp (disch:=first|assumption|omega) only[S0,rA,rQ,rB,rT,rE]
 ·intro i hi bh
  have hb:InB ls (i:Int):=aN.2 hi;have lE:=oM (a,b) (ls.take i);rw[Rbv]at lE;have gu:(kJ (a,b) (ls.take i)).length+([atI ls (i:Int)]:List aQ).length<=100000000000:=by simp only[Rbw,Rb8];omega
  have hft:kJ (a,b) (ls.take (i+1))=kJ (a,b) (ls.take i)++if !(kE (atI ls (i:Int))==(a,b)) then [atI ls (i:Int)] else []:=Uam hi
  rw[hft];have hk:(kE (atI ls (i:Int))==(a,b))=((atI ls (i:Int)).rep==a&&(atI ls (i:Int)).no==b):=rfl;rw[hk];cases k1:(atI ls (i:Int)).rep==a
  ·simp (disch:=first|assumption|omega) only[S0,rA,rQ,rB,rT,rE,aM,uT,jW,bh,k1,Sb4,Sbb]
  ·cases k2:(atI ls (i:Int)).no==b
   ·simp (disch:=first|assumption|omega) only[S0,rA,rQ,rB,rT,rE,aM,uT,jW,bh,k1,k2,Tby,Sbb,Sbf]
   ·simp (disch:=first|assumption|omega) only[S0,rA,rQ,rB,rT,rE,aM,uT,jW,bh,k1,k2,Bool.and_self,Sbf,Rbk,Rb1]
 ·intro bh
  rw[Sbw];simp (disch:=first|assumption|omega) only[S0,rA,rQ,rB,rT,rE,bh]
theorem Maw (rep no:Int)(ca cG cq bk b9 br bw b2 bl:Int)(az:(List Int))(me n:Int)(rows:List (List aZ))(leads out:D)(ez:Bool)(hg:bM n=true)(hl:(rows.length:Int)=n)(hs:gQ rows)(hb:InB rows rep)(h1:1<=no)(h2:no<=1000)(hx:az.length<=10000000000) :
  Fun T 51 [i64 rep,i64 no,i64 ca,i64 cG,i64 cq,i64 bk,i64 b9,i64 br,i64 bw,i64 b2,i64 bl,rL az,i64 me,i64 n,rL rows,leads,out,.bool ez]=some [i64 me,i64 (wY ⟨n,rows⟩ rep no ⟨ca,cG,cq,⟨bk,b9,br,bw,b2⟩,⟨bl,az⟩⟩).n,rL (wY ⟨n,rows⟩ rep no ⟨ca,cG,cq,⟨bk,b9,br,bw,b2⟩,⟨bl,az⟩⟩).rows,leads,out,.bool (ez&&rowOk n ⟨ca,cG,cq,⟨bk,b9,br,bw,b2⟩,⟨bl,az⟩⟩)]:=by
 rw[aK (t:=Cb4) rfl];unfold Cb4
 have rl:az.length<=1099511627776:=by omega
 cases ez
 ·simp (disch:=first|assumption|omega) only[S0,rA,rQ,rB,rT,rE,tZ,Sb4]
 ·simp (disch:=first|assumption|omega) only[S0,rA,rQ,rB,rT,rE,lD,tZ,Sbk]
theorem mI (b6 ae:Int)(aa:(List (List aZ)))(aj:(List aQ))(hg:bM ae=true)(hl:(aa.length:Int)=ae)(h1:gQ aa)(h2:iH aj):Fun T 45 [i64 b6,i64 ae,rL aa,rL aj]=some [i64 b6,i64 ae,rL aa,rL aj]:=by
 rw[aK (t:=Dba) rfl];unfold Dba
 obtain⟨ky,gk⟩:=h2;simp (disch:=first|assumption|omega) only[S0,rA,rQ,rB,rT,rE,uA];rw[uK aj.length (fun i=>[i64 i,rL (aj.take i)]) (.yield 1,[rL aj]) rfl (by simp)]
 ·simp (disch:=first|assumption|omega) only[S0,rA,rQ,rB,rT,rE]
 ·intro i hi bh
  have hb:InB aj (i:Int):=aN.2 hi;obtain⟨q1,q2,q3,q4⟩:=gk _ (at_mem hi);have la:=take_at hi;have gu:(aj.take i).length+([atI aj (i:Int)]:List aQ).length<=100000000000:=by rw[Rbv];simp only[Rbw,Rb8];omega
  simp (disch:=first|assumption|omega) only[S0,rA,rQ,rB,rT,rE,aM,uT,jW,lN,bh,la]
 ·intro bh
  rw[Sbw];simp (disch:=first|assumption|omega) only[S0,rA,rQ,rB,rT,rE,bh]
theorem Maz (b4 cz bp b5 aE bo bg bf bd av:Int)(an:(List Int))(ax:Int)(ar:(List Int))(cn:Bool)(ct:(List Int))(bj:(List aZ))(me n rows out:D)(ls:List aQ)(ez:D)(hl:ls.length<=1000000000)(hs:qE ls)(h1:an.length<=10000000000)(h2:ar.length<=10000000000)(h3:ct.length<=10000000000)(h4:oF bj) :
  Fun T 49 [i64 b4,i64 cz,i64 bp,i64 b5,i64 aE,i64 bo,i64 bg,i64 bf,i64 bd,i64 av,rL an,i64 ax,rL ar,.bool cn,rL ct,rL bj,me,n,rows,rL ls,out,ez]=some [me,n,rows,rL (Kaj ⟨b4,cz,bp,b5,⟨aE,bo,bg,bf,bd⟩,⟨av,an⟩,⟨ax,ar⟩,cn,ct,bj⟩ ls),out,ez]:=by
 rw[aK (t:=Cb6) rfl];unfold Cb6
 have hd:=oM (b4,cz) ls;have od:=qJ (x:=(b4,cz)) hs;have fw:=vW (b4,cz) (kJ (b4,cz) ls);unfold Kaj kE;simp (disch:=first|assumption|omega) only[S0,rA,rQ,rB,rT,rE,Ba1];generalize kJ (b4,cz) ls=ds at *;generalize hC:lJ (b4,cz) ds=C at *;rw[wI (T:=T) (γ:=Nat) (.yield 1,[i64 (C:Nat)]) (fun k=>ds.length-k) (fun k=>k<=C) (fun k=>[i64 (k:Nat)]) 0 rfl (by omega) (by simp)]
 ·have z0:(aS.mk 16 0).run []=some [rL ([]:List aQ)]:=rfl
  have iz:(ds.take C).length+([⟨b4,cz,bp,b5,⟨aE,bo,bg,bf,bd⟩,⟨av,an⟩,⟨ax,ar⟩,cn,ct,bj⟩]:List aQ).length<=100000000000:=by rw[Rbv];simp only[Rbw,Rb8];omega
  have ka:(ds.take C++([⟨b4,cz,bp,b5,⟨aE,bo,bg,bf,bd⟩,⟨av,an⟩,⟨ax,ar⟩,cn,ct,bj⟩]:List aQ)).length+(ds.drop C).length<=100000000000:=by rw[Rbh,Rbv,Sbj];simp only[Rbw,Rb8];omega
  have s1:(aS.sub 16 false).run [rL ds,i64 (C:Int),i64 (ds.length:Int)]=some [rL (ds.drop C)]:=by
   simp (disch:=omega) only[Fbz];simp
  have s2:(aS.sub 16 false).run [rL ds,i64 0,i64 (C:Int)]=some [rL (ds.take C)]:=by
   simp (disch:=omega) only[Fbz];simp
  have hl3:([]:List aQ).length+(ds.drop C).length<=100000000000:=by rw[Sbj];simp only[Rb8];omega
  have hl4:([]:List aQ).length+(ds.take C).length<=100000000000:=by rw[Rbv];simp only[Rb8];omega
  simp (disch:=first|assumption|omega) only[S0,rA,rQ,rB,rT,rE,z0,s1,s2,jW,uT,lN,Sbm,Rbd,List.singleton_append]
 ·intro k hk
  by_cases nx:k<ds.length
  ·have bh:decide ((k:Int)<(ds.length:Int))=true:=by simpa using nx
   have hb:InB ds (k:Int):=aN.2 nx;have hq:ltQ (kE (atI ds (k:Int))) (b4,cz)=(decide ((atI ds (k:Int)).rep<b4)||((atI ds (k:Int)).rep==b4&&decide ((atI ds (k:Int)).no<cz))):=rfl;by_cases hkC:k<C
   ·have:=vV (x:=(b4,cz)) (ls:=ds) (k:=k) (by omega)
    rw[<- bN nx,hq]at this;refine .inl ⟨k+1,?_,by omega,by omega⟩;cases c1:decide ((atI ds (k:Int)).rep<b4)
    ·rw[c1,Bool.false_or,Qb6]at this
     obtain⟨c2,c3⟩:=this;simp (disch:=first|assumption|omega) only[S0,rA,rQ,rB,rT,rE,bh,aM,c1,c2,c3]
    ·simp (disch:=first|assumption|omega) only[S0,rA,rQ,rB,rT,rE,bh,aM,c1]
   ·have:=Bai (x:=(b4,cz)) od nx (by omega)
    rw[<- bN nx,hq,Tbu]at this;obtain⟨c1,c2⟩:=this;obtain rfl:k=C:=by omega
    refine .inr ?_;cases c3:(atI ds (k:Int)).rep==b4
    ·simp (disch:=first|assumption|omega) only[S0,rA,rQ,rB,rT,rE,bh,aM,c1,c3]
    ·rw[c3,Sbk]at c2
     simp (disch:=first|assumption|omega) only[S0,rA,rQ,rB,rT,rE,bh,aM,c1,c3,c2]
  ·have bh:decide ((k:Int)<(ds.length:Int))=false:=by simpa using nx
   obtain rfl:k=C:=by omega
   refine .inr ?_;simp (disch:=first|assumption|omega) only[S0,rA,rQ,rB,rT,rE,bh]
theorem dO (b6 ae:Int)(aa:(List (List aZ)))(aj:(List aQ))(rep no:Int)(hs:gQ aa)(h2:iH aj):Fun T 57 [i64 b6,i64 ae,rL aa,rL aj,i64 rep,i64 no]=some [.bool (iN ⟨b6,⟨ae,aa⟩,aj⟩&&inst ae rep no&&!((eY ⟨ae,aa⟩ rep no).state==3))]:=by
 rw[aK (t:=Cby) rfl];unfold Cby
 cases c1:iN ⟨b6,⟨ae,aa⟩,aj⟩
 ·simp (disch:=first|assumption|omega) only[S0,rA,rQ,rB,rT,rE,fJ,c1,Sb4]
 have ht:=iU c1;have hg:=bL ht;simp only at ht hg;cases c2:inst ae rep no
 ·simp (disch:=first|assumption|omega) only[S0,rA,rQ,rB,rT,rE,fJ,c1,bE,hg,c2,Sbk,Sb4]
 have hb:=kC ht c2;have uy:=(iQ c2).1;have hi2:=(iQ c2).2;simp only at hb;simp (disch:=first|assumption|omega) only[S0,rA,rQ,rB,rT,rE,fJ,c1,bE,hg,c2,iI,Sbk,bne]
theorem Va5 (cH db da cY ev b8 cF cr bn b7 bt bz b3 bm:Int)(ay:(List Int))(dst me n:Int)(rows leads:D)(out:List gH)(bad:Bool)(hz:ay=[])(hl:out.length<=10000000000)(hg:bM n=true) :
  Fun T 112 [i64 cH,i64 db,i64 da,i64 cY,i64 ev,i64 b8,i64 cF,i64 cr,i64 bn,i64 b7,i64 bt,i64 bz,i64 b3,i64 bm,rL ay,i64 dst,i64 me,i64 n,rows,leads,rL out,.bool bad]=some [i64 me,i64 n,rows,leads,rL (out++[Saa n me ⟨cH,db,da,cY,ev,b8,cF,cr,⟨bn,b7,bt,bz,b3⟩,⟨bm,ay⟩⟩ dst]),.bool bad]:=by
 rw[aK (t:=Mad) rfl];unfold Mad
 subst hz;have hem:aS.emp.run [rL ([]:List Int)]=some [.bool true]:=rfl;have gu:out.length+([Saa n me ⟨cH,db,da,cY,ev,b8,cF,cr,⟨bn,b7,bt,bz,b3⟩,⟨bm,[]⟩⟩ dst]:List gH).length<=100000000000:=by simp only[Rbw,Rb8];omega
 have hr:(none0 n).deps.length<=10000000000:=by
  have:=aV hg;unfold none0;rw[Sbu];omega
 unfold Saa at gu ⊢;have hz:((([]:List Int).length:Int)==0)=true:=rfl;simp only[hz,if_true]at gu ⊢;simp (disch:=first|assumption|omega) only[S0,rA,rQ,rB,rT,rE,hem,bI,rG,uT,jW]
theorem Nay (cH db da cY ev b8 cF cr bn b7 bt bz b3 bm:Int)(ay:(List Int))(me n:Int)(rows leads:D)(out:List gH)(bad:Bool)(hz:ay=[])(hl:out.length<=1000000000)(hg:bM n=true) :
  Fun T 111 [i64 cH,i64 db,i64 da,i64 cY,i64 ev,i64 b8,i64 cF,i64 cr,i64 bn,i64 b7,i64 bt,i64 bz,i64 b3,i64 bm,rL ay,i64 me,i64 n,rows,leads,rL out,.bool bad]=some [i64 me,i64 n,rows,leads,rL (out++Bam n me ⟨cH,db,da,cY,ev,b8,cF,cr,⟨bn,b7,bt,bz,b3⟩,⟨bm,ay⟩⟩ n.toNat),.bool bad]:=by
 rw[aK (t:=Mae) rfl];unfold Mae
 have hn:=aV hg;simp (disch:=first|assumption|omega) only[S0,rA,rQ,rB,rT,rE];rw[uK n.toNat (fun i=>[i64 i,i64 me,i64 n,rows,leads,rL (out++Bam n me ⟨cH,db,da,cY,ev,b8,cF,cr,⟨bn,b7,bt,bz,b3⟩,⟨bm,ay⟩⟩ i),.bool bad]) (.yield 1,[i64 me,i64 n,rows,leads,rL (out++Bam n me ⟨cH,db,da,cY,ev,b8,cF,cr,⟨bn,b7,bt,bz,b3⟩,⟨bm,ay⟩⟩ n.toNat),.bool bad]) (by rw[show ∀ m,Bam n me m 0=[] from fun _=>rfl,Rb1];rfl) (by simp)]
 ·simp (disch:=first|assumption|omega) only[S0,rA,rQ,rB,rT,rE]
 ·intro i hi bh
  have jh:decide ((i:Int)<n)=true:=by simp;omega
  have hal:=wF n me ⟨cH,db,da,cY,ev,b8,cF,cr,⟨bn,b7,bt,bz,b3⟩,⟨bm,ay⟩⟩ i;have mn:(out++Bam n me ⟨cH,db,da,cY,ev,b8,cF,cr,⟨bn,b7,bt,bz,b3⟩,⟨bm,ay⟩⟩ i).length<=10000000000:=by rw[Rbh];omega
  rw[yS];cases k1:((i:Int)==me)
  ·simp (disch:=first|assumption|omega) only[S0,rA,rQ,rB,rT,rE,jh,k1,Va5,Sbb,Rbd]
  ·simp (disch:=first|assumption|omega) only[S0,rA,rQ,rB,rT,rE,jh,k1,Sbf,Rb1]
 ·intro bh
  have jh:decide (((n.toNat:Nat):Int)<n)=false:=by simp;omega
  simp (disch:=first|assumption|omega) only[S0,rA,rQ,rB,rT,rE,jh]
theorem Jag (b6 ae:Int)(aa:(List (List aZ)))(aj:(List aQ))(rep no:Int)(hs:gQ aa)(h2:iH aj)(hl:aj.length<=2000000):Fun T 20 [i64 b6,i64 ae,rL aa,rL aj,i64 rep,i64 no]=some [i64 (bP ⟨b6,⟨ae,aa⟩,aj⟩ rep no).1.me,i64 (bP ⟨b6,⟨ae,aa⟩,aj⟩ rep no).1.table.n,rL (bP ⟨b6,⟨ae,aa⟩,aj⟩ rep no).1.table.rows,rL (bP ⟨b6,⟨ae,aa⟩,aj⟩ rep no).1.leads,rL (bP ⟨b6,⟨ae,aa⟩,aj⟩ rep no).2.1,.bool (bP ⟨b6,⟨ae,aa⟩,aj⟩ rep no).2.2]:=by
 rw[aK (t:=Dbz) rfl];unfold Dbz
 have zD:(.rows 15 []:D)=rL ([]:List gH):=rfl;cases c1:iN ⟨b6,⟨ae,aa⟩,aj⟩
 ·have hR:bP ⟨b6,⟨ae,aa⟩,aj⟩ rep no=Taa:=by unfold bP Ta7;rw[c1];rfl
  rw[hR];simp (disch:=first|assumption|omega) only[S0,rA,rQ,rB,rT,rE,bH,c1,Sbb,zD];rfl
 have ht:=iU c1;have hg:=bL ht;have hn:=aV hg;have pt:=jR ht;have n5:=nQ c1;have zh:=Gar c1;simp only at ht hg hn pt n5 zh;cases c2:inst ae rep no
 ·have hR:bP ⟨b6,⟨ae,aa⟩,aj⟩ rep no=Taa:=by unfold bP Ta7;simp only;rw[c2,Tby];rfl
  rw[hR];simp (disch:=first|assumption|omega) only[S0,rA,rQ,rB,rT,rE,bH,c1,bR,c2,Sbf,Sbb,zD];rfl
 have hb:=kC ht c2;have uy:=(iQ c2).1;have hi2:=(iQ c2).2;simp only at hb;have jc:inR b6 0 (ae-1)=true:=by simp[inR,zh.1,zh.2]
 have oo:nbR ⟨ae,aa⟩ rep no b6=if decide (Aa5 ⟨b6,⟨ae,aa⟩,aj⟩ rep no<=9999) then (Aa5 ⟨b6,⟨ae,aa⟩,aj⟩ rep no,true) else (0,false):=by
  unfold nbR Aa5;simp only[ht,c2,jc,Sbk]
 cases c3:(eY ⟨ae,aa⟩ rep no).state==3
 rotate_left
 ·have hR:bP ⟨b6,⟨ae,aa⟩,aj⟩ rep no=Taa:=by unfold bP Ta7;simp only;rw[c3,Sbf,Tby,Sb4];rfl
  rw[hR];cases c4:decide (Aa5 ⟨b6,⟨ae,aa⟩,aj⟩ rep no<=9999)
  ·rw[c4,if_neg Bool.false_ne_true]at oo
   simp (disch:=first|assumption|omega) only[S0,rA,rQ,rB,rT,rE,bH,c1,bR,c2,iT,mW,oo,c3,Sbf,Sbb,zD];rfl
  ·rw[c4,if_pos rfl]at oo
   simp (disch:=first|assumption|omega) only[S0,rA,rQ,rB,rT,rE,bH,c1,bR,c2,iT,mW,oo,c3,Sbf,Sbb,zD];rfl
 cases c4:decide (Aa5 ⟨b6,⟨ae,aa⟩,aj⟩ rep no<=9999)
 ·have hR:bP ⟨b6,⟨ae,aa⟩,aj⟩ rep no=Taa:=by unfold bP Ta7;rw[c4,Tby];rfl
  rw[hR];rw[c4,if_neg Bool.false_ne_true]at oo;simp (disch:=first|assumption|omega) only[S0,rA,rQ,rB,rT,rE,bH,c1,bR,c2,iT,mW,oo,c3,Sbf,Sbb,zD];rfl
 rw[c4,if_pos rfl]at oo;have hB:Ta7 ⟨b6,⟨ae,aa⟩,aj⟩ rep no=true:=by unfold Ta7;simp only;rw[c1,c2,c3,c4];rfl
 have hR:bP ⟨b6,⟨ae,aa⟩,aj⟩ rep no=(⟨b6,wY ⟨ae,aa⟩ rep no (Aam (Aa5 ⟨b6,⟨ae,aa⟩,aj⟩ rep no) (eY ⟨ae,aa⟩ rep no)),Kaj (vF ae b6 rep no (Aa5 ⟨b6,⟨ae,aa⟩,aj⟩ rep no) (eY ⟨ae,aa⟩ rep no)) aj⟩,Bam ae b6 (Hat rep no (Aa5 ⟨b6,⟨ae,aa⟩,aj⟩ rep no)) ae.toNat,true):=by unfold bP;rw[hB];rfl
 obtain⟨o1,o2,o3,o4⟩:=Gbe c1 c2 c3 (of_decide_eq_true c4);have oB:=Nac (vF ae b6 rep no (Aa5 ⟨b6,⟨ae,aa⟩,aj⟩ rep no) (eY ⟨ae,aa⟩ rep no)) aj;have hsm:=Ta6 o1 (by simp only;omega);have lE:=uF o3 hg;rw[hR];simp only at o1 o2 o3 hsm lE ⊢;generalize Aa5 ⟨b6,⟨ae,aa⟩,aj⟩ rep no=N at *;generalize hW:eY ⟨ae,aa⟩ rep no=W at *;obtain⟨wb,wv,ws,⟨wk,wi,wf,wt,wa⟩,⟨wq,wd⟩⟩:=W;simp only at c3 lE;unfold Aam at *;unfold vF Jbf at *;unfold Hat Jbf;simp only at o1 o2 hsm oB ⊢;obtain⟨a4g,a4t⟩:=hsm;have z1:(aS.mk 1 1).run [i64 b6]=some [rL ([b6]:List Int)]:=rfl;have z4:([b6]:List Int).length<=10000000000:=by simp
 have z5:oF [⟨wb,wv,ws,⟨wk,wi,wf,wt,wa⟩,⟨wq,wd⟩⟩]:=⟨by simp,fun x hx=>by rw[Rbb]at hx;subst hx;simp only;omega⟩;have z6:(none0 ae).deps.length<=10000000000:=by unfold none0;rw[Sbu];omega
 have z7:wd.length<=10000000000:=by omega
 have z8:(.rows 1 []:D)=rL ([]:List Int):=rfl;have z11:([]:List Int)=[]:=rfl;have z9:([]:List gH).length<=1000000000:=by simp
 have z10:([]:List Int).length<=10000000000:=by simp
 have tN:∀ r,(wY ⟨ae,aa⟩ rep no r).n=ae:=fun _=>rfl
 have e0:∀ r,(⟨ae,(wY ⟨ae,aa⟩ rep no r).rows⟩:aY)=wY ⟨ae,aa⟩ rep no r:=fun _=>rfl
 simp (disch:=first|assumption|omega) only[S0,rA,rQ,rB,rT,rE,bH,c1,bR,c2,iT,hW,mW,oo,c3,Sbf,Sbb,zD,mI,fH,z1,z8,uT,Maz,Maw,Ma1,Ma0,tN,e0,o1,o2,Sbk,Sbm]
theorem Jan (b6 ae:Int)(aa:(List (List aZ)))(aj:(List aQ))(rep no:Int)(hs:gQ aa)(h2:iH aj)(hl:aj.length<=2000000):Fun T 56 [i64 b6,i64 ae,rL aa,rL aj,i64 rep,i64 no]=some [i64 (bP ⟨b6,⟨ae,aa⟩,aj⟩ rep no).1.me,i64 (bP ⟨b6,⟨ae,aa⟩,aj⟩ rep no).1.table.n,rL (bP ⟨b6,⟨ae,aa⟩,aj⟩ rep no).1.table.rows,rL (bP ⟨b6,⟨ae,aa⟩,aj⟩ rep no).1.leads,rL (bP ⟨b6,⟨ae,aa⟩,aj⟩ rep no).2.1,.bool (bP ⟨b6,⟨ae,aa⟩,aj⟩ rep no).2.2]:=by
 rw[aK (t:=Cbz) rfl];unfold Cbz
 have zD:(.rows 15 []:D)=rL ([]:List gH):=rfl;cases c1:iN ⟨b6,⟨ae,aa⟩,aj⟩
 ·have hR:bP ⟨b6,⟨ae,aa⟩,aj⟩ rep no=Taa:=by unfold bP Ta7;rw[c1];rfl
  rw[hR];simp (disch:=first|assumption|omega) only[S0,rA,rQ,rB,rT,rE,dO,c1,Sb4,Sbb,zD];rfl
 have ht:=iU c1;have hg:=bL ht;have hn:=aV hg;have pt:=jR ht;have n5:=nQ c1;have zh:=Gar c1;simp only at ht hg hn pt n5 zh;cases c2:inst ae rep no
 ·have hR:bP ⟨b6,⟨ae,aa⟩,aj⟩ rep no=Taa:=by unfold bP Ta7;simp only;rw[c2,Tby];rfl
  rw[hR];simp (disch:=first|assumption|omega) only[S0,rA,rQ,rB,rT,rE,dO,c1,c2,Tby,Sb4,Sbb,zD];rfl
 have hb:=kC ht c2;have uy:=(iQ c2).1;have hi2:=(iQ c2).2;simp only at hb;have jc:inR b6 0 (ae-1)=true:=by simp[inR,zh.1,zh.2]
 cases c3:(eY ⟨ae,aa⟩ rep no).state==3
 rotate_left
 ·have hR:bP ⟨b6,⟨ae,aa⟩,aj⟩ rep no=Taa:=by unfold bP Ta7;simp only;rw[c3,Sbf,Tby,Sb4];rfl
  rw[hR];simp (disch:=first|assumption|omega) only[S0,rA,rQ,rB,rT,rE,dO,c1,c2,c3,Tby,Sbf,Sbb,zD];rfl
 have eN:nb (eY ⟨ae,aa⟩ rep no).ballot b6=Aa5 ⟨b6,⟨ae,aa⟩,aj⟩ rep no:=rfl;cases c4:decide (Aa5 ⟨b6,⟨ae,aa⟩,aj⟩ rep no<=9999)
 ·have hR:bP ⟨b6,⟨ae,aa⟩,aj⟩ rep no=Taa:=by unfold bP Ta7;rw[c4,Tby];rfl
  rw[hR];simp (disch:=first|assumption|omega) only[S0,rA,rQ,rB,rT,rE,dO,c1,c2,c3,oL,eN,c4,Tb1,Sbf,Sbb,zD];rfl
 have hB:Ta7 ⟨b6,⟨ae,aa⟩,aj⟩ rep no=true:=by unfold Ta7;simp only;rw[c1,c2,c3,c4];rfl
 have hR:bP ⟨b6,⟨ae,aa⟩,aj⟩ rep no=(⟨b6,wY ⟨ae,aa⟩ rep no (Aam (Aa5 ⟨b6,⟨ae,aa⟩,aj⟩ rep no) (eY ⟨ae,aa⟩ rep no)),Kaj (vF ae b6 rep no (Aa5 ⟨b6,⟨ae,aa⟩,aj⟩ rep no) (eY ⟨ae,aa⟩ rep no)) aj⟩,Bam ae b6 (Hat rep no (Aa5 ⟨b6,⟨ae,aa⟩,aj⟩ rep no)) ae.toNat,true):=by unfold bP;rw[hB];rfl
 have o3:=Aa0 ht c2;have lE:=uF o3 hg;rw[hR];simp only at o3 lE ⊢;generalize Aa5 ⟨b6,⟨ae,aa⟩,aj⟩ rep no=N at *;generalize hW:eY ⟨ae,aa⟩ rep no=W at *;obtain⟨wb,wv,ws,⟨wk,wi,wf,wt,wa⟩,⟨wq,wd⟩⟩:=W;simp only at c3 lE eN;unfold Aam vF Hat Jbf;simp only;have z1:(aS.mk 1 1).run [i64 b6]=some [rL ([b6]:List Int)]:=rfl;have z4:([b6]:List Int).length<=10000000000:=by simp
 have z5:oF [⟨wb,wv,ws,⟨wk,wi,wf,wt,wa⟩,⟨wq,wd⟩⟩]:=⟨by simp,fun x hx=>by rw[Rbb]at hx;subst hx;simp only;omega⟩;have z6:(none0 ae).deps.length<=10000000000:=by unfold none0;rw[Sbu];omega
 have z7:wd.length<=10000000000:=by omega
 have z8:(.rows 1 []:D)=rL ([]:List Int):=rfl;have z11:([]:List Int)=[]:=rfl;have z9:([]:List gH).length<=1000000000:=by simp
 have tN:∀ r,(wY ⟨ae,aa⟩ rep no r).n=ae:=fun _=>rfl
 simp (disch:=first|assumption|omega) only[S0,rA,rQ,rB,rT,rE,dO,c1,c2,c3,oL,hW,eN,c4,Tb1,Sbf,Sbb,zD,rF,iI,bI,z1,z8,uT,Naz,tJ,Nay,Iae,tN,Sbm]
theorem law (b6 ae:Int)(aa:(List (List aZ)))(aj:(List aQ))(rep:Int)(no:Int)(so:Aax ⟨b6,⟨ae,aa⟩,aj⟩):Fun T 0 [i64 b6,i64 ae,rL aa,rL aj,i64 rep,i64 no]=some [.bool true]:=by
 rw[aK (t:=tm0) rfl];unfold tm0
 by_cases c_r:((bV ⟨b6,⟨ae,aa⟩,aj⟩:Nat):Int)<=1048576
 rotate_left
 ·have e:szR (1048576) (bV ⟨b6,⟨ae,aa⟩,aj⟩)=-1:=if_neg c_r
  (refine aB ?_;repeat' (refine aA ?_ ?_<;>intro _<;>try simp (disch:=first|assumption|omega) only[S0,rA,rQ,rB,rT,rE,Cat,lt0,Nbp, *]))
 have zd:szR (1048576) (bV ⟨b6,⟨ae,aa⟩,aj⟩)=1048576-((bV ⟨b6,⟨ae,aa⟩,aj⟩:Nat):Int):=if_pos c_r;have th:bV ⟨b6,⟨ae,aa⟩,aj⟩<=1048576:=by omega
 have ua:bV ⟨b6,⟨ae,aa⟩,aj⟩<=1099511627776:=by omega
 have pz:=th;rw[Baw]at pz;simp only at pz;have mg:szL (szL aG) aa<=1099511627776:=by first|omega|(have h:=ua;rw[iO]at h;exact h)
 have mh:ctL (ctL aL) aa<=1125899906842624:=by have:=oN (c:=(ctL aL)) (f:=(szL aG)) (m:=16) (by omega) (fun xs=>Rbz (oN (c:=aL) (f:=aG) (m:=16) (by omega) Gax xs) (Nat.le_add_left _ _)) aa;omega
 have qc:szL aJ aj<=1099511627776:=by first|omega|(have h:=ua;rw[iO]at h;exact h)
 have qn:ctL bJ aj<=1125899906842624:=by have:=oN (c:=bJ) (f:=aJ) (m:=16) (by omega) Iax aj;omega
 have s3:Hbh ⟨b6,⟨ae,aa⟩,aj⟩:=Tay th;obtain⟨s4,s5⟩:=s3;simp only at s4 s5;have s6:aj.length<=2000000:=Rbz (bW (f:=aJ)) (by omega);have hz:=Raf (Pao ⟨b6,⟨ae,aa⟩,aj⟩ rep no s6);generalize hA:bP ⟨b6,⟨ae,aa⟩,aj⟩ rep no=A at hz;obtain⟨r1,r2,r3,r4,r5,r6,r7,r8⟩:=hz
 (refine aB ?_;repeat' (refine aA ?_ ?_<;>intro _<;>try simp (disch:=first|assumption|omega) only[S0,rA,rQ,rB,rT,rE,Cat,Nah,Jag,Jan,Nap,Ha7,Nal,Ha3,Nao,Ha5,lt0,Nbp, *]))
theorem hpure:∀ ds,WTs [.int .i64,.int .i64,.sl 24 [.sl 96 [.int .i64,.int .i64,.int .i64,.int .i64,.int .i64,.int .i64,.int .i64,.int .i64,.int .i64,.sl 8 [.int .i64]]],.sl 192 [.int .i64,.int .i64,.int .i64,.int .i64,.int .i64,.int .i64,.int .i64,.int .i64,.int .i64,.int .i64,.sl 8 [.int .i64],.int .i64,.sl 8 [.int .i64],.bool,.sl 8 [.int .i64],.sl 96 [.int .i64,.int .i64,.int .i64,.int .i64,.int .i64,.int .i64,.int .i64,.int .i64,.int .i64,.sl 8 [.int .i64]]],.int .i64,.int .i64] ds->∃ n,lK T n 0 ds=some [.bool true]:=by
 intro ds h;simp only[WTs]at h;obtain⟨d0,r0,rfl,w0,d1,r1,rfl,w1,d2,r2,rfl,w2,d3,r3,rfl,w3,d4,r4,rfl,w4,d5,r5,rfl,w5,rfl⟩:=h;obtain⟨r,zd,so⟩:=Uaw [d0,d1,d2,d3] (by simp only[WTs];exact⟨_,_,rfl,w0,_,_,rfl,w1,_,_,rfl,w2,_,_,rfl,w3,rfl⟩);simp only[Enc.enc,List.cons.injEq,and_true]at zd;obtain⟨rfl,rfl,rfl,rfl⟩:=zd;obtain⟨rep,rfl,a1d,a1j⟩:=jC w4;obtain⟨no,rfl,a5j,a7y⟩:=jC w5;exact Ya7 (law (r.me) (r.table.n) (r.table.rows) (r.leads) rep no so)
end FnExactRecoverAt
end Go.Proofs.YtgpamlpecmldfaaGreat
