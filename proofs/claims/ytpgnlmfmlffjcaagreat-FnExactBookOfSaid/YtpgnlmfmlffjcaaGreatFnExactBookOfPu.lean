/- What the terms of FnExactBookOf come to. -/
import Derived.Test.YtpgnlmfmlffjcaaGreatFnExactBookOfTab
open Bool renaming and_eq_true → Sbu, false_eq_true → Sbv, not_eq_true' → Tbm, beq_eq_decide_eq → Tb1, or_eq_true → Uba, and_assoc → Ubv, true_and → Ubw, or_false → Ubz, not_true → Ub0, decide_and → Ub6, and_true → Ub8, eq_iff_iff → Vba, or_true → Vbk, and_eq_false_iff → Vbm, or_eq_false_iff → Vbt, not_false → Vb1, not_eq_false' → Vb6, true_or → Wbc
open Int renaming toNat_natCast → Tbk, toNat_zero → Vbd
open List renaming length_cons → Sbw, length_nil → Sbx, length_append → Sby, replicate → Sb1, append_assoc → Sb3, length_map → Sb5, mem_singleton → Sb9, append_nil → Tbb, length_take → Tbc, take_length → Tbh, length_replicate → Tbq, filter_append → Tbu, length_drop → Tbx, map_append → Tby, filter_nil → Tbz, filter_cons_of_neg → Tb0, nil_append → Tb2, drop_eq_getElem_cons → Tb6, length_filter_le → Ubb, filter_cons_of_pos → Ubc, length_set → Ubn, not_all_eq_any_not → Ubr, length_pos_of_mem → Ubu, replicate_succ' → Vbf, getElem_take → Vby, filter_eq_self → Vb0, drop_zero → Vb3
open Nat renaming le_refl → Sb7, lt_or_ge → Tbi, le_trans → Tbr, zero_le → Ubo, reduceEqDiff → Vbz, reduceAdd → Wbi
namespace Go.Proofs.YtpgnlmfmlffjcaaGreat
namespace FnExactBookOf
open Go Go.Proofs.YtpgnlmfmlffjcaaGreat.Rf
open Nat renaming reduceAdd → rA, reduceEqDiff → rQ
open Int renaming reduceBEq → rB, reduceLT → rT, reduceLE → rE
set_option linter.unusedSimpArgs false
set_option linter.unusedVariables false
set_option linter.unnecessarySimpa false
set_option maxHeartbeats 4000000
set_option maxRecDepth 10000
theorem Qag (x_kind x_id x_src x_dst x_amt:Int):Fun T 11 [i64 x_kind,i64 x_id,i64 x_src,i64 x_dst,i64 x_amt]=some [i64 x_kind,i64 x_id,i64 x_src,i64 x_dst,i64 x_amt]:=by
 rw[aJ (t:=Vay) rfl];unfold Vay
 (refine aB ?_;repeat' (refine aA ?_ ?_<;>intro _<;>try simp (disch:=first|assumption|omega) only[S0,rA,rQ,rB,rT,rE, *]))
theorem Kad (x_kind x_id x_src x_dst x_amt:Int)(y_kind y_id y_src y_dst y_amt:Int):Fun T 116 [i64 x_kind,i64 x_id,i64 x_src,i64 x_dst,i64 x_amt,i64 y_kind,i64 y_id,i64 y_src,i64 y_dst,i64 y_amt]=some [.bool (decide ((⟨x_kind,x_id,x_src,x_dst,x_amt⟩:oN)=⟨y_kind,y_id,y_src,y_dst,y_amt⟩))]:=by
 rw[aJ (t:=Ea7) rfl];unfold Ea7
 have e:decide ((⟨x_kind,x_id,x_src,x_dst,x_amt⟩:oN)=⟨y_kind,y_id,y_src,y_dst,y_amt⟩)=((x_kind==y_kind)&&(x_id==y_id)&&(x_src==y_src)&&(x_dst==y_dst)&&(x_amt==y_amt)):=by
  simp only[oN.mk.injEq,Tb1,Ub6,Ubv]
 rw[e]
 (refine aB ?_;repeat' (refine aA ?_ ?_<;>intro _<;>try simp (disch:=first|assumption|omega) only[S0,rA,rQ,rB,rT,rE, *]))
theorem Uad (xs:(List Int))(l:Int)(h0:0<=l)(h1:l<=1048576)(hw:xs.length<=140737488351232):Fun T 6 [rL xs,i64 l]=some [i64 (szR l (szL (fun _=>0) xs))]:=by
 rw[aJ (t:=tm6) rfl];unfold tm6
 have es:szL (fun _=>0) xs=xs.length:=kN
 rw[es]
 by_cases c:(xs.length:Int)<=l
 ·have e:szR l xs.length=l-xs.length:=if_pos c
  have d:decide (l-(xs.length:Int)<0)=false:=by simp;omega
  (refine aB ?_;repeat' (refine aA ?_ ?_<;>intro _<;>try simp (disch:=first|assumption|omega) only[S0,rA,rQ,rB,rT,rE, *]))
 ·have e:szR l xs.length=-1:=if_neg c
  have d:decide (l-(xs.length:Int)<0)=true:=by simp;omega
  (refine aB ?_;repeat' (refine aA ?_ ?_<;>intro _<;>try simp (disch:=first|assumption|omega) only[S0,rA,rQ,rB,rT,rE, *]))
theorem Ebp (xs:(List Int))(hs:szL (fun _=>0) xs<=1048576):Fun T 13 [rL xs]=some [rL xs]:=by
 rw[aJ (t:=Za6) rfl];unfold Za6
 have hl:xs.length<=1048576:=Tbr lS hs
 simp (disch:=first|assumption|omega) only[S0,rA,rQ,rB,rT,rE,pI,Tbk, *]
 rw[Na5 xs rfl]
 ·(refine aB ?_;repeat' (refine aA ?_ ?_<;>intro _<;>try simp (disch:=first|assumption|omega) only[S0,rA,rQ,rB,rT,rE, *]))
 ·intro i ys hi hb hb' hl'
  (refine aB ?_;repeat' (refine aA ?_ ?_<;>intro _<;>try simp (disch:=first|assumption|omega) only[S0,rA,rQ,rB,rT,rE,aI,lZ, *]))
 ·intro ys hl'
  (refine aB ?_;repeat' (refine aA ?_ ?_<;>intro _<;>try simp (disch:=first|assumption|omega) only[S0,rA,rQ,rB,rT,rE, *]))
theorem Abw (xs ys:(List Int))(hs:szL (fun _=>0) xs<=1099511627776):Fun T 113 [rL xs,rL ys]=some [.bool (decide (xs=ys))]:=by
 rw[aJ (t:=Naj) rfl];unfold Naj
 have hx:xs.length<=1099511627776:=Tbr lS hs
 by_cases hl:ys.length=xs.length
 ·simp (disch:=first|assumption|omega) only[S0,rA,rQ,rB,rT,rE, *]
  rw[Day 1 xs.length (fun i=>decide (atI xs i=atI ys i)) [.bool false],oM hl.symm]
  ·(refine aB ?_;repeat' (refine aA ?_ ?_<;>intro _<;>try simp (disch:=first|assumption|omega) only[S0,rA,rQ,rB,rT,rE, *]))
  ·intro i hi hp
   have hb:InB xs (i:Int):=aG.2 hi
   have hb':InB ys (i:Int):=aG.2 (by omega)
   have h2:decide ((i:Int)<xs.length)=true:=by simp;omega
   have h3:(atI xs i==atI ys i)=true:=by simpa using hp
   (refine aB ?_;repeat' (refine aA ?_ ?_<;>intro _<;>try simp (disch:=first|assumption|omega) only[S0,rA,rQ,rB,rT,rE,aI, *]))
  ·intro i hi hp
   have hb:InB xs (i:Int):=aG.2 hi
   have hb':InB ys (i:Int):=aG.2 (by omega)
   have h2:decide ((i:Int)<xs.length)=true:=by simp;omega
   have h3:(atI xs i==atI ys i)=false:=by simpa using hp
   (refine aB ?_;repeat' (refine aA ?_ ?_<;>intro _<;>try simp (disch:=first|assumption|omega) only[S0,rA,rQ,rB,rT,rE,aI, *]))
  ·have h2:decide ((xs.length:Int)<xs.length)=false:=by simp
   (refine aB ?_;repeat' (refine aA ?_ ?_<;>intro _<;>try simp (disch:=first|assumption|omega) only[S0,rA,rQ,rB,rT,rE, *]))
 ·have hl':((xs.length:Int)==(ys.length:Int))=false:=by simp;omega
  have e:=vF (fun h=>hl h.symm)
  (refine aB ?_;repeat' (refine aA ?_ ?_<;>intro _<;>try simp (disch:=first|assumption|omega) only[S0,rA,rQ,rB,rT,rE, *]))
theorem Lbm (xs:(List Int))(k:Int)(hk:0<=k)(hb:k+(ctL (fun _=>1) xs:Nat)<=1152921504606846976)(hl:xs.length<=1099511627776):Fun T 126 [rL xs,i64 k]=some [i64 (k+(ctL (fun _=>1) xs:Nat)),rL (mkL (fun _=>1) (fun _ k=>k) xs k)]:=by
 rw[aJ (t:=Eax) rfl];unfold Eax
 have hx:xs.length<=1099511627776:=hl
 simp (disch:=first|assumption|omega) only[S0,rA,rQ,rB,rT,rE, *]
 rw[Kab xs (fun _=>1) (fun _ k=>k) k rfl rfl rfl hk hb ?_ ?_ (by omega)]
 ·(refine aB ?_;repeat' (refine aA ?_ ?_<;>intro _<;>try simp (disch:=first|assumption|omega) only[S0,rA,rQ,rB,rT,rE, *]))
 ·intro i ys m hi hy hb hlt hat hm hc hlen
  have hc':m+1<=1152921504606846976:=hc
  (refine aB ?_;repeat' (refine aA ?_ ?_<;>intro _<;>try simp (disch:=first|assumption|omega|(simp only[iV];assumption)) only[S0,rA,rQ,rB,rT,rE,aI,lZ,iV, *]))
  rfl
 ·intro ys m hy hlt
  (refine aB ?_;repeat' (refine aA ?_ ?_<;>intro _<;>try simp (disch:=first|assumption|omega) only[S0,rA,rQ,rB,rT,rE, *]))
theorem Pb3 (xs:(List Int))(k:Int)(hk:0<=k)(hb:k+(ctL (fun _=>1) xs:Nat)<=1152921504606846976)(hl:xs.length<=1099511627776):Fun T 128 [rL (mkL (fun _=>1) (fun _ k=>k) xs k),i64 k]=some [i64 (k+(ctL (fun _=>1) xs:Nat))]:=by
 rw[aJ (t:=Pat) rfl];unfold Pat
 have hx:xs.length<=1099511627776:=hl
 simp (disch:=first|assumption|omega) only[S0,rA,rQ,rB,rT,rE, *]
 rw[Ab2 xs (fun _=>1) (fun _ k=>k) k rfl hk hb (by omega)]
 ·(refine aB ?_;repeat' (refine aA ?_ ?_<;>intro _<;>try simp (disch:=first|assumption|omega) only[S0,rA,rQ,rB,rT,rE, *]))
 ·intro i m hi hb hy hlt hat hm hc hlen
  have hc':m+1<=1152921504606846976:=hc
  (refine aB ?_;repeat' (refine aA ?_ ?_<;>intro _<;>try simp (disch:=first|assumption|omega) only[S0,rA,rQ,rB,rT,rE,aI, *]))
  rfl
 ·intro m hy hlt
  (refine aB ?_;repeat' (refine aA ?_ ?_<;>intro _<;>try simp (disch:=first|assumption|omega) only[S0,rA,rQ,rB,rT,rE, *]))
theorem Bad (x_seq:Int)(x_deps:(List Int))(l:Int)(h0:0<=l)(h1:l<=1048576)(hw:Eau ⟨x_seq,x_deps⟩):Fun T 5 [i64 x_seq,rL x_deps,i64 l]=some [i64 (szR l (bS ⟨x_seq,x_deps⟩))]:=by
 rw[aJ (t:=tm5) rfl];unfold tm5
 unfold Eau at hw
 simp only at hw
 have w0:=hw
 by_cases c0:((szL (fun _=>0) x_deps:Nat):Int)<=l
 rotate_left
 ·have e0:szR (l) (szL (fun _=>0) x_deps)=-1:=if_neg c0
  have d0:decide ((-1:Int)<0)=true:=rfl
  have e:szR l (bS ⟨x_seq,x_deps⟩)=-1:=by unfold szR bS;simp only[];split<;>omega
  (refine aB ?_;repeat' (refine aA ?_ ?_<;>intro _<;>try simp (disch:=first|assumption|omega) only[S0,rA,rQ,rB,rT,rE,Uad, *]))
 have e0:szR (l) (szL (fun _=>0) x_deps)=l-(szL (fun _=>0) x_deps:Nat):=if_pos c0
 have d0:decide (l-((szL (fun _=>0) x_deps:Nat):Int)<0)=false:=by simp;omega
 have e:szR l (bS ⟨x_seq,x_deps⟩)=l-((szL (fun _=>0) x_deps:Nat):Int):=by unfold szR bS;simp only[];split<;>omega
 (refine aB ?_;repeat' (refine aA ?_ ?_<;>intro _<;>try simp (disch:=first|assumption|omega) only[S0,rA,rQ,rB,rT,rE,Uad, *]))
theorem Lah (x_seq:Int)(x_deps:(List Int))(hs:bS ⟨x_seq,x_deps⟩<=1048576):Fun T 12 [i64 x_seq,rL x_deps]=some [i64 x_seq,rL x_deps]:=by
 rw[aJ (t:=Za7) rfl];unfold Za7
 unfold bS at hs
 simp only at hs
 have s0:szL (fun _=>0) x_deps<=1048576:=by omega
 (refine aB ?_;repeat' (refine aA ?_ ?_<;>intro _<;>try simp (disch:=first|assumption|omega) only[S0,rA,rQ,rB,rT,rE,Ebp, *]))
theorem Lam (x_seq:Int)(x_deps:(List Int))(y_seq:Int)(y_deps:(List Int))(hs:bS ⟨x_seq,x_deps⟩<=1099511627776):Fun T 122 [i64 x_seq,rL x_deps,i64 y_seq,rL y_deps]=some [.bool (decide ((⟨x_seq,x_deps⟩:iN)=⟨y_seq,y_deps⟩))]:=by
 rw[aJ (t:=Ea1) rfl];unfold Ea1
 unfold bS at hs
 simp only at hs
 have s0:szL (fun _=>0) x_deps<=1099511627776:=by omega
 have e:decide ((⟨x_seq,x_deps⟩:iN)=⟨y_seq,y_deps⟩)=((x_seq==y_seq)&&decide ((x_deps:(List Int))=y_deps)):=by
  simp only[iN.mk.injEq,Tb1,Ub6,Ubv]
 rw[e]
 (refine aB ?_;repeat' (refine aA ?_ ?_<;>intro _<;>try simp (disch:=first|assumption|omega) only[S0,rA,rQ,rB,rT,rE,Abw, *]))
theorem Gae (x_ballot x_vote x_state x_cmd_kind x_cmd_id x_cmd_src x_cmd_dst x_cmd_amt x_attr_seq:Int)(x_attr_deps:(List Int))(l:Int)(h0:0<=l)(h1:l<=1048576)(hw:qQ ⟨x_ballot,x_vote,x_state,⟨x_cmd_kind,x_cmd_id,x_cmd_src,x_cmd_dst,x_cmd_amt⟩,⟨x_attr_seq,x_attr_deps⟩⟩):Fun T 4 [i64 x_ballot,i64 x_vote,i64 x_state,i64 x_cmd_kind,i64 x_cmd_id,i64 x_cmd_src,i64 x_cmd_dst,i64 x_cmd_amt,i64 x_attr_seq,rL x_attr_deps,i64 l]=some [i64 (szR l (aL ⟨x_ballot,x_vote,x_state,⟨x_cmd_kind,x_cmd_id,x_cmd_src,x_cmd_dst,x_cmd_amt⟩,⟨x_attr_seq,x_attr_deps⟩⟩))]:=by
 rw[aJ (t:=tm4) rfl];unfold tm4
 unfold qQ at hw
 simp only at hw
 have w0:=hw
 by_cases c0:((bS ⟨x_attr_seq,x_attr_deps⟩:Nat):Int)<=l
 rotate_left
 ·have e0:szR (l) (bS ⟨x_attr_seq,x_attr_deps⟩)=-1:=if_neg c0
  have d0:decide ((-1:Int)<0)=true:=rfl
  have e:szR l (aL ⟨x_ballot,x_vote,x_state,⟨x_cmd_kind,x_cmd_id,x_cmd_src,x_cmd_dst,x_cmd_amt⟩,⟨x_attr_seq,x_attr_deps⟩⟩)=-1:=by unfold szR aL;simp only[];split<;>omega
  (refine aB ?_;repeat' (refine aA ?_ ?_<;>intro _<;>try simp (disch:=first|assumption|omega) only[S0,rA,rQ,rB,rT,rE,Bad, *]))
 have e0:szR (l) (bS ⟨x_attr_seq,x_attr_deps⟩)=l-(bS ⟨x_attr_seq,x_attr_deps⟩:Nat):=if_pos c0
 have d0:decide (l-((bS ⟨x_attr_seq,x_attr_deps⟩:Nat):Int)<0)=false:=by simp;omega
 have e:szR l (aL ⟨x_ballot,x_vote,x_state,⟨x_cmd_kind,x_cmd_id,x_cmd_src,x_cmd_dst,x_cmd_amt⟩,⟨x_attr_seq,x_attr_deps⟩⟩)=l-((bS ⟨x_attr_seq,x_attr_deps⟩:Nat):Int):=by unfold szR aL;simp only[];split<;>omega
 (refine aB ?_;repeat' (refine aA ?_ ?_<;>intro _<;>try simp (disch:=first|assumption|omega) only[S0,rA,rQ,rB,rT,rE,Bad, *]))
theorem Qaf (x_ballot x_vote x_state x_cmd_kind x_cmd_id x_cmd_src x_cmd_dst x_cmd_amt x_attr_seq:Int)(x_attr_deps:(List Int))(hs:aL ⟨x_ballot,x_vote,x_state,⟨x_cmd_kind,x_cmd_id,x_cmd_src,x_cmd_dst,x_cmd_amt⟩,⟨x_attr_seq,x_attr_deps⟩⟩<=1048576):Fun T 10 [i64 x_ballot,i64 x_vote,i64 x_state,i64 x_cmd_kind,i64 x_cmd_id,i64 x_cmd_src,i64 x_cmd_dst,i64 x_cmd_amt,i64 x_attr_seq,rL x_attr_deps]=some [i64 x_ballot,i64 x_vote,i64 x_state,i64 x_cmd_kind,i64 x_cmd_id,i64 x_cmd_src,i64 x_cmd_dst,i64 x_cmd_amt,i64 x_attr_seq,rL x_attr_deps]:=by
 rw[aJ (t:=Za8) rfl];unfold Za8
 unfold aL at hs
 simp only at hs
 have s0:bS ⟨x_attr_seq,x_attr_deps⟩<=1048576:=by omega
 (refine aB ?_;repeat' (refine aA ?_ ?_<;>intro _<;>try simp (disch:=first|assumption|omega) only[S0,rA,rQ,rB,rT,rE,Qag,Lah, *]))
theorem Gaf (x_ballot x_vote x_state x_cmd_kind x_cmd_id x_cmd_src x_cmd_dst x_cmd_amt x_attr_seq:Int)(x_attr_deps:(List Int))(y_ballot y_vote y_state y_cmd_kind y_cmd_id y_cmd_src y_cmd_dst y_cmd_amt y_attr_seq:Int)(y_attr_deps:(List Int))(hs:aL ⟨x_ballot,x_vote,x_state,⟨x_cmd_kind,x_cmd_id,x_cmd_src,x_cmd_dst,x_cmd_amt⟩,⟨x_attr_seq,x_attr_deps⟩⟩<=1099511627776):Fun T 121 [i64 x_ballot,i64 x_vote,i64 x_state,i64 x_cmd_kind,i64 x_cmd_id,i64 x_cmd_src,i64 x_cmd_dst,i64 x_cmd_amt,i64 x_attr_seq,rL x_attr_deps,i64 y_ballot,i64 y_vote,i64 y_state,i64 y_cmd_kind,i64 y_cmd_id,i64 y_cmd_src,i64 y_cmd_dst,i64 y_cmd_amt,i64 y_attr_seq,rL y_attr_deps]=some [.bool (decide ((⟨x_ballot,x_vote,x_state,⟨x_cmd_kind,x_cmd_id,x_cmd_src,x_cmd_dst,x_cmd_amt⟩,⟨x_attr_seq,x_attr_deps⟩⟩:aY)=⟨y_ballot,y_vote,y_state,⟨y_cmd_kind,y_cmd_id,y_cmd_src,y_cmd_dst,y_cmd_amt⟩,⟨y_attr_seq,y_attr_deps⟩⟩))]:=by
 rw[aJ (t:=Ea2) rfl];unfold Ea2
 unfold aL at hs
 simp only at hs
 have s0:bS ⟨x_attr_seq,x_attr_deps⟩<=1099511627776:=by omega
 have e:decide ((⟨x_ballot,x_vote,x_state,⟨x_cmd_kind,x_cmd_id,x_cmd_src,x_cmd_dst,x_cmd_amt⟩,⟨x_attr_seq,x_attr_deps⟩⟩:aY)=⟨y_ballot,y_vote,y_state,⟨y_cmd_kind,y_cmd_id,y_cmd_src,y_cmd_dst,y_cmd_amt⟩,⟨y_attr_seq,y_attr_deps⟩⟩)=((x_ballot==y_ballot)&&(x_vote==y_vote)&&(x_state==y_state)&&decide ((⟨x_cmd_kind,x_cmd_id,x_cmd_src,x_cmd_dst,x_cmd_amt⟩:oN)=⟨y_cmd_kind,y_cmd_id,y_cmd_src,y_cmd_dst,y_cmd_amt⟩)&&decide ((⟨x_attr_seq,x_attr_deps⟩:iN)=⟨y_attr_seq,y_attr_deps⟩)):=by
  simp only[aY.mk.injEq,Tb1,Ub6,Ubv]
 rw[e]
 (refine aB ?_;repeat' (refine aA ?_ ?_<;>intro _<;>try simp (disch:=first|assumption|omega) only[S0,rA,rQ,rB,rT,rE,Kad,Lam, *]))
theorem Bae (xs:(List aY))(l:Int)(h0:0<=l)(h1:l<=1048576)(hw:xs.length<=140737488351232/\∀ y0∈xs,qQ y0):Fun T 3 [rL xs,i64 l]=some [i64 (szR l (szL aL xs))]:=by
 rw[aJ (t:=tm3) rfl];unfold tm3
 obtain⟨hw1,hw2⟩:=hw
 by_cases c:(xs.length:Int)<=l
 ·have d:decide (l-(xs.length:Int)<0)=false:=by simp;omega
  simp (disch:=first|assumption|omega) only[S0,rA,rQ,rB,rT,rE, *]
  rw[Aba xs aL (l-xs.length) rfl (by omega) (by omega)]
  ·by_cases hd:((xs.map aL).sum:Int)<=l-xs.length
   ·have e:szR l (szL aL xs)=l-xs.length-((xs.map aL).sum:Nat):=by unfold szR;rw[show (szL aL xs)=xs.length+(xs.map aL).sum from rfl,if_pos (by omega)];omega
    rw[decide_eq_true hd]
    (refine aB ?_;repeat' (refine aA ?_ ?_<;>intro _<;>try simp (disch:=first|assumption|omega) only[S0,rA,rQ,rB,rT,rE, *]))
   ·have e:szR l (szL aL xs)=-1:=by unfold szR;rw[show (szL aL xs)=xs.length+(xs.map aL).sum from rfl,if_neg (by omega)]
    rw[decide_eq_false hd]
    (refine aB ?_;repeat' (refine aA ?_ ?_<;>intro _<;>try simp (disch:=first|assumption|omega) only[S0,rA,rQ,rB,rT,rE, *]))
  ·intro i m hi hb hl hm hm' hf hr hd
   have hq:=hw2 _ (at_mem hi)
   (refine aB ?_;repeat' (refine aA ?_ ?_<;>intro _<;>try simp (disch:=first|assumption|omega) only[S0,rA,rQ,rB,rT,rE,aI,Gae, *]))
  ·intro i m hi hb hl hm hm' hf hr hd
   have hq:=hw2 _ (at_mem hi)
   (refine aB ?_;repeat' (refine aA ?_ ?_<;>intro _<;>try simp (disch:=first|assumption|omega) only[S0,rA,rQ,rB,rT,rE,aI,Gae, *]))
  ·intro m hl
   (refine aB ?_;repeat' (refine aA ?_ ?_<;>intro _<;>try simp (disch:=first|assumption|omega) only[S0,rA,rQ,rB,rT,rE, *]))
 ·have e:szR l (szL aL xs)=-1:=by unfold szR;rw[show (szL aL xs)=xs.length+(xs.map aL).sum from rfl,if_neg (by omega)]
  have d:decide (l-(xs.length:Int)<0)=true:=by simp;omega
  (refine aB ?_;repeat' (refine aA ?_ ?_<;>intro _<;>try simp (disch:=first|assumption|omega) only[S0,rA,rQ,rB,rT,rE, *]))
theorem Lai (xs:(List aY))(hs:szL aL xs<=1048576):Fun T 9 [rL xs]=some [rL xs]:=by
 rw[aJ (t:=tm9) rfl];unfold tm9
 have hl:xs.length<=1048576:=Tbr lS hs
 simp (disch:=first|assumption|omega) only[S0,rA,rQ,rB,rT,rE,pI,Tbk, *]
 rw[Na5 xs rfl]
 ·(refine aB ?_;repeat' (refine aA ?_ ?_<;>intro _<;>try simp (disch:=first|assumption|omega) only[S0,rA,rQ,rB,rT,rE, *]))
 ·intro i ys hi hb hb' hl'
  have hq:aL (atI xs i)<=1048576:=by
   have:=lQ (f:=aL) (at_mem hi)
   omega
  (refine aB ?_;repeat' (refine aA ?_ ?_<;>intro _<;>try simp (disch:=first|assumption|omega) only[S0,rA,rQ,rB,rT,rE,aI,lZ,Qaf, *]))
 ·intro ys hl'
  (refine aB ?_;repeat' (refine aA ?_ ?_<;>intro _<;>try simp (disch:=first|assumption|omega) only[S0,rA,rQ,rB,rT,rE, *]))
theorem Baf (xs ys:(List aY))(hs:szL aL xs<=1099511627776):Fun T 120 [rL xs,rL ys]=some [.bool (decide (xs=ys))]:=by
 rw[aJ (t:=Ea3) rfl];unfold Ea3
 have hx:xs.length<=1099511627776:=Tbr lS hs
 by_cases hl:ys.length=xs.length
 ·simp (disch:=first|assumption|omega) only[S0,rA,rQ,rB,rT,rE, *]
  rw[Day 1 xs.length (fun i=>decide (atI xs i=atI ys i)) [.bool false],oM hl.symm]
  ·(refine aB ?_;repeat' (refine aA ?_ ?_<;>intro _<;>try simp (disch:=first|assumption|omega) only[S0,rA,rQ,rB,rT,rE, *]))
  ·intro i hi hp
   have hb:InB xs (i:Int):=aG.2 hi
   have hb':InB ys (i:Int):=aG.2 (by omega)
   have h2:decide ((i:Int)<xs.length)=true:=by simp;omega
   have hq:aL (atI xs i)<=1099511627776:=by
    have:=lQ (f:=aL) (at_mem hi)
    omega
   (refine aB ?_;repeat' (refine aA ?_ ?_<;>intro _<;>try simp (disch:=first|assumption|omega) only[S0,rA,rQ,rB,rT,rE,aI,Gaf, *]))
  ·intro i hi hp
   have hb:InB xs (i:Int):=aG.2 hi
   have hb':InB ys (i:Int):=aG.2 (by omega)
   have h2:decide ((i:Int)<xs.length)=true:=by simp;omega
   have hq:aL (atI xs i)<=1099511627776:=by
    have:=lQ (f:=aL) (at_mem hi)
    omega
   (refine aB ?_;repeat' (refine aA ?_ ?_<;>intro _<;>try simp (disch:=first|assumption|omega) only[S0,rA,rQ,rB,rT,rE,aI,Gaf, *]))
  ·have h2:decide ((xs.length:Int)<xs.length)=false:=by simp
   (refine aB ?_;repeat' (refine aA ?_ ?_<;>intro _<;>try simp (disch:=first|assumption|omega) only[S0,rA,rQ,rB,rT,rE, *]))
 ·have hl':((xs.length:Int)==(ys.length:Int))=false:=by simp;omega
  have e:=vF (fun h=>hl h.symm)
  (refine aB ?_;repeat' (refine aA ?_ ?_<;>intro _<;>try simp (disch:=first|assumption|omega) only[S0,rA,rQ,rB,rT,rE, *]))
theorem Ebs (xs:(List aY))(k:Int)(hk:0<=k)(hb:k+(ctL iH xs:Nat)<=1152921504606846976)(hl:szL aL xs<=1099511627776):Fun T 125 [rL xs,i64 k]=some [i64 (k+(ctL iH xs:Nat)),rL (mkL iH Hav xs k)]:=by
 rw[aJ (t:=Eay) rfl];unfold Eay
 have hx:xs.length<=1099511627776:=Tbr lS hl
 simp (disch:=first|assumption|omega) only[S0,rA,rQ,rB,rT,rE, *]
 rw[Kab xs iH Hav k rfl rfl rfl hk hb ?_ ?_ (by omega)]
 ·(refine aB ?_;repeat' (refine aA ?_ ?_<;>intro _<;>try simp (disch:=first|assumption|omega) only[S0,rA,rQ,rB,rT,rE, *]))
 ·intro i ys m hi hy hb hlt hat hm hc hlen
  have ec:m+1+1+1+1+1+1+1+1+1+(ctL (fun _=>1) (atI xs (i:Int)).attr.deps:Nat)=m+(iH (atI xs i):Nat):=by rw[Raf];omega
  have hq:aL (atI xs i)<=1099511627776:=by
   have:=lQ (f:=aL) (at_mem hi)
   omega
  rw[Za9]at hq
  rw[Raf]at hc
  have hl__attr_deps:(atI xs i).attr.deps.length<=1099511627776:=by omega
  (refine aB ?_;repeat' (refine aA ?_ ?_<;>intro _<;>try simp (disch:=first|assumption|omega|(simp only[iV];assumption)) only[S0,rA,rQ,rB,rT,rE,aI,lZ,iV,Lbm, *]))
  all_goals (try simp only[Hav,ec])
 ·intro ys m hy hlt
  (refine aB ?_;repeat' (refine aA ?_ ?_<;>intro _<;>try simp (disch:=first|assumption|omega) only[S0,rA,rQ,rB,rT,rE, *]))
theorem xK (xs:(List (List aY)))(l:Int)(h0:0<=l)(h1:l<=1048576)(hw:xs.length<=140737488351232/\∀ y0∈xs,y0.length<=140737488351232/\∀ y1∈y0,qQ y1):Fun T 2 [rL xs,i64 l]=some [i64 (szR l (szL (szL aL) xs))]:=by
 rw[aJ (t:=tm2) rfl];unfold tm2
 obtain⟨hw1,hw2⟩:=hw
 by_cases c:(xs.length:Int)<=l
 ·have d:decide (l-(xs.length:Int)<0)=false:=by simp;omega
  simp (disch:=first|assumption|omega) only[S0,rA,rQ,rB,rT,rE, *]
  rw[Aba xs (szL aL) (l-xs.length) rfl (by omega) (by omega)]
  ·by_cases hd:((xs.map (szL aL)).sum:Int)<=l-xs.length
   ·have e:szR l (szL (szL aL) xs)=l-xs.length-((xs.map (szL aL)).sum:Nat):=by unfold szR;rw[show (szL (szL aL) xs)=xs.length+(xs.map (szL aL)).sum from rfl,if_pos (by omega)];omega
    rw[decide_eq_true hd]
    (refine aB ?_;repeat' (refine aA ?_ ?_<;>intro _<;>try simp (disch:=first|assumption|omega) only[S0,rA,rQ,rB,rT,rE, *]))
   ·have e:szR l (szL (szL aL) xs)=-1:=by unfold szR;rw[show (szL (szL aL) xs)=xs.length+(xs.map (szL aL)).sum from rfl,if_neg (by omega)]
    rw[decide_eq_false hd]
    (refine aB ?_;repeat' (refine aA ?_ ?_<;>intro _<;>try simp (disch:=first|assumption|omega) only[S0,rA,rQ,rB,rT,rE, *]))
  ·intro i m hi hb hl hm hm' hf hr hd
   have hq:=hw2 _ (at_mem hi)
   (refine aB ?_;repeat' (refine aA ?_ ?_<;>intro _<;>try simp (disch:=first|assumption|omega) only[S0,rA,rQ,rB,rT,rE,aI,Bae, *]))
  ·intro i m hi hb hl hm hm' hf hr hd
   have hq:=hw2 _ (at_mem hi)
   (refine aB ?_;repeat' (refine aA ?_ ?_<;>intro _<;>try simp (disch:=first|assumption|omega) only[S0,rA,rQ,rB,rT,rE,aI,Bae, *]))
  ·intro m hl
   (refine aB ?_;repeat' (refine aA ?_ ?_<;>intro _<;>try simp (disch:=first|assumption|omega) only[S0,rA,rQ,rB,rT,rE, *]))
 ·have e:szR l (szL (szL aL) xs)=-1:=by unfold szR;rw[show (szL (szL aL) xs)=xs.length+(xs.map (szL aL)).sum from rfl,if_neg (by omega)]
  have d:decide (l-(xs.length:Int)<0)=true:=by simp;omega
  (refine aB ?_;repeat' (refine aA ?_ ?_<;>intro _<;>try simp (disch:=first|assumption|omega) only[S0,rA,rQ,rB,rT,rE, *]))
theorem Hax (xs:(List (List aY)))(hs:szL (szL aL) xs<=1048576):Fun T 8 [rL xs]=some [rL xs]:=by
 rw[aJ (t:=tm8) rfl];unfold tm8
 have hl:xs.length<=1048576:=Tbr lS hs
 simp (disch:=first|assumption|omega) only[S0,rA,rQ,rB,rT,rE,pI,Tbk, *]
 rw[Na5 xs rfl]
 ·(refine aB ?_;repeat' (refine aA ?_ ?_<;>intro _<;>try simp (disch:=first|assumption|omega) only[S0,rA,rQ,rB,rT,rE, *]))
 ·intro i ys hi hb hb' hl'
  have hq:szL aL (atI xs i)<=1048576:=by
   have:=lQ (f:=(szL aL)) (at_mem hi)
   omega
  (refine aB ?_;repeat' (refine aA ?_ ?_<;>intro _<;>try simp (disch:=first|assumption|omega) only[S0,rA,rQ,rB,rT,rE,aI,lZ,Lai, *]))
 ·intro ys hl'
  (refine aB ?_;repeat' (refine aA ?_ ?_<;>intro _<;>try simp (disch:=first|assumption|omega) only[S0,rA,rQ,rB,rT,rE, *]))
theorem Ha0 (xs ys:(List (List aY)))(hs:szL (szL aL) xs<=1099511627776):Fun T 119 [rL xs,rL ys]=some [.bool (decide (xs=ys))]:=by
 rw[aJ (t:=Ea4) rfl];unfold Ea4
 have hx:xs.length<=1099511627776:=Tbr lS hs
 by_cases hl:ys.length=xs.length
 ·simp (disch:=first|assumption|omega) only[S0,rA,rQ,rB,rT,rE, *]
  rw[Day 1 xs.length (fun i=>decide (atI xs i=atI ys i)) [.bool false],oM hl.symm]
  ·(refine aB ?_;repeat' (refine aA ?_ ?_<;>intro _<;>try simp (disch:=first|assumption|omega) only[S0,rA,rQ,rB,rT,rE, *]))
  ·intro i hi hp
   have hb:InB xs (i:Int):=aG.2 hi
   have hb':InB ys (i:Int):=aG.2 (by omega)
   have h2:decide ((i:Int)<xs.length)=true:=by simp;omega
   have hq:szL aL (atI xs i)<=1099511627776:=by
    have:=lQ (f:=(szL aL)) (at_mem hi)
    omega
   (refine aB ?_;repeat' (refine aA ?_ ?_<;>intro _<;>try simp (disch:=first|assumption|omega) only[S0,rA,rQ,rB,rT,rE,aI,Baf, *]))
  ·intro i hi hp
   have hb:InB xs (i:Int):=aG.2 hi
   have hb':InB ys (i:Int):=aG.2 (by omega)
   have h2:decide ((i:Int)<xs.length)=true:=by simp;omega
   have hq:szL aL (atI xs i)<=1099511627776:=by
    have:=lQ (f:=(szL aL)) (at_mem hi)
    omega
   (refine aB ?_;repeat' (refine aA ?_ ?_<;>intro _<;>try simp (disch:=first|assumption|omega) only[S0,rA,rQ,rB,rT,rE,aI,Baf, *]))
  ·have h2:decide ((xs.length:Int)<xs.length)=false:=by simp
   (refine aB ?_;repeat' (refine aA ?_ ?_<;>intro _<;>try simp (disch:=first|assumption|omega) only[S0,rA,rQ,rB,rT,rE, *]))
 ·have hl':((xs.length:Int)==(ys.length:Int))=false:=by simp;omega
  have e:=vF (fun h=>hl h.symm)
  (refine aB ?_;repeat' (refine aA ?_ ?_<;>intro _<;>try simp (disch:=first|assumption|omega) only[S0,rA,rQ,rB,rT,rE, *]))
theorem Cbc (xs:(List (List aY)))(k:Int)(hk:0<=k)(hb:k+(ctL (ctL iH) xs:Nat)<=1152921504606846976)(hl:szL (szL aL) xs<=1099511627776):Fun T 124 [rL xs,i64 k]=some [i64 (k+(ctL (ctL iH) xs:Nat)),rL (mkL (ctL iH) (mkL iH Hav) xs k)]:=by
 rw[aJ (t:=Eaz) rfl];unfold Eaz
 have hx:xs.length<=1099511627776:=Tbr lS hl
 simp (disch:=first|assumption|omega) only[S0,rA,rQ,rB,rT,rE, *]
 rw[Kab xs (ctL iH) (mkL iH Hav) k rfl rfl rfl hk hb ?_ ?_ (by omega)]
 ·(refine aB ?_;repeat' (refine aA ?_ ?_<;>intro _<;>try simp (disch:=first|assumption|omega) only[S0,rA,rQ,rB,rT,rE, *]))
 ·intro i ys m hi hy hb hlt hat hm hc hlen
  have hq:szL aL (atI xs i)<=1099511627776:=by
   have:=lQ (f:=(szL aL)) (at_mem hi)
   omega
  (refine aB ?_;repeat' (refine aA ?_ ?_<;>intro _<;>try simp (disch:=first|assumption|omega|(simp only[iV];assumption)) only[S0,rA,rQ,rB,rT,rE,aI,lZ,iV,Ebs, *]))
 ·intro ys m hy hlt
  (refine aB ?_;repeat' (refine aA ?_ ?_<;>intro _<;>try simp (disch:=first|assumption|omega) only[S0,rA,rQ,rB,rT,rE, *]))
theorem xJ (x_n:Int)(x_rows:(List (List aY)))(l:Int)(h0:0<=l)(h1:l<=1048576)(hw:uI ⟨x_n,x_rows⟩):Fun T 1 [i64 x_n,rL x_rows,i64 l]=some [i64 (szR l (bQ ⟨x_n,x_rows⟩))]:=by
 rw[aJ (t:=tm1) rfl];unfold tm1
 unfold uI at hw
 simp only at hw
 have w0:=hw
 by_cases c0:((szL (szL aL) x_rows:Nat):Int)<=l
 rotate_left
 ·have e0:szR (l) (szL (szL aL) x_rows)=-1:=if_neg c0
  have d0:decide ((-1:Int)<0)=true:=rfl
  have e:szR l (bQ ⟨x_n,x_rows⟩)=-1:=by unfold szR bQ;simp only[];split<;>omega
  (refine aB ?_;repeat' (refine aA ?_ ?_<;>intro _<;>try simp (disch:=first|assumption|omega) only[S0,rA,rQ,rB,rT,rE,xK, *]))
 have e0:szR (l) (szL (szL aL) x_rows)=l-(szL (szL aL) x_rows:Nat):=if_pos c0
 have d0:decide (l-((szL (szL aL) x_rows:Nat):Int)<0)=false:=by simp;omega
 have e:szR l (bQ ⟨x_n,x_rows⟩)=l-((szL (szL aL) x_rows:Nat):Int):=by unfold szR bQ;simp only[];split<;>omega
 (refine aB ?_;repeat' (refine aA ?_ ?_<;>intro _<;>try simp (disch:=first|assumption|omega) only[S0,rA,rQ,rB,rT,rE,xK, *]))
theorem Haw (x_n:Int)(x_rows:(List (List aY)))(hs:bQ ⟨x_n,x_rows⟩<=1048576):Fun T 7 [i64 x_n,rL x_rows]=some [i64 x_n,rL x_rows]:=by
 rw[aJ (t:=tm7) rfl];unfold tm7
 unfold bQ at hs
 simp only at hs
 have s0:szL (szL aL) x_rows<=1048576:=by omega
 (refine aB ?_;repeat' (refine aA ?_ ?_<;>intro _<;>try simp (disch:=first|assumption|omega) only[S0,rA,rQ,rB,rT,rE,Hax, *]))
theorem Haz (x_n:Int)(x_rows:(List (List aY)))(y_n:Int)(y_rows:(List (List aY)))(hs:bQ ⟨x_n,x_rows⟩<=1099511627776):Fun T 118 [i64 x_n,rL x_rows,i64 y_n,rL y_rows]=some [.bool (decide ((⟨x_n,x_rows⟩:aM)=⟨y_n,y_rows⟩))]:=by
 rw[aJ (t:=Ea5) rfl];unfold Ea5
 unfold bQ at hs
 simp only at hs
 have s0:szL (szL aL) x_rows<=1099511627776:=by omega
 have e:decide ((⟨x_n,x_rows⟩:aM)=⟨y_n,y_rows⟩)=((x_n==y_n)&&decide ((x_rows:(List (List aY)))=y_rows)):=by
  simp only[aM.mk.injEq,Tb1,Ub6,Ubv]
 rw[e]
 (refine aB ?_;repeat' (refine aA ?_ ?_<;>intro _<;>try simp (disch:=first|assumption|omega) only[S0,rA,rQ,rB,rT,rE,Ha0, *]))
theorem Cbb (x_n:Int)(x_rows:(List (List aY)))(k:Int)(hk:0<=k)(hb:k+(ctL (ctL iH) x_rows:Nat)<=1152921504606846976)(hl0:szL (szL aL) x_rows<=1099511627776):Fun T 123 [i64 x_n,rL x_rows,i64 k]=some [i64 (k+(ctL (ctL iH) x_rows:Nat)),rL (mkL (ctL iH) (mkL iH Hav) x_rows (k))]:=by
 rw[aJ (t:=Ea0) rfl];unfold Ea0
 (refine aB ?_;repeat' (refine aA ?_ ?_<;>intro _<;>try simp (disch:=first|assumption|omega) only[S0,rA,rQ,rB,rT,rE,Cbc, *]))
theorem Lal (x_code x_sum:Int)(y_code y_sum:Int):Fun T 117 [i64 x_code,i64 x_sum,i64 y_code,i64 y_sum]=some [.bool (decide ((⟨x_code,x_sum⟩:lT)=⟨y_code,y_sum⟩))]:=by
 rw[aJ (t:=Ea6) rfl];unfold Ea6
 have e:decide ((⟨x_code,x_sum⟩:lT)=⟨y_code,y_sum⟩)=((x_code==y_code)&&(x_sum==y_sum)):=by
  simp only[lT.mk.injEq,Tb1,Ub6,Ubv]
 rw[e]
 (refine aB ?_;repeat' (refine aA ?_ ?_<;>intro _<;>try simp (disch:=first|assumption|omega) only[S0,rA,rQ,rB,rT,rE, *]))
theorem Oaz (x_rep x_no x_cmd_kind x_cmd_id x_cmd_src x_cmd_dst x_cmd_amt x_told_code x_told_sum:Int)(y_rep y_no y_cmd_kind y_cmd_id y_cmd_src y_cmd_dst y_cmd_amt y_told_code y_told_sum:Int):Fun T 115 [i64 x_rep,i64 x_no,i64 x_cmd_kind,i64 x_cmd_id,i64 x_cmd_src,i64 x_cmd_dst,i64 x_cmd_amt,i64 x_told_code,i64 x_told_sum,i64 y_rep,i64 y_no,i64 y_cmd_kind,i64 y_cmd_id,i64 y_cmd_src,i64 y_cmd_dst,i64 y_cmd_amt,i64 y_told_code,i64 y_told_sum]=some [.bool (decide ((⟨x_rep,x_no,⟨x_cmd_kind,x_cmd_id,x_cmd_src,x_cmd_dst,x_cmd_amt⟩,⟨x_told_code,x_told_sum⟩⟩:bV)=⟨y_rep,y_no,⟨y_cmd_kind,y_cmd_id,y_cmd_src,y_cmd_dst,y_cmd_amt⟩,⟨y_told_code,y_told_sum⟩⟩))]:=by
 rw[aJ (t:=Ea8) rfl];unfold Ea8
 have e:decide ((⟨x_rep,x_no,⟨x_cmd_kind,x_cmd_id,x_cmd_src,x_cmd_dst,x_cmd_amt⟩,⟨x_told_code,x_told_sum⟩⟩:bV)=⟨y_rep,y_no,⟨y_cmd_kind,y_cmd_id,y_cmd_src,y_cmd_dst,y_cmd_amt⟩,⟨y_told_code,y_told_sum⟩⟩)=((x_rep==y_rep)&&(x_no==y_no)&&decide ((⟨x_cmd_kind,x_cmd_id,x_cmd_src,x_cmd_dst,x_cmd_amt⟩:oN)=⟨y_cmd_kind,y_cmd_id,y_cmd_src,y_cmd_dst,y_cmd_amt⟩)&&decide ((⟨x_told_code,x_told_sum⟩:lT)=⟨y_told_code,y_told_sum⟩)):=by
  simp only[bV.mk.injEq,Tb1,Ub6,Ubv]
 rw[e]
 (refine aB ?_;repeat' (refine aA ?_ ?_<;>intro _<;>try simp (disch:=first|assumption|omega) only[S0,rA,rQ,rB,rT,rE,Kad,Lal, *]))
theorem Wa6 (xs ys:(List bV))(hs:szL (fun _=>0) xs<=1099511627776):Fun T 114 [rL xs,rL ys]=some [.bool (decide (xs=ys))]:=by
 rw[aJ (t:=Ea9) rfl];unfold Ea9
 have hx:xs.length<=1099511627776:=Tbr lS hs
 by_cases hl:ys.length=xs.length
 ·simp (disch:=first|assumption|omega) only[S0,rA,rQ,rB,rT,rE, *]
  rw[Day 1 xs.length (fun i=>decide (atI xs i=atI ys i)) [.bool false],oM hl.symm]
  ·(refine aB ?_;repeat' (refine aA ?_ ?_<;>intro _<;>try simp (disch:=first|assumption|omega) only[S0,rA,rQ,rB,rT,rE, *]))
  ·intro i hi hp
   have hb:InB xs (i:Int):=aG.2 hi
   have hb':InB ys (i:Int):=aG.2 (by omega)
   have h2:decide ((i:Int)<xs.length)=true:=by simp;omega
   (refine aB ?_;repeat' (refine aA ?_ ?_<;>intro _<;>try simp (disch:=first|assumption|omega) only[S0,rA,rQ,rB,rT,rE,aI,Oaz, *]))
  ·intro i hi hp
   have hb:InB xs (i:Int):=aG.2 hi
   have hb':InB ys (i:Int):=aG.2 (by omega)
   have h2:decide ((i:Int)<xs.length)=true:=by simp;omega
   (refine aB ?_;repeat' (refine aA ?_ ?_<;>intro _<;>try simp (disch:=first|assumption|omega) only[S0,rA,rQ,rB,rT,rE,aI,Oaz, *]))
  ·have h2:decide ((xs.length:Int)<xs.length)=false:=by simp
   (refine aB ?_;repeat' (refine aA ?_ ?_<;>intro _<;>try simp (disch:=first|assumption|omega) only[S0,rA,rQ,rB,rT,rE, *]))
 ·have hl':((xs.length:Int)==(ys.length:Int))=false:=by simp;omega
  have e:=vF (fun h=>hl h.symm)
  (refine aB ?_;repeat' (refine aA ?_ ?_<;>intro _<;>try simp (disch:=first|assumption|omega) only[S0,rA,rQ,rB,rT,rE, *]))
theorem Wa4 (xs:(List bV))(k:Int)(hk:0<=k)(hb:k+(ctL iR xs:Nat)<=1152921504606846976)(hl:xs.length<=1099511627776):Fun T 127 [rL xs,i64 k]=some [i64 (k+(ctL iR xs:Nat)),rL (mkL iR xH xs k)]:=by
 rw[aJ (t:=Pau) rfl];unfold Pau
 have hx:xs.length<=1099511627776:=hl
 simp (disch:=first|assumption|omega) only[S0,rA,rQ,rB,rT,rE, *]
 rw[Kab xs iR xH k rfl rfl rfl hk hb ?_ ?_ (by omega)]
 ·(refine aB ?_;repeat' (refine aA ?_ ?_<;>intro _<;>try simp (disch:=first|assumption|omega) only[S0,rA,rQ,rB,rT,rE, *]))
 ·intro i ys m hi hy hb hlt hat hm hc hlen
  have ec:m+1+1+1+1+1+1+1+1+1=m+(iR (atI xs i):Nat):=by rw[yC];omega
  rw[yC]at hc
  (refine aB ?_;repeat' (refine aA ?_ ?_<;>intro _<;>try simp (disch:=first|assumption|omega|(simp only[iV];assumption)) only[S0,rA,rQ,rB,rT,rE,aI,lZ,iV, *]))
  all_goals (try simp only[xH,ec])
 ·intro ys m hy hlt
  (refine aB ?_;repeat' (refine aA ?_ ?_<;>intro _<;>try simp (disch:=first|assumption|omega) only[S0,rA,rQ,rB,rT,rE, *]))
theorem Wa5 (xs:(List bV))(k:Int)(hk:0<=k)(hb:k+(ctL iR xs:Nat)<=1152921504606846976)(hl:xs.length<=1099511627776):Fun T 129 [rL (mkL iR xH xs k),i64 k]=some [i64 (k+(ctL iR xs:Nat))]:=by
 rw[aJ (t:=Pas) rfl];unfold Pas
 have hx:xs.length<=1099511627776:=hl
 simp (disch:=first|assumption|omega) only[S0,rA,rQ,rB,rT,rE, *]
 rw[Ab2 xs iR xH k rfl hk hb (by omega)]
 ·(refine aB ?_;repeat' (refine aA ?_ ?_<;>intro _<;>try simp (disch:=first|assumption|omega) only[S0,rA,rQ,rB,rT,rE, *]))
 ·intro i m hi hb hy hlt hat hm hc hlen
  have ec:m+1+1+1+1+1+1+1+1+1=m+(iR (atI xs i):Nat):=by rw[yC];omega
  rw[yC]at hc
  (refine aB ?_;repeat' (refine aA ?_ ?_<;>intro _<;>try simp (disch:=first|assumption|omega) only[S0,rA,rQ,rB,rT,rE,aI,xH,lt0, *]))
  all_goals (try simp only[ec])
 ·intro m hy hlt
  (refine aB ?_;repeat' (refine aA ?_ ?_<;>intro _<;>try simp (disch:=first|assumption|omega) only[S0,rA,rQ,rB,rT,rE, *]))
theorem dC (x lo up:Int):Fun T 62 [i64 x,i64 lo,i64 up]=some [.bool (inR x lo up)]:=by
 rw[aJ (t:=Gbx) rfl];unfold Gbx;unfold inR
 (refine aB ?_;repeat' (refine aA ?_ ?_<;>intro _<;>try simp (disch:=first|assumption|omega) only[S0,rA,rQ,rB,rT,rE, *]))
theorem dR (x lo up:Int):Fun T 18 [i64 x,i64 lo,i64 up]=some [.bool (inR x lo up)]:=by
 rw[aJ (t:=Za1) rfl];unfold Za1;unfold inR
 (refine aB ?_;repeat' (refine aA ?_ ?_<;>intro _<;>try simp (disch:=first|assumption|omega) only[S0,rA,rQ,rB,rT,rE, *]))
theorem fG (n:Int):Fun T 54 [i64 n]=some [.bool (bK n)]:=by
 rw[aJ (t:=Ya3) rfl];unfold Ya3;unfold bK
 (refine aB ?_;repeat' (refine aA ?_ ?_<;>intro _<;>try simp (disch:=first|assumption|omega) only[S0,rA,rQ,rB,rT,rE, *]))
theorem gG (n:Int):Fun T 16 [i64 n]=some [.bool (bK n)]:=by
 rw[aJ (t:=Za3) rfl];unfold Za3;unfold bK
 (refine aB ?_;repeat' (refine aA ?_ ?_<;>intro _<;>try simp (disch:=first|assumption|omega) only[S0,rA,rQ,rB,rT,rE, *]))
theorem nU (n:Int):Fun T 64 [i64 n]=some [.bool (inR n 0 3)]:=by
 rw[aJ (t:=Yav) rfl];unfold Yav
 (refine aB ?_;repeat' (refine aA ?_ ?_<;>intro _<;>try simp (disch:=first|assumption|omega) only[S0,rA,rQ,rB,rT,rE,dC, *]))
theorem nR (n:Int):Fun T 24 [i64 n]=some [.bool (inR n 0 3)]:=by
 rw[aJ (t:=Zav) rfl];unfold Zav
 (refine aB ?_;repeat' (refine aA ?_ ?_<;>intro _<;>try simp (disch:=first|assumption|omega) only[S0,rA,rQ,rB,rT,rE,dR, *]))
theorem uN (k i f t a:Int):Fun T 23 [i64 k,i64 i,i64 f,i64 t,i64 a]=some [i64 (Bax ⟨k,i,f,t,a⟩)]:=by
 rw[aJ (t:=Zaw) rfl];unfold Zaw;unfold Bax
 (refine aB ?_;repeat' (refine aA ?_ ?_<;>intro _<;>try simp (disch:=first|assumption|omega) only[S0,rA,rQ,rB,rT,rE,nR,dR, *]))
theorem rX (k i f t a:Int):Fun T 22 [i64 k,i64 i,i64 f,i64 t,i64 a]=some [.bool (kX ⟨k,i,f,t,a⟩)]:=by
 rw[aJ (t:=Zax) rfl];unfold Zax;unfold kX
 (refine aB ?_;repeat' (refine aA ?_ ?_<;>intro _<;>try simp (disch:=first|assumption|omega) only[S0,rA,rQ,rB,rT,rE,uN,Jau,Rao, *]))
 all_goals (refine Ca4 ?_;simp only[Sbu,Uba,Tbm,Vb6,Vbm,Vbt,Sbv,beq_iff_eq,beq_eq_false_iff_ne,decide_eq_true_eq,decide_eq_false_iff_not,ne_eq]at *;grind)
theorem sG (k i f t a:Int):Fun T 63 [i64 k,i64 i,i64 f,i64 t,i64 a]=some [.bool (kX ⟨k,i,f,t,a⟩)]:=by
 rw[aJ (t:=Yaw) rfl];unfold Yaw;unfold kX
 (refine aB ?_;repeat' (refine aA ?_ ?_<;>intro _<;>try simp (disch:=first|assumption|omega) only[S0,rA,rQ,rB,rT,rE,dC,nU,Jau, *]))
theorem wV (xs:List Int)(lo up:Int)(hx:xs.length<=1099511627776):Fun T 26 [rL xs,i64 lo,i64 up]=some [.bool (xs.all fun x=>inR x lo up)]:=by
 rw[aJ (t:=Zat) rfl];unfold Zat
 simp (disch:=first|assumption|omega) only[S0,rA,rQ,rB,rT,rE,aI, *]
 rw[Qb0 1 xs (fun x=>inR x lo up) [.bool false]]
 ·(refine aB ?_;repeat' (refine aA ?_ ?_<;>intro _<;>try simp (disch:=first|assumption|omega) only[S0,rA,rQ,rB,rT,rE, *]))
 ·intro i hi hb hl hp
  (refine aB ?_;repeat' (refine aA ?_ ?_<;>intro _<;>try simp (disch:=first|assumption|omega) only[S0,rA,rQ,rB,rT,rE,aI,dR, *]))
 ·intro i hi hb hl hp
  (refine aB ?_;repeat' (refine aA ?_ ?_<;>intro _<;>try simp (disch:=first|assumption|omega) only[S0,rA,rQ,rB,rT,rE,aI,dR, *]))
 ·intro hl
  (refine aB ?_;repeat' (refine aA ?_ ?_<;>intro _<;>try simp (disch:=first|assumption|omega) only[S0,rA,rQ,rB,rT,rE, *]))
theorem uM (n s:Int)(xs:List Int)(hx:xs.length<=1099511627776):Fun T 25 [i64 n,i64 s,rL xs]=some [.bool (nL n ⟨s,xs⟩)]:=by
 rw[aJ (t:=Zau) rfl];unfold Zau;unfold nL
 (refine aB ?_;repeat' (refine aA ?_ ?_<;>intro _<;>try simp (disch:=first|assumption|omega) only[S0,rA,rQ,rB,rT,rE,dR,wV, *]))
theorem gN (x:Int):Fun T 68 [i64 x]=some [.bool (!inR x 0 6)]:=by
 rw[aJ (t:=Yar) rfl];unfold Yar
 (refine aB ?_;repeat' (refine aA ?_ ?_<;>intro _<;>try simp (disch:=first|assumption|omega) only[S0,rA,rQ,rB,rT,rE,dC, *]))
theorem pX  (xs:List Int)(hx:xs.length<=1099511627776):Fun T 67 [rL xs]=some [i64 (ixF (fun x=>!inR x 0 6) xs)]:=by
 rw[aJ (t:=Yas) rfl];unfold Yas
 simp (disch:=first|assumption|omega) only[S0,rA,rQ,rB,rT,rE,aI, *]
 rw[mP 1 xs (fun x=>!inR x 0 6) (fun i=>[i64 i])]
 ·cases h:xs.any (fun x=>!inR x 0 6)
  ·have e:ixF (fun x=>!inR x 0 6) xs=-1:=by
    have h2:=bJ (fun x=>!inR x 0 6) xs
    rw[h]at h2
    unfold ixF at h2 ⊢
    split at h2<;>simp_all
   rw[e];simp (disch:=first|assumption|omega) only[S0,rA,rQ,rB,rT,rE]
  ·simp (disch:=first|assumption|omega) only[S0,rA,rQ,rB,rT,rE]
 ·intro i hi hb hl hp
  (refine aB ?_;repeat' (refine aA ?_ ?_<;>intro _<;>try simp (disch:=first|assumption|omega) only[S0,rA,rQ,rB,rT,rE,aI,gN, *]))
 ·intro i hi hb hl hp
  (refine aB ?_;repeat' (refine aA ?_ ?_<;>intro _<;>try simp (disch:=first|assumption|omega) only[S0,rA,rQ,rB,rT,rE,aI,gN, *]))
 ·intro hl
  (refine aB ?_;repeat' (refine aA ?_ ?_<;>intro _<;>try simp (disch:=first|assumption|omega) only[S0,rA,rQ,rB,rT,rE, *]))
theorem qG  (xs:List Int)(hx:xs.length<=1099511627776):Fun T 66 [rL xs]=some [.bool (xs.any (fun x=>!inR x 0 6))]:=by
 rw[aJ (t:=Yat) rfl];unfold Yat
 (refine aB ?_;repeat' (refine aA ?_ ?_<;>intro _<;>try simp (disch:=first|assumption|omega) only[S0,rA,rQ,rB,rT,rE,pX,bJ, *]))
theorem qD (n s:Int)(xs:List Int)(hx:xs.length<=1099511627776):Fun T 65 [i64 n,i64 s,rL xs]=some [.bool (bK n&&nL n ⟨s,xs⟩)]:=by
 rw[aJ (t:=Yau) rfl];unfold Yau;unfold nL
 have e:xs.any (fun x=>!inR x 0 6)=!xs.all fun x=>inR x 0 6:=by rw[Ubr]
 (refine aB ?_;repeat' (refine aA ?_ ?_<;>intro _<;>try simp (disch:=first|assumption|omega) only[S0,rA,rQ,rB,rT,rE,fG,dC,qG,e,Bool.not_not, *]))
theorem iO (xs ys:List Int)(hx:xs.length<=1099511627776):Fun T 21 [rL xs,rL ys]=some [.bool (decide (xs=ys))]:=by
 rw[aJ (t:=Zay) rfl];unfold Zay
 by_cases hl:ys.length=xs.length
 ·simp (disch:=first|assumption|omega) only[S0,rA,rQ,rB,rT,rE, *]
  rw[Day 1 xs.length (fun i=>decide (atI xs i=atI ys i)) [.bool false],oM hl.symm]
  ·(refine aB ?_;repeat' (refine aA ?_ ?_<;>intro _<;>try simp (disch:=first|assumption|omega) only[S0,rA,rQ,rB,rT,rE, *]))
  ·intro i hi hp
   have hb:InB xs (i:Int):=aG.2 hi
   have hb':InB ys (i:Int):=aG.2 (by omega)
   have h2:decide ((i:Int)<xs.length)=true:=by simp;omega
   have h3:(atI xs i==atI ys i)=true:=by simpa using hp
   (refine aB ?_;repeat' (refine aA ?_ ?_<;>intro _<;>try simp (disch:=first|assumption|omega) only[S0,rA,rQ,rB,rT,rE,aI, *]))
  ·intro i hi hp
   have hb:InB xs (i:Int):=aG.2 hi
   have hb':InB ys (i:Int):=aG.2 (by omega)
   have h2:decide ((i:Int)<xs.length)=true:=by simp;omega
   have h3:(atI xs i==atI ys i)=false:=by simpa using hp
   (refine aB ?_;repeat' (refine aA ?_ ?_<;>intro _<;>try simp (disch:=first|assumption|omega) only[S0,rA,rQ,rB,rT,rE,aI, *]))
  ·have h2:decide ((xs.length:Int)<xs.length)=false:=by simp
   (refine aB ?_;repeat' (refine aA ?_ ?_<;>intro _<;>try simp (disch:=first|assumption|omega) only[S0,rA,rQ,rB,rT,rE, *]))
 ·have hl':((xs.length:Int)==(ys.length:Int))=false:=by simp;omega
  have e:=vF (fun h=>hl h.symm)
  (refine aB ?_;repeat' (refine aA ?_ ?_<;>intro _<;>try simp (disch:=first|assumption|omega) only[S0,rA,rQ,rB,rT,rE, *]))
theorem slices_Equal_int (xs ys:List Int)(hx:xs.length<=1099511627776):Fun T 71 [rL xs,rL ys]=some [.bool (decide (xs=ys))]:=by
 rw[aJ (t:=Yao) rfl];unfold Yao
 by_cases hl:ys.length=xs.length
 ·simp (disch:=first|assumption|omega) only[S0,rA,rQ,rB,rT,rE, *]
  rw[Day 1 xs.length (fun i=>decide (atI xs i=atI ys i)) [.bool false],oM hl.symm]
  ·(refine aB ?_;repeat' (refine aA ?_ ?_<;>intro _<;>try simp (disch:=first|assumption|omega) only[S0,rA,rQ,rB,rT,rE, *]))
  ·intro i hi hp
   have hb:InB xs (i:Int):=aG.2 hi
   have hb':InB ys (i:Int):=aG.2 (by omega)
   have h2:decide ((i:Int)<xs.length)=true:=by simp;omega
   have h3:(atI xs i==atI ys i)=true:=by simpa using hp
   (refine aB ?_;repeat' (refine aA ?_ ?_<;>intro _<;>try simp (disch:=first|assumption|omega) only[S0,rA,rQ,rB,rT,rE,aI, *]))
  ·intro i hi hp
   have hb:InB xs (i:Int):=aG.2 hi
   have hb':InB ys (i:Int):=aG.2 (by omega)
   have h2:decide ((i:Int)<xs.length)=true:=by simp;omega
   have h3:(atI xs i==atI ys i)=false:=by simpa using hp
   (refine aB ?_;repeat' (refine aA ?_ ?_<;>intro _<;>try simp (disch:=first|assumption|omega) only[S0,rA,rQ,rB,rT,rE,aI, *]))
  ·have h2:decide ((xs.length:Int)<xs.length)=false:=by simp
   (refine aB ?_;repeat' (refine aA ?_ ?_<;>intro _<;>try simp (disch:=first|assumption|omega) only[S0,rA,rQ,rB,rT,rE, *]))
 ·have hl':((xs.length:Int)==(ys.length:Int))=false:=by simp;omega
  have e:=vF (fun h=>hl h.symm)
  (refine aB ?_;repeat' (refine aA ?_ ?_<;>intro _<;>try simp (disch:=first|assumption|omega) only[S0,rA,rQ,rB,rT,rE, *]))
theorem pQ (s s':Int)(xs ys:List Int)(hx:xs.length<=1099511627776):Fun T 20 [i64 s,rL xs,i64 s',rL ys]=some [.bool (decide ((⟨s,xs⟩:iN)=⟨s',ys⟩))]:=by
 rw[aJ (t:=Zaz) rfl];unfold Zaz
 have e:decide ((⟨s,xs⟩:iN)=⟨s',ys⟩)=(s==s'&&decide (xs=ys)):=by simp[iN.mk.injEq,Tb1]
 (refine aB ?_;repeat' (refine aA ?_ ?_<;>intro _<;>try simp (disch:=first|assumption|omega) only[S0,rA,rQ,rB,rT,rE,iO,e, *]))
theorem qB (s s':Int)(xs ys:List Int)(hx:xs.length<=1099511627776):Fun T 70 [i64 s,rL xs,i64 s',rL ys]=some [.bool (decide ((⟨s,xs⟩:iN)=⟨s',ys⟩))]:=by
 rw[aJ (t:=Yap) rfl];unfold Yap
 have e:decide ((⟨s,xs⟩:iN)=⟨s',ys⟩)=(s==s'&&decide (xs=ys)):=by simp[iN.mk.injEq,Tb1]
 (refine aB ?_;repeat' (refine aA ?_ ?_<;>intro _<;>try simp (disch:=first|assumption|omega) only[S0,rA,rQ,rB,rT,rE,slices_Equal_int,e, *]))
theorem gV (n:Int)(hg:bK n=true):Fun T 19 [i64 n]=some [i64 (none0 n).seq,rL (none0 n).deps]:=by
 rw[aJ (t:=Za0) rfl];unfold Za0;unfold none0
 have hn:=aT hg
 (refine aB ?_;repeat' (refine aA ?_ ?_<;>intro _<;>try simp (disch:=first|assumption|omega) only[S0,rA,rQ,rB,rT,rE,pI, *]))
theorem eZ (n:Int)(hg:bK n=true):Fun T 69 [i64 n]=some [i64 (none0 n).seq,rL (none0 n).deps]:=by
 rw[aJ (t:=Yaq) rfl];unfold Yaq;unfold none0
 have hn:=aT hg
 (refine aB ?_;repeat' (refine aA ?_ ?_<;>intro _<;>try simp (disch:=first|assumption|omega) only[S0,rA,rQ,rB,rT,rE,pI, *]))
theorem wT (n bal vot sta k i f t a sq:Int)(xs:List Int)(hg:bK n=true)(hx:xs.length<=1099511627776) :
  Fun T 17 [i64 n,i64 bal,i64 vot,i64 sta,i64 k,i64 i,i64 f,i64 t,i64 a,i64 sq,rL xs]=some [.bool (rowOk n ⟨bal,vot,sta,⟨k,i,f,t,a⟩,⟨sq,xs⟩⟩)]:=by
 rw[aJ (t:=Za2) rfl];unfold Za2;unfold rowOk
 (refine aB ?_;repeat' (refine aA ?_ ?_<;>intro _<;>try simp (disch:=first|assumption|omega) only[S0,rA,rQ,rB,rT,rE,dR,Jau,gV,pQ,rX,uM, *]))
theorem sF (n bal vot sta k i f t a sq:Int)(xs:List Int)(hg:bK n=true)(hx:xs.length<=1099511627776) :
  Fun T 61 [i64 n,i64 bal,i64 vot,i64 sta,i64 k,i64 i,i64 f,i64 t,i64 a,i64 sq,rL xs]=some [.bool (rowOk n ⟨bal,vot,sta,⟨k,i,f,t,a⟩,⟨sq,xs⟩⟩)]:=by
 rw[aJ (t:=Yax) rfl];unfold Yax;unfold rowOk
 have h1:=@Ran ⟨k,i,f,t,a⟩
 have h2:=Gac hg
 have h3:decide ((⟨sq,xs⟩:iN)=none0 n)=true->nL n ⟨sq,xs⟩=true:=fun h=>by rw[of_decide_eq_true h];exact h2
 (refine aB ?_;repeat' (refine aA ?_ ?_<;>intro _<;>try simp (disch:=first|assumption|omega) only[S0,rA,rQ,rB,rT,rE,dC,Jau,eZ,qB,sG,qD, *]))
 all_goals (refine Ca4 ?_;simp only[Sbu,Uba,Tbm,Vb6,Vbm,Vbt,Sbv,beq_iff_eq,beq_eq_false_iff_ne,decide_eq_true_eq,decide_eq_false_iff_not,ne_eq]at *;grind)
theorem slices_Clone_int (xs:List Int)(hx:xs.length<=10000000000):Fun T 90 [rL xs]=some [rL xs]:=by
 rw[sW (e:=Rb9) rfl]
 cases xs with
 |nil=>rfl
 | cons x xs =>
  show Fun (xV [(90,.tm Vaw)]) 90 [rL (x::xs)]=_
  rw[aJ (t:=Vaw) rfl]
  unfold Vaw
  have hx':(x::xs).length<=100000000000:=by omega
  have h0:(aN.mk 1 0).run []=some [.rows 1 []]:=rfl
  have h1:(x::xs).isEmpty=false:=rfl
  simp (disch:=first|assumption|omega) only[SA,SB,SC,SP,SQ,SZ,reduceIte,reduceCtorEq,Wbi,Vbz,Mbx,Eba,h0,h1,bD]
theorem lJ (s:Int)(xs:List Int)(hx:xs.length<=10000000000):Fun T 89 [i64 s,rL xs]=some [i64 s,rL xs]:=by
 rw[aJ (t:=Yad) rfl];unfold Yad
 (refine aB ?_;repeat' (refine aA ?_ ?_<;>intro _<;>try simp (disch:=first|assumption|omega) only[S0,rA,rQ,rB,rT,rE,slices_Clone_int, *]))
theorem bR (n:Int)(rows:List (List aY))(hs:bX rows):Fun T 15 [i64 n,rL rows]=some [.bool (aV ⟨n,rows⟩)]:=by
 rw[aJ (t:=Za4) rfl];unfold Za4;unfold aV
 obtain⟨hs1,hs2⟩:=hs
 cases hg:bK n
 ·(refine aB ?_;repeat' (refine aA ?_ ?_<;>intro _<;>try simp (disch:=first|assumption|omega) only[S0,rA,rQ,rB,rT,rE,gG, *]))
 cases hl:(rows.length:Int)==n
 ·(refine aB ?_;repeat' (refine aA ?_ ?_<;>intro _<;>try simp (disch:=first|assumption|omega) only[S0,rA,rQ,rB,rT,rE,gG, *]))
 simp (disch:=first|assumption|omega) only[S0,rA,rQ,rB,rT,rE,gG, *]
 rw[Lby 1 rows (fun l=>l.all (fun r=>rowOk n r)&&decide ((l.length:Int)<=6)) [.bool false]]
 ·(refine aB ?_;repeat' (refine aA ?_ ?_<;>intro _<;>try simp (disch:=first|assumption|omega) only[S0,rA,rQ,rB,rT,rE, *]))
 ·intro i hi hb hlt hm
  obtain⟨hq1,hq2⟩:=hs2 _ hm
  simp (disch:=first|assumption|omega) only[S0,rA,rQ,rB,rT,rE,aI, *]
  rw[Lby 3 (atI rows i) (fun r=>rowOk n r) [.bool false]]
  ·have e:decide (6<((atI rows (i:Int)).length:Int))=!decide (((atI rows (i:Int)).length:Int)<=6):=by
    by_cases h:((atI rows (i:Int)).length:Int)<=6
    ·simp[h]
    ·simp[h];omega
   (refine aB ?_;repeat' (refine aA ?_ ?_<;>intro _<;>try simp (disch:=first|assumption|omega) only[S0,rA,rQ,rB,rT,rE,e, *]))
  ·intro j hj hb2 hlt2 hm2
   have hq3:=hq2 _ hm2
   have hq4:(atI (atI rows (i:Int)) (j:Int)).attr.deps.length<=1099511627776:=by omega
   (refine aB ?_;repeat' (refine aA ?_ ?_<;>intro _<;>try simp (disch:=first|assumption|omega) only[S0,rA,rQ,rB,rT,rE,aI,wT, *]))
  ·intro hl2
   (refine aB ?_;repeat' (refine aA ?_ ?_<;>intro _<;>try simp (disch:=first|assumption|omega) only[S0,rA,rQ,rB,rT,rE, *]))
 ·intro hl2
  (refine aB ?_;repeat' (refine aA ?_ ?_<;>intro _<;>try simp (disch:=first|assumption|omega) only[S0,rA,rQ,rB,rT,rE, *]))
theorem dZ (r_ballot r_vote r_state r_cmd_kind r_cmd_id r_cmd_src r_cmd_dst r_cmd_amt r_attr_seq:Int)(r_attr_deps:(List Int))(n:Int)(rows:List (List aY))(hg:bK n=true)(hx:r_attr_deps.length<=1099511627776):Fun T 60 [i64 r_ballot,i64 r_vote,i64 r_state,i64 r_cmd_kind,i64 r_cmd_id,i64 r_cmd_src,i64 r_cmd_dst,i64 r_cmd_amt,i64 r_attr_seq,rL r_attr_deps,i64 n,rL rows]=some [.bool (!rowOk n ⟨r_ballot,r_vote,r_state,⟨r_cmd_kind,r_cmd_id,r_cmd_src,r_cmd_dst,r_cmd_amt⟩,⟨r_attr_seq,r_attr_deps⟩⟩)]:=by
 rw[aJ (t:=Yay) rfl];unfold Yay
 (refine aB ?_;repeat' (refine aA ?_ ?_<;>intro _<;>try simp (disch:=first|assumption|omega) only[S0,rA,rQ,rB,rT,rE,sF, *]))
theorem lH (n:Int)(rows:List (List aY))(hg:bK n=true)(xs:List aY)(hx:xs.length<=1099511627776)(hq:∀ x∈xs,x.attr.deps.length<=1099511627776):Fun T 59 [rL xs,i64 n,rL rows]=some [i64 (ixF (fun r=>!rowOk n r) xs)]:=by
 rw[aJ (t:=Yaz) rfl];unfold Yaz
 simp (disch:=first|assumption|omega) only[S0,rA,rQ,rB,rT,rE,aI, *]
 rw[mP 1 xs (fun r=>!rowOk n r) (fun i=>[i64 i])]
 ·cases h:xs.any (fun r=>!rowOk n r)
  ·have e:ixF (fun r=>!rowOk n r) xs=-1:=by
    have h2:=bJ (fun r=>!rowOk n r) xs
    rw[h]at h2
    unfold ixF at h2 ⊢
    split at h2<;>simp_all
   rw[e];simp (disch:=first|assumption|omega) only[S0,rA,rQ,rB,rT,rE]
  ·simp (disch:=first|assumption|omega) only[S0,rA,rQ,rB,rT,rE]
 ·intro i hi hb hl hp
  have hq':=hq _ (at_mem hi)
  try simp only at hq' hp
  (refine aB ?_;repeat' (refine aA ?_ ?_<;>intro _<;>try simp (disch:=first|assumption|omega) only[S0,rA,rQ,rB,rT,rE,aI,dZ, *]))
 ·intro i hi hb hl hp
  have hq':=hq _ (at_mem hi)
  try simp only at hq' hp
  (refine aB ?_;repeat' (refine aA ?_ ?_<;>intro _<;>try simp (disch:=first|assumption|omega) only[S0,rA,rQ,rB,rT,rE,aI,dZ, *]))
 ·intro hl
  (refine aB ?_;repeat' (refine aA ?_ ?_<;>intro _<;>try simp (disch:=first|assumption|omega) only[S0,rA,rQ,rB,rT,rE, *]))
theorem lM (n:Int)(rows:List (List aY))(hg:bK n=true)(xs:List aY)(hx:xs.length<=1099511627776)(hq:∀ x∈xs,x.attr.deps.length<=1099511627776):Fun T 58 [rL xs,i64 n,rL rows]=some [.bool (xs.any (fun r=>!rowOk n r))]:=by
 rw[aJ (t:=Ya0) rfl];unfold Ya0
 (refine aB ?_;repeat' (refine aA ?_ ?_<;>intro _<;>try simp (disch:=first|assumption|omega) only[S0,rA,rQ,rB,rT,rE,lH,bJ, *]))
theorem fH (l:List aY)(n:Int)(rows:List (List aY))(hg:bK n=true)(hx:l.length<=1099511627776)(hq:∀ x∈l,x.attr.deps.length<=1099511627776):Fun T 57 [rL l,i64 n,rL rows]=some [.bool (decide (6<(l.length:Int))||l.any fun r=>!rowOk n r)]:=by
 rw[aJ (t:=Ya1) rfl];unfold Ya1
 (refine aB ?_;repeat' (refine aA ?_ ?_<;>intro _<;>try simp (disch:=first|assumption|omega) only[S0,rA,rQ,rB,rT,rE,lM, *]))
theorem nT (n:Int)(rows:List (List aY))(hg:bK n=true)(xs:List (List aY))(hx:xs.length<=1099511627776)(hq:∀ x∈xs,x.length<=1099511627776/\∀ y∈x,y.attr.deps.length<=1099511627776):Fun T 56 [rL xs,i64 n,rL rows]=some [i64 (ixF (fun l=>decide (6<(l.length:Int))||l.any fun r=>!rowOk n r) xs)]:=by
 rw[aJ (t:=Vax) rfl];unfold Vax
 simp (disch:=first|assumption|omega) only[S0,rA,rQ,rB,rT,rE,aI, *]
 rw[mP 1 xs (fun l=>decide (6<(l.length:Int))||l.any fun r=>!rowOk n r) (fun i=>[i64 i])]
 ·cases h:xs.any (fun l=>decide (6<(l.length:Int))||l.any fun r=>!rowOk n r)
  ·have e:ixF (fun l=>decide (6<(l.length:Int))||l.any fun r=>!rowOk n r) xs=-1:=by
    have h2:=bJ (fun l=>decide (6<(l.length:Int))||l.any fun r=>!rowOk n r) xs
    rw[h]at h2
    unfold ixF at h2 ⊢
    split at h2<;>simp_all
   rw[e];simp (disch:=first|assumption|omega) only[S0,rA,rQ,rB,rT,rE]
  ·simp (disch:=first|assumption|omega) only[S0,rA,rQ,rB,rT,rE]
 ·intro i hi hb hl hp
  have hq':=hq _ (at_mem hi)
  try simp only at hq' hp
  obtain⟨hq1,hq2⟩:=hq'
  (refine aB ?_;repeat' (refine aA ?_ ?_<;>intro _<;>try simp (disch:=first|assumption|omega) only[S0,rA,rQ,rB,rT,rE,aI,fH, *]))
 ·intro i hi hb hl hp
  have hq':=hq _ (at_mem hi)
  try simp only at hq' hp
  obtain⟨hq1,hq2⟩:=hq'
  (refine aB ?_;repeat' (refine aA ?_ ?_<;>intro _<;>try simp (disch:=first|assumption|omega) only[S0,rA,rQ,rB,rT,rE,aI,fH, *]))
 ·intro hl
  (refine aB ?_;repeat' (refine aA ?_ ?_<;>intro _<;>try simp (disch:=first|assumption|omega) only[S0,rA,rQ,rB,rT,rE, *]))
theorem nY (n:Int)(rows:List (List aY))(hg:bK n=true)(xs:List (List aY))(hx:xs.length<=1099511627776)(hq:∀ x∈xs,x.length<=1099511627776/\∀ y∈x,y.attr.deps.length<=1099511627776):Fun T 55 [rL xs,i64 n,rL rows]=some [.bool (xs.any (fun l=>decide (6<(l.length:Int))||l.any fun r=>!rowOk n r))]:=by
 rw[aJ (t:=Ya2) rfl];unfold Ya2
 (refine aB ?_;repeat' (refine aA ?_ ?_<;>intro _<;>try simp (disch:=first|assumption|omega) only[S0,rA,rQ,rB,rT,rE,nT,bJ, *]))
theorem bB (n:Int)(rows:List (List aY))(hs:bX rows):Fun T 53 [i64 n,rL rows]=some [.bool (aV ⟨n,rows⟩)]:=by
 rw[aJ (t:=Ya4) rfl];unfold Ya4;unfold aV
 obtain⟨hs1,hs2⟩:=hs
 have hs3:∀ x∈rows,x.length<=1099511627776/\∀ y∈x,y.attr.deps.length<=1099511627776:=fun x hx=>⟨by have:=(hs2 x hx).1;omega,fun y hy=>by have:=(hs2 x hx).2 y hy;omega⟩
 have e:(rows.any fun l=>decide (6<(l.length:Int))||l.any fun r=>!rowOk n r)=!rows.all fun l=>l.all (fun r=>rowOk n r)&&decide ((l.length:Int)<=6):=by
  rw[Ubr]
  congr 1
  funext l
  rw[<- Ubr,Bool.not_and,Bool.or_comm]
  congr 1
  by_cases h:(l.length:Int)<=6
  ·simp[h]
  ·simp[h];omega
 (refine aB ?_;repeat' (refine aA ?_ ?_<;>intro _<;>try simp (disch:=first|assumption|omega) only[S0,rA,rQ,rB,rT,rE,fG,nY,e,Bool.not_not, *]))
theorem fB (xs:List Int)(hx:xs.length<=10000000000):Fun T 36 [rL xs]=some [rL xs]:=by
 rw[aJ (t:=Zaj) rfl];unfold Zaj
 have h0:(aN.mk 1 0).run []=some [.rows 1 []]:=rfl
 (refine aB ?_;repeat' (refine aA ?_ ?_<;>intro _<;>try simp (disch:=first|assumption|omega) only[S0,rA,rQ,rB,rT,rE,h0,bD, *]))
theorem nQ (s:Int)(xs:List Int)(hx:xs.length<=10000000000):Fun T 35 [i64 s,rL xs]=some [i64 s,rL xs]:=by
 rw[aJ (t:=Zak) rfl];unfold Zak
 (refine aB ?_;repeat' (refine aA ?_ ?_<;>intro _<;>try simp (disch:=first|assumption|omega) only[S0,rA,rQ,rB,rT,rE,fB, *]))
theorem iG (r_ballot r_vote r_state r_cmd_kind r_cmd_id r_cmd_src r_cmd_dst r_cmd_amt r_attr_seq:Int)(r_attr_deps:(List Int))(hx:r_attr_deps.length<=10000000000):Fun T 34 [i64 r_ballot,i64 r_vote,i64 r_state,i64 r_cmd_kind,i64 r_cmd_id,i64 r_cmd_src,i64 r_cmd_dst,i64 r_cmd_amt,i64 r_attr_seq,rL r_attr_deps]=some [i64 r_ballot,i64 r_vote,i64 r_state,i64 r_cmd_kind,i64 r_cmd_id,i64 r_cmd_src,i64 r_cmd_dst,i64 r_cmd_amt,i64 r_attr_seq,rL r_attr_deps]:=by
 rw[aJ (t:=Zal) rfl];unfold Zal
 (refine aB ?_;repeat' (refine aA ?_ ?_<;>intro _<;>try simp (disch:=first|assumption|omega) only[S0,rA,rQ,rB,rT,rE,nQ, *]))
theorem gL (r_ballot r_vote r_state r_cmd_kind r_cmd_id r_cmd_src r_cmd_dst r_cmd_amt r_attr_seq:Int)(r_attr_deps:(List Int))(hx:r_attr_deps.length<=10000000000):Fun T 88 [i64 r_ballot,i64 r_vote,i64 r_state,i64 r_cmd_kind,i64 r_cmd_id,i64 r_cmd_src,i64 r_cmd_dst,i64 r_cmd_amt,i64 r_attr_seq,rL r_attr_deps]=some [i64 r_ballot,i64 r_vote,i64 r_state,i64 r_cmd_kind,i64 r_cmd_id,i64 r_cmd_src,i64 r_cmd_dst,i64 r_cmd_amt,i64 r_attr_seq,rL r_attr_deps]:=by
 rw[aJ (t:=Yae) rfl];unfold Yae
 (refine aB ?_;repeat' (refine aA ?_ ?_<;>intro _<;>try simp (disch:=first|assumption|omega) only[S0,rA,rQ,rB,rT,rE,lJ, *]))
theorem fJ (n:Int)(rows:List (List aY))(rep no:Int)(hg:bK n=true)(hs:bX rows)(hb:InB rows rep)(h1:1<=no)(h2:no<=1000):Fun T 33 [i64 n,rL rows,i64 rep,i64 no]=some [i64 (cK ⟨n,rows⟩ rep no).ballot,i64 (cK ⟨n,rows⟩ rep no).vote,i64 (cK ⟨n,rows⟩ rep no).state,i64 (cK ⟨n,rows⟩ rep no).cmd.kind,i64 (cK ⟨n,rows⟩ rep no).cmd.id,i64 (cK ⟨n,rows⟩ rep no).cmd.src,i64 (cK ⟨n,rows⟩ rep no).cmd.dst,i64 (cK ⟨n,rows⟩ rep no).cmd.amt,i64 (cK ⟨n,rows⟩ rep no).attr.seq,rL (cK ⟨n,rows⟩ rep no).attr.deps]:=by
 rw[aJ (t:=Zam) rfl];unfold Zam;unfold cK row0
 have hq:=hs.2 _ (bL hb)
 by_cases h:no<=(atI rows rep).length
 ·have h3:decide (((atI rows rep).length:Int)<no)=false:=by simp;omega
  have hb2:InB (atI rows rep) (no-1):=by unfold InB;omega
  have hq2:=hq.2 _ (bL hb2)
  (refine aB ?_;repeat' (refine aA ?_ ?_<;>intro _<;>try simp (disch:=first|assumption|omega) only[S0,rA,rQ,rB,rT,rE,aI,iG, *]))
 ·have h3:decide (((atI rows rep).length:Int)<no)=true:=by simp;omega
  (refine aB ?_;repeat' (refine aA ?_ ?_<;>intro _<;>try simp (disch:=first|assumption|omega) only[S0,rA,rQ,rB,rT,rE,aI,gV, *]))
theorem bA (n:Int)(rows:List (List aY))(rep no:Int)(hg:bK n=true)(hs:bX rows)(hb:InB rows rep)(h1:1<=no)(h2:no<=1000):Fun T 87 [i64 n,rL rows,i64 rep,i64 no]=some [i64 (cK ⟨n,rows⟩ rep no).ballot,i64 (cK ⟨n,rows⟩ rep no).vote,i64 (cK ⟨n,rows⟩ rep no).state,i64 (cK ⟨n,rows⟩ rep no).cmd.kind,i64 (cK ⟨n,rows⟩ rep no).cmd.id,i64 (cK ⟨n,rows⟩ rep no).cmd.src,i64 (cK ⟨n,rows⟩ rep no).cmd.dst,i64 (cK ⟨n,rows⟩ rep no).cmd.amt,i64 (cK ⟨n,rows⟩ rep no).attr.seq,rL (cK ⟨n,rows⟩ rep no).attr.deps]:=by
 rw[aJ (t:=Yaf) rfl];unfold Yaf;unfold cK row0
 have hq:=hs.2 _ (bL hb)
 by_cases h:no<=(atI rows rep).length
 ·have h3:decide (no<=((atI rows rep).length:Int))=true:=by simp;omega
  have hb2:InB (atI rows rep) (no-1):=by unfold InB;omega
  have hq2:=hq.2 _ (bL hb2)
  (refine aB ?_;repeat' (refine aA ?_ ?_<;>intro _<;>try simp (disch:=first|assumption|omega) only[S0,rA,rQ,rB,rT,rE,aI,gL, *]))
 ·have h3:decide (no<=((atI rows rep).length:Int))=false:=by simp;omega
  (refine aB ?_;repeat' (refine aA ?_ ?_<;>intro _<;>try simp (disch:=first|assumption|omega) only[S0,rA,rQ,rB,rT,rE,aI,eZ, *]))
theorem wU (n:Int)(hg:bK n=true):Fun T 40 [i64 n]=some [i64 n,rL (Sb1 n.toNat ([]:List aY))]:=by
 rw[aJ (t:=Zaf) rfl];unfold Zaf
 have hn:=aT hg
 (refine aB ?_;repeat' (refine aA ?_ ?_<;>intro _<;>try simp (disch:=first|assumption|omega) only[S0,rA,rQ,rB,rT,rE,pI, *]))
theorem uC (n:Int)(rows:List (List aY))(hg:bK n=true)(hl:(rows.length:Int)=n)(hs:bX rows):Fun T 39 [i64 n,rL rows]=some [i64 n,rL rows]:=by
 rw[aJ (t:=Zag) rfl];unfold Zag
 obtain⟨hs1,hs2⟩:=hs
 have hn:=aT hg
 have e0:Sb1 n.toNat ([]:List aY)=upto [] rows 0:=by rw[Eav];congr 1;omega
 simp (disch:=first|assumption|omega) only[SA,SB,SC,SP,SQ,SZ,reduceIte,reduceCtorEq,Wbi,Vbz,wU]
 rw[bH rows.length (fun i=>[i64 i,rL (upto [] rows i)]) (.yield 1,[rL rows]) (by rw[e0];rfl) (by simp)]
 ·(refine aB ?_;repeat' (refine aA ?_ ?_<;>intro _<;>try simp (disch:=first|assumption|omega) only[S0,rA,rQ,rB,rT,rE, *]))
 ·intro i hi hlt
  have hb:InB rows (i:Int):=aG.2 hi
  have hq:=hs2 _ (at_mem hi)
  have hu:(upto [] rows i).length=rows.length:=Jaw [] rows (Nat.le_of_lt hi)
  have hbu:InB (upto [] rows i) (i:Int):=aG.2 (by rw[hu];exact hi)
  have hu0:upto [] rows i=dB (upto [] rows i) i ((atI rows (i:Int)).take 0):=by
   have:atI (upto [] rows i) (i:Int)=[]:=by
    unfold upto
    rw[wM,List.getD_eq_getElem?_getD,List.getElem?_append_right (by rw[Tbc];omega),List.getElem?_replicate]
    split<;>rfl
   have h3:=Aay hbu
   rw[this]at h3
   rw[List.take_zero];exact h3.symm
  have hu1:dB (upto [] rows i) i (atI rows (i:Int))=upto [] rows (i+1):=by
   rw[dB]
   exact Jav [] rows (by rw[bC hi];exact List.getElem?_eq_getElem hi)
  obtain⟨hq1,hq2⟩:=hq
  have hr:rows.length<=10:=by omega
  simp (disch:=first|assumption|omega) only[S0,rA,rQ,rB,rT,rE,aI,hlt]
  rw[bH (atI rows (i:Int)).length (fun j=>[i64 j,rL (dB (upto [] rows i) i ((atI rows (i:Int)).take j))]) (.yield 3,[rL (upto [] rows (i+1))]) (by rw[<- hu0];rfl) (by simp)]
  ·clear hu hu0 hu1
   simp (disch:=first|assumption|omega) only[S0,rA,rQ,rB,rT,rE]
  ·intro j hj hlt2
   have hb2:InB (atI rows (i:Int)) (j:Int):=aG.2 hj
   have hq3:=hq2 _ (at_mem hj)
   have ha:atI (dB (upto [] rows i) (i:Int) ((atI rows (i:Int)).take j)) (i:Int)=(atI rows (i:Int)).take j:=by
    have:=iV
    exact this.1 hbu
   have hbs:InB (dB (upto [] rows i) (i:Int) ((atI rows (i:Int)).take j)) (i:Int):=aG.2 (by rw[dB,Ubn,hu];exact hi)
   have hta:=take_at hj
   have hll:((atI rows (i:Int)).take j).length+1<=100000000000:=by rw[Tbc];omega
   have hll2:((atI rows (i:Int)).take j).length+([atI (atI rows (i:Int)) (j:Int)]:List aY).length<=100000000000:=hll
   clear hu hu0 hu1
   simp (disch:=first|assumption|omega) only[S0,rA,rQ,rB,rT,rE,aI,lZ,dK,bD,tJ,iV,iG,hlt2,ha,hta]
  ·intro hlt2
   rw[Tbh]
   clear hu hu0
   (refine aB ?_;repeat' (refine aA ?_ ?_<;>intro _<;>try simp (disch:=first|assumption|omega) only[S0,rA,rQ,rB,rT,rE, *]))
 ·intro hlt
  rw[Jax]
  simp (disch:=first|assumption|omega) only[S0,rA,rQ,rB,rT,rE,hlt]
theorem nV (n:Int)(rows:List (List aY))(rep no:Int)(r_ballot r_vote r_state r_cmd_kind r_cmd_id r_cmd_src r_cmd_dst r_cmd_amt r_attr_seq:Int)(r_attr_deps:(List Int))(hg:bK n=true)(hs:bX rows)(hb:InB rows rep)(h1:1<=no)(h2:no<=1000)(hx:r_attr_deps.length<=10000000000) :
  Fun T 97 [i64 rep,i64 no,i64 r_ballot,i64 r_vote,i64 r_state,i64 r_cmd_kind,i64 r_cmd_id,i64 r_cmd_src,i64 r_cmd_dst,i64 r_cmd_amt,i64 r_attr_seq,rL r_attr_deps,i64 n,rL rows]=some [i64 (Daa ⟨n,rows⟩ rep no ⟨r_ballot,r_vote,r_state,⟨r_cmd_kind,r_cmd_id,r_cmd_src,r_cmd_dst,r_cmd_amt⟩,⟨r_attr_seq,r_attr_deps⟩⟩).n,rL (Daa ⟨n,rows⟩ rep no ⟨r_ballot,r_vote,r_state,⟨r_cmd_kind,r_cmd_id,r_cmd_src,r_cmd_dst,r_cmd_amt⟩,⟨r_attr_seq,r_attr_deps⟩⟩).rows]:=by
 rw[aJ (t:=Gbt) rfl];unfold Gbt;unfold Daa
 have hq:=hs.2 _ (bL hb)
 have hq1:=hq.1
 simp (disch:=first|assumption|omega) only[S0,rA,rQ,rB,rT,rE]
 rw[sZ (T:=T) (.yield 1,[rL (dB rows rep (ext n (atI rows rep) no))]) (fun j:Nat=>(no-(atI rows rep).length).toNat-j) (fun j=>j<=(no-(atI rows rep).length).toNat) (fun j=>[rL (dB rows rep (atI rows rep++Sb1 j (row0 n)))]) 0 (by rw[List.replicate_zero,Tbb,Aay hb];rfl) (by omega) (by simp)]
 ·have hb2:InB (dB rows rep (ext n (atI rows rep) no)) rep:=by unfold InB;rw[dB,Ubn];exact hb
  have ha:atI (dB rows rep (ext n (atI rows rep) no)) rep=ext n (atI rows rep) no:=iV.1 hb
  have hb3:InB (ext n (atI rows rep) no) (no-1):=by unfold InB;rw[Iad (by omega)];omega
  simp (disch:=first|assumption|omega) only[S0,rA,rQ,rB,rT,rE,aI,lZ,iV,gL,ha]
 ·intro j hj
  have hb2:InB (dB rows rep (atI rows rep++Sb1 j (row0 n))) rep:=by unfold InB;rw[dB,Ubn];exact hb
  have ha:atI (dB rows rep (atI rows rep++Sb1 j (row0 n))) rep=atI rows rep++Sb1 j (row0 n):=iV.1 hb
  have hlen:((atI rows rep++Sb1 j (row0 n)).length:Int)=(atI rows rep).length+j:=by simp
  have hrep:(atI rows rep++Sb1 j (row0 n))++[row0 n]=atI rows rep++Sb1 (j+1) (row0 n):=by rw[Sb3,<- Vbf]
  have hll:(atI rows rep++Sb1 j (row0 n)).length+([row0 n]:List aY).length<=100000000000:=by simp only[Sby,Tbq,Sbw,Sbx];omega
  unfold row0 at hrep hll ha hb2 hlen ⊢
  by_cases hc:(atI rows rep).length+j<no
  ·have hc':decide (((atI rows rep).length:Int)+j<no)=true:=by simpa using hc
   refine .inl ⟨j+1,?_,by omega,by omega⟩
   simp (disch:=first|assumption|omega) only[S0,rA,rQ,rB,rT,rE,aI,lZ,dK,bD,tJ,iV,eZ,ha,hlen,hc',hrep]
  ·have hc':decide (((atI rows rep).length:Int)+j<no)=false:=by simpa using hc
   have hj2:j=(no-(atI rows rep).length).toNat:=by omega
   refine .inr ?_
   simp (disch:=first|assumption|omega) only[S0,rA,rQ,rB,rT,rE,aI,lZ,dK,bD,tJ,iV,ha,hlen,hc']
   rw[hj2];rfl
theorem yR (s:List Int)(k i f t a:Int)(hc:kX ⟨k,i,f,t,a⟩=true)(hl:(s.length:Int)=4)(hq:∀ x∈s,0<=x/\x<=100000000):Fun T 51 [rL s,i64 k,i64 i,i64 f,i64 t,i64 a]=some [rL (iD s ⟨k,i,f,t,a⟩).1,i64 (iD s ⟨k,i,f,t,a⟩).2.code,i64 (iD s ⟨k,i,f,t,a⟩).2.sum]:=by
 rw[aJ (t:=Ya5) rfl];unfold Ya5;unfold iD
 obtain⟨hk,hm,hr⟩:=yG hc
 simp only at hk hm hr
 have hl':s.length<=10000000000:=by omega
 rcases hk with rfl|rfl|rfl
 ·(refine aB ?_;repeat' (refine aA ?_ ?_<;>intro _<;>try simp (disch:=first|assumption|omega) only[S0,rA,rQ,rB,rT,rE,fB, *]))
 ·obtain⟨⟨f1,f2⟩,⟨t1,t2⟩,hne,a1,a2⟩:=hm rfl
  have hbf:InB s f:=by unfold InB;omega
  have hbt:InB s t:=by unfold InB;omega
  have hqf:=hq _ (bL hbf)
  have hbt2:InB (dB s f (atI s f-a)) t:=by unfold InB;rw[jU];omega
  by_cases hlt:atI s f<a
  ·(refine aB ?_;repeat' (refine aA ?_ ?_<;>intro _<;>try simp (disch:=first|assumption|omega) only[S0,rA,rQ,rB,rT,rE,fB,aI, *]))
  ·have e:atI (dB s f (atI s f-a)) t=atI s t:=Jaq f1 t1 hne
   have hqt:=hq _ (bL hbt)
   (refine aB ?_;repeat' (refine aA ?_ ?_<;>intro _<;>try simp (disch:=first|assumption|omega|(simp only[iV];assumption)) only[S0,rA,rQ,rB,rT,rE,fB,aI,lZ,iV, *]))
 ·obtain⟨f1,f2⟩:=hr rfl
  have hbf:InB s f:=by unfold InB;omega
  (refine aB ?_;repeat' (refine aA ?_ ?_<;>intro _<;>try simp (disch:=first|assumption|omega) only[S0,rA,rQ,rB,rT,rE,fB,aI, *]))
theorem Ha4 (s:List Int)(k i f t a:Int)(hc:kX ⟨k,i,f,t,a⟩=true)(hl:(s.length:Int)=4)(hq:∀ x∈s,0<=x/\x<=100000000):Fun T 112 [rL s,i64 k,i64 i,i64 f,i64 t,i64 a]=some [i64 (iD s ⟨k,i,f,t,a⟩).2.code,i64 (iD s ⟨k,i,f,t,a⟩).2.sum,rL (iD s ⟨k,i,f,t,a⟩).1]:=by
 rw[aJ (t:=Nak) rfl];unfold Nak;unfold iD
 obtain⟨hk,hm,hr⟩:=yG hc
 simp only at hk hm hr
 rcases hk with rfl|rfl|rfl
 ·(refine aB ?_;repeat' (refine aA ?_ ?_<;>intro _<;>try simp (disch:=first|assumption|omega) only[S0,rA,rQ,rB,rT,rE, *]))
 ·obtain⟨⟨f1,f2⟩,⟨t1,t2⟩,hne,a1,a2⟩:=hm rfl
  have hbf:InB s f:=by unfold InB;omega
  have hbt:InB s t:=by unfold InB;omega
  have hqf:=hq _ (bL hbf)
  by_cases hlt:atI s f<a
  ·(refine aB ?_;repeat' (refine aA ?_ ?_<;>intro _<;>try simp (disch:=first|assumption|omega) only[S0,rA,rQ,rB,rT,rE,aI, *]))
  ·have e:atI (dB s f (atI s f-a)) t=atI s t:=Jaq f1 t1 hne
   have hqt:=hq _ (bL hbt)
   (refine aB ?_;repeat' (refine aA ?_ ?_<;>intro _<;>try simp (disch:=first|assumption|omega|(simp only[iV];assumption)) only[S0,rA,rQ,rB,rT,rE,aI,lZ,iV, *]))
 ·obtain⟨f1,f2⟩:=hr rfl
  have hbf:InB s f:=by unfold InB;omega
  (refine aB ?_;repeat' (refine aA ?_ ?_<;>intro _<;>try simp (disch:=first|assumption|omega) only[S0,rA,rQ,rB,rT,rE,aI, *]))
theorem dN (xs:List Int)(n:Int)(hx:xs.length<=1099511627776):Fun T 47 [rL xs,i64 n]=some [.bool (fE xs n)]:=by
 rw[aJ (t:=Ya8) rfl];unfold Ya8;unfold fE
 simp (disch:=first|assumption|omega) only[S0,rA,rQ,rB,rT,rE]
 rw[mP 1 xs (fun x=>x==n) (fun _=>[.bool true])]
 ·(refine aB ?_;repeat' (refine aA ?_ ?_<;>intro _<;>try simp (disch:=first|assumption|omega) only[S0,rA,rQ,rB,rT,rE, *]))
 ·intro i hi hb hl hp
  (refine aB ?_;repeat' (refine aA ?_ ?_<;>intro _<;>try simp (disch:=first|assumption|omega) only[S0,rA,rQ,rB,rT,rE,aI, *]))
 ·intro i hi hb hl hp
  (refine aB ?_;repeat' (refine aA ?_ ?_<;>intro _<;>try simp (disch:=first|assumption|omega) only[S0,rA,rQ,rB,rT,rE,aI, *]))
 ·intro hl
  simp (disch:=first|assumption|omega) only[S0,rA,rQ,rB,rT,rE,hl]
theorem slices_Index_int (xs:List Int)(n:Int)(hx:xs.length<=1099511627776):Fun T 103 [rL xs,i64 n]=some [i64 (ixF (fun x=>n==x) xs)]:=by
 rw[aJ (t:=Fag) rfl];unfold Fag
 simp (disch:=first|assumption|omega) only[S0,rA,rQ,rB,rT,rE]
 rw[mP 1 xs (fun x=>n==x) (fun i=>[i64 i])]
 ·cases h:xs.any (fun x=>n==x)
  ·have e:ixF (fun x=>n==x) xs=-1:=by
    have h2:=bJ (fun x=>n==x) xs
    rw[h]at h2
    unfold ixF at h2 ⊢
    split at h2<;>simp_all
   rw[e];simp (disch:=first|assumption|omega) only[S0,rA,rQ,rB,rT,rE]
  ·simp (disch:=first|assumption|omega) only[S0,rA,rQ,rB,rT,rE]
 ·intro i hi hb hl hp
  (refine aB ?_;repeat' (refine aA ?_ ?_<;>intro _<;>try simp (disch:=first|assumption|omega) only[S0,rA,rQ,rB,rT,rE,aI, *]))
 ·intro i hi hb hl hp
  (refine aB ?_;repeat' (refine aA ?_ ?_<;>intro _<;>try simp (disch:=first|assumption|omega) only[S0,rA,rQ,rB,rT,rE,aI, *]))
 ·intro hl
  simp (disch:=first|assumption|omega) only[S0,rA,rQ,rB,rT,rE,hl]
theorem slices_Contains_int (xs:List Int)(n:Int)(hx:xs.length<=1099511627776):Fun T 102 [rL xs,i64 n]=some [.bool (fE xs n)]:=by
 rw[aJ (t:=Fah) rfl];unfold Fah
 have e:fE xs n=xs.any fun x=>n==x:=by
  unfold fE
  congr 1
  funext x
  rw[Vba,beq_iff_eq,beq_iff_eq]
  exact eq_comm
 simp (disch:=first|assumption|omega) only[S0,rA,rQ,rB,rT,rE,slices_Index_int,bJ,e]
theorem nC (xs:List Int)(n:Int)(hx:xs.length<=10000000000):Fun T 42 [rL xs,i64 n]=some [rL (Nag xs n)]:=by
 rw[aJ (t:=Zad) rfl];unfold Zad;unfold Nag
 have hk:=Waz xs n
 have h0:(aN.mk 1 0).run []=some [.rows 1 []]:=rfl
 simp (disch:=first|assumption|omega) only[S0,rA,rQ,rB,rT,rE]
 rw[sZ (T:=T) (.yield 1,[i64 (jT xs n:Nat)]) (fun k:Nat=>jT xs n-k) (fun k=>k<=jT xs n) (fun k=>[i64 k]) 0 rfl (by omega) (by simp)]
 ·have l1:(xs.take (jT xs n)).length<=10000000000:=by rw[Tbc];omega
  have l2:(xs.take (jT xs n)).length+([n]:List Int).length<=100000000000:=by simp only[Sbw,Sbx];omega
  have l3:(xs.take (jT xs n)++[n]).length+(xs.drop (jT xs n)).length<=100000000000:=by simp only[Sby,Sbw,Sbx,Tbx];omega
  by_cases h:jT xs n<xs.length
  ·have hb:InB xs (jT xs n:Nat):=aG.2 h
   have h2:decide ((jT xs n:Int)<xs.length)=true:=by simp;omega
   cases h3:atI xs (jT xs n:Nat)==n
   ·simp (disch:=first|assumption|omega) only[S0,rA,rQ,rB,rT,rE,aI,dK,bD,sN,h0,h2,h3,hb,Tbk,Vbd,Vb3,Tbh]
   ·simp (disch:=first|assumption|omega) only[S0,rA,rQ,rB,rT,rE,aI,dK,bD,sN,h0,h2,h3,hb]
  ·have h2:decide ((jT xs n:Int)<xs.length)=false:=by simp;omega
   simp (disch:=first|assumption|omega) only[S0,rA,rQ,rB,rT,rE,aI,dK,bD,sN,h0,h2,Tbk,Vbd,Vb3,Tbh]
 ·intro k hk2
  by_cases h:k<jT xs n
  ·have hb:InB xs (k:Int):=aG.2 (by omega)
   have h2:decide ((k:Int)<xs.length)=true:=by simp;omega
   have h3:decide (atI xs (k:Int)<n)=true:=by simpa using Pa9 h
   refine .inl ⟨k+1,?_,by omega,by omega⟩
   simp (disch:=first|assumption|omega) only[S0,rA,rQ,rB,rT,rE,aI,h2,h3,hb]
  ·obtain rfl:k=jT xs n:=by omega
   refine .inr ?_
   by_cases h4:jT xs n<xs.length
   ·have hb:InB xs (jT xs n:Nat):=aG.2 h4
    have h2:decide ((jT xs n:Int)<xs.length)=true:=by simp;omega
    have h3:decide (atI xs (jT xs n:Nat)<n)=false:=by simpa using Qaa h4
    simp (disch:=first|assumption|omega) only[S0,rA,rQ,rB,rT,rE,aI,h2,h3,hb]
   ·have h2:decide ((jT xs n:Int)<xs.length)=false:=by simp;omega
    simp (disch:=first|assumption|omega) only[S0,rA,rQ,rB,rT,rE,aI,h2]
theorem eF (n:Int)(rows:List (List aY))(hs:∀ l∈rows,l.length<=6)(hl:rows.length<=100):Fun T 30 [i64 n,rL rows]=some [rL (aU rows)]:=by
 rw[aJ (t:=Zap) rfl];unfold Zap;unfold aU
 simp (disch:=first|assumption|omega) only[S0,rA,rQ,rB,rT,rE]
 rw[bH rows.length (fun k=>[rL (uG rows k),i64 k]) (.yield 1,[rL (uG rows rows.length)]) rfl (by simp)]
 ·simp (disch:=first|assumption|omega) only[S0,rA,rQ,rB,rT,rE]
 ·intro k hk hlt
  have hb:InB rows (k:Int):=aG.2 hk
  have h6:=hs _ (at_mem hk)
  have hln:=kW hs (m:=k) (by omega)
  simp (disch:=first|assumption|omega) only[S0,rA,rQ,rB,rT,rE,aI,hlt]
  rw[bH (atI rows (k:Int)).length (fun i=>[rL (uG rows k++dV (atI rows (k:Int)) k i),i64 i]) (.yield 3,[rL (uG rows (k+1))]) (by show [rL (uG rows k),_]=_;simp[dV,aO.val]) (by simp)]
  ·simp (disch:=first|assumption|omega) only[S0,rA,rQ,rB,rT,rE]
  ·intro i hi hlt2
   have hb2:InB (atI rows (k:Int)) (i:Int):=aG.2 hi
   have hlc:=mU (atI rows (k:Int)) k i
   have hll:(uG rows k++dV (atI rows (k:Int)) k i).length+([[(k:Int),(i:Int)+1]]:List (List Int)).length<=100000000000:=by
    rw[Sby];simp only[Sbw,Sbx];omega
   have e:=kM (atI rows (k:Int)) k i
   cases hst:(atI (atI rows (k:Int)) (i:Int)).state==3
   ·rw[hst]at e
    simp only[Sbv,if_false,Tbb]at e
    simp (disch:=first|assumption|omega) only[S0,rA,rQ,rB,rT,rE,aI,hlt2,hst,e]
   ·rw[hst]at e
    simp only[if_true]at e
    simp (disch:=first|assumption|omega) only[S0,rA,rQ,rB,rT,rE,aI,dK,bD,hlt2,hst,e,<- Sb3]
  ·intro hlt2
   rw[<- sK]
   simp (disch:=first|assumption|omega) only[S0,rA,rQ,rB,rT,rE,hlt2]
 ·intro hlt
  simp (disch:=first|assumption|omega) only[S0,rA,rQ,rB,rT,rE,hlt]
theorem fM (k m:Int)(r_ballot r_vote r_state r_cmd_kind r_cmd_id r_cmd_src r_cmd_dst r_cmd_amt r_attr_seq:Int)(r_attr_deps:(List Int))(out:List (List Int))(hl:out.length<=10000000000):Fun T 82 [i64 k,i64 m,i64 r_ballot,i64 r_vote,i64 r_state,i64 r_cmd_kind,i64 r_cmd_id,i64 r_cmd_src,i64 r_cmd_dst,i64 r_cmd_amt,i64 r_attr_seq,rL r_attr_deps,rL out]=some [rL (out++if r_state==3 then [[k,m]] else [])]:=by
 rw[aJ (t:=Yak) rfl];unfold Yak
 have hll:out.length+([[k,m]]:List (List Int)).length<=100000000000:=by simp only[Sbw,Sbx];omega
 cases hst:r_state==3
 ·simp (disch:=first|assumption|omega) only[S0,rA,rQ,rB,rT,rE,hst,Tbb,Sbv]
 ·simp (disch:=first|assumption|omega) only[S0,rA,rQ,rB,rT,rE,dK,bD,hst]
theorem nX (n:Int)(rows:List (List aY))(hs:∀ l∈rows,l.length<=6)(hl:rows.length<=100):Fun T 81 [i64 n,rL rows,.rows 1 []]=some [rL (aU rows)]:=by
 rw[aJ (t:=Yal) rfl];unfold Yal;unfold aU
 simp (disch:=first|assumption|omega) only[S0,rA,rQ,rB,rT,rE]
 rw[bH rows.length (fun k=>[i64 k,rL (uG rows k)]) (.yield 1,[rL (uG rows rows.length)]) rfl (by simp)]
 ·simp (disch:=first|assumption|omega) only[S0,rA,rQ,rB,rT,rE]
 ·intro k hk hlt
  have hb:InB rows (k:Int):=aG.2 hk
  have h6:=hs _ (at_mem hk)
  have hln:=kW hs (m:=k) (by omega)
  simp (disch:=first|assumption|omega) only[S0,rA,rQ,rB,rT,rE,aI,hlt]
  rw[bH (atI rows (k:Int)).length (fun i=>[i64 i,rL (uG rows k++dV (atI rows (k:Int)) k i)]) (.yield 3,[rL (uG rows (k+1))]) (by show [_,rL (uG rows k)]=_;simp[dV,aO.val]) (by simp)]
  ·simp (disch:=first|assumption|omega) only[S0,rA,rQ,rB,rT,rE]
  ·intro i hi hlt2
   have hb2:InB (atI rows (k:Int)) (i:Int):=aG.2 hi
   have hlc:=mU (atI rows (k:Int)) k i
   have hll:(uG rows k++dV (atI rows (k:Int)) k i).length<=10000000000:=by
    rw[Sby];omega
   have e:=kM (atI rows (k:Int)) k i
   simp (disch:=first|assumption|omega) only[S0,rA,rQ,rB,rT,rE,aI,fM,hlt2,e,Sb3]
  ·intro hlt2
   rw[<- sK]
   simp (disch:=first|assumption|omega) only[S0,rA,rQ,rB,rT,rE,hlt2]
 ·intro hlt
  simp (disch:=first|assumption|omega) only[S0,rA,rQ,rB,rT,rE,hlt]
theorem bT (n:Int)(rows:List (List aY))(hs:∀ l∈rows,l.length<=6)(hl:rows.length<=100):Fun T 80 [i64 n,rL rows]=some [rL (aU rows)]:=by
 rw[aJ (t:=Yam) rfl];unfold Yam
 have h0:(aN.mk 1 0).run []=some [.rows 1 []]:=rfl
 simp (disch:=first|assumption|omega) only[S0,rA,rQ,rB,rT,rE,h0,nX]
theorem bO (l:List (List Int))(x:List Int)(hl:l.length<=1099511627776)(hx:x.length<=1099511627776):Fun T 37 [rL l,rL x]=some [i64 (iQ l x)]:=by
 rw[aJ (t:=Zai) rfl];unfold Zai;unfold iQ
 simp (disch:=first|assumption|omega) only[S0,rA,rQ,rB,rT,rE]
 rw[mP 1 l (fun y=>decide (x=y)) (fun i=>[i64 i])]
 ·cases h:l.any (fun y=>decide (x=y))
  ·have e:ixF (fun y=>decide (x=y)) l=-1:=by
    have h2:=bJ (fun y=>decide (x=y)) l
    rw[h]at h2
    unfold ixF at h2 ⊢
    split at h2<;>simp_all
   rw[e];simp (disch:=first|assumption|omega) only[S0,rA,rQ,rB,rT,rE]
  ·simp (disch:=first|assumption|omega) only[S0,rA,rQ,rB,rT,rE]
 ·intro i hi hb hlt hp
  simp (disch:=first|assumption|omega) only[S0,rA,rQ,rB,rT,rE,aI,iO,hlt,hp]
 ·intro i hi hb hlt hp
  simp (disch:=first|assumption|omega) only[S0,rA,rQ,rB,rT,rE,aI,iO,hlt,hp]
 ·intro hlt
  simp (disch:=first|assumption|omega) only[S0,rA,rQ,rB,rT,rE,hlt]
theorem dY (y x:List Int)(hx:x.length<=1099511627776):Fun T 95 [rL y,rL x]=some [.bool (decide (x=y))]:=by
 rw[aJ (t:=Xa9) rfl];unfold Xa9
 simp (disch:=first|assumption|omega) only[S0,rA,rQ,rB,rT,rE,slices_Equal_int]
theorem lG (x:List Int)(hx2:x.length<=1099511627776)(xs:List (List Int))(hx:xs.length<=1099511627776):Fun T 94 [rL xs,rL x]=some [i64 (ixF (fun y=>decide (x=y)) xs)]:=by
 rw[aJ (t:=Yaa) rfl];unfold Yaa
 simp (disch:=first|assumption|omega) only[S0,rA,rQ,rB,rT,rE,aI, *]
 rw[mP 1 xs (fun y=>decide (x=y)) (fun i=>[i64 i])]
 ·cases h:xs.any (fun y=>decide (x=y))
  ·have e:ixF (fun y=>decide (x=y)) xs=-1:=by
    have h2:=bJ (fun y=>decide (x=y)) xs
    rw[h]at h2
    unfold ixF at h2 ⊢
    split at h2<;>simp_all
   rw[e];simp (disch:=first|assumption|omega) only[S0,rA,rQ,rB,rT,rE]
  ·simp (disch:=first|assumption|omega) only[S0,rA,rQ,rB,rT,rE]
 ·intro i hi hb hl hp
  (refine aB ?_;repeat' (refine aA ?_ ?_<;>intro _<;>try simp (disch:=first|assumption|omega) only[S0,rA,rQ,rB,rT,rE,aI,dY, *]))
 ·intro i hi hb hl hp
  (refine aB ?_;repeat' (refine aA ?_ ?_<;>intro _<;>try simp (disch:=first|assumption|omega) only[S0,rA,rQ,rB,rT,rE,aI,dY, *]))
 ·intro hl
  (refine aB ?_;repeat' (refine aA ?_ ?_<;>intro _<;>try simp (disch:=first|assumption|omega) only[S0,rA,rQ,rB,rT,rE, *]))
theorem lL (x:List Int)(hx2:x.length<=1099511627776)(xs:List (List Int))(hx:xs.length<=1099511627776):Fun T 93 [rL xs,rL x]=some [.bool (xs.any (fun y=>decide (x=y)))]:=by
 rw[aJ (t:=Vav) rfl];unfold Vav
 (refine aB ?_;repeat' (refine aA ?_ ?_<;>intro _<;>try simp (disch:=first|assumption|omega) only[S0,rA,rQ,rB,rT,rE,lG,bJ, *]))
theorem dE (l:List (List Int))(x:List Int)(hl:l.length<=1099511627776)(hx:x.length<=1099511627776):Fun T 92 [rL l,rL x]=some [.bool (l.any fun y=>decide (x=y))]:=by
 rw[aJ (t:=Yab) rfl];unfold Yab
 simp (disch:=first|assumption|omega) only[S0,rA,rQ,rB,rT,rE,lL]
theorem mE (n:Int)(rows:List (List aY))(rep no:Int)(ht:aV ⟨n,rows⟩=true)(hi:inst n rep no=true)(hs:bX rows):Fun T 32 [i64 n,rL rows,i64 rep,i64 no]=some [rL (xZ ⟨n,rows⟩ rep no)]:=by
 rw[aJ (t:=Zan) rfl];unfold Zan;unfold xZ
 have hg:bK n=true:=aQ ht
 have hn:=aT hg
 have hb:InB rows rep:=bN ht hi
 have hr:=bE hi
 have hd:=dQ ht hi
 have h6:=gT (jX ht hi) hg
 simp only at hd
 simp (disch:=first|assumption|omega) only[S0,rA,rQ,rB,rT,rE,fJ]
 generalize (cK ⟨n,rows⟩ rep no).attr.deps=deps at hd h6 ⊢
 have hdl:deps.length<=5:=by omega
 rw[bH deps.length (fun k=>[rL (Jal deps rep no k),i64 k]) (.yield 1,[rL (Jal deps rep no deps.length)]) rfl (by simp)]
 ·simp (disch:=first|assumption|omega) only[S0,rA,rQ,rB,rT,rE]
 ·intro k hk hlt
  have hbk:InB deps (k:Int):=aG.2 hk
  have hq:=h6 _ (at_mem hk)
  have hln:=rR (deps:=deps) (rep:=rep) (no:=no) (fun d hd=>(h6 d hd).2) (m:=k) (by omega)
  simp (disch:=first|assumption|omega) only[S0,rA,rQ,rB,rT,rE,aI,hlt]
  rw[bH (atI deps (k:Int)).toNat (fun i=>[rL (Jal deps rep no k++sJ k rep no i),i64 ((i:Int)+1)]) (.yield 3,[rL (Jal deps rep no (k+1))]) (by show [rL (Jal deps rep no k),_]=_;simp[sJ,aO.val]) (by simp)]
  ·simp (disch:=first|assumption|omega) only[S0,rA,rQ,rB,rT,rE]
  ·intro i hi2 hlt2
   have hlc:=xY (k:Int) rep no i
   have hll:(Jal deps rep no k++sJ (k:Int) rep no i).length+([[(k:Int),(i:Int)+1]]:List (List Int)).length<=100000000000:=by
    rw[Sby];simp only[Sbw,Sbx];omega
   have hle:decide ((i:Int)+1<=atI deps (k:Int))=true:=by simp;omega
   have e:=zS (k:Int) rep no i
   cases h1:(k:Int)==rep
   ·rw[h1]at e
    simp only[Vb1,Wbc,if_true]at e
    simp (disch:=first|assumption|omega) only[S0,rA,rQ,rB,rT,rE,dK,bD,hle,h1,e,<- Sb3]
   ·cases h2:(i:Int)+1==no
    ·rw[h1,h2]at e
     simp only[Vb1,Ub0,Vbk,if_true]at e
     simp (disch:=first|assumption|omega) only[S0,rA,rQ,rB,rT,rE,dK,bD,hle,h1,h2,e,<- Sb3]
    ·rw[h1,h2]at e
     simp only[Ub0,Ubz,Sbv,if_false,Tbb]at e
     simp (disch:=first|assumption|omega) only[S0,rA,rQ,rB,rT,rE,dK,bD,hle,h1,h2,e]
  ·intro hlt2
   have hle:decide ((((atI deps (k:Int)).toNat:Nat):Int)+1<=atI deps (k:Int))=false:=by simp;omega
   rw[<- Ga1]
   simp (disch:=first|assumption|omega) only[S0,rA,rQ,rB,rT,rE,hle]
 ·intro hlt
  simp (disch:=first|assumption|omega) only[S0,rA,rQ,rB,rT,rE,hlt]
theorem mD (n:Int)(rows:List (List aY))(ht:aV ⟨n,rows⟩=true)(hs:bX rows):Fun T 41 [i64 n,rL rows]=some [rL (aU rows),rL (sI ⟨n,rows⟩)]:=by
 rw[aJ (t:=Zae) rfl];unfold Zae;unfold sI
 have hg:bK n=true:=aQ ht
 have hn:=aT hg
 have hl:(rows.length:Int)=n:=bU ht
 have h6:∀ l∈rows,l.length<=6:=fun l hl=>(bY ht hl).1
 have hl2:rows.length<=100:=by omega
 have hcl:(aU rows).length<=6*rows.length:=kW h6 (Sb7 _)
 have hcl2:(aU rows).length<=1099511627776:=by omega
 simp (disch:=first|assumption|omega) only[S0,rA,rQ,rB,rT,rE,eF]
 rw[bH (aU rows).length (fun k=>[rL (iL ⟨n,rows⟩ k),i64 k]) (.yield 1,[rL (iL ⟨n,rows⟩ (aU rows).length)]) rfl (by simp)]
 ·simp (disch:=first|assumption|omega) only[S0,rA,rQ,rB,rT,rE]
 ·intro k hk hlt
  have hb:InB (aU rows) (k:Int):=aG.2 hk
  have hmem:=at_mem hk
  obtain⟨x0,x1,hx2,xi,-⟩:=eQ ht hmem
  simp only at xi
  have hgr:=La3 ht hmem
  simp only at hgr
  have hgs:=rD ⟨n,rows⟩ k
  simp only at hgs
  rw[<- hgr]at hgs
  have hd6:=gT (jX ht xi) hg
  have hdl:=dQ ht xi
  simp only at hdl
  have hdep:(xZ ⟨n,rows⟩ (atI (atI (aU rows) (k:Int)) 0) (atI (atI (aU rows) (k:Int)) 1)).length<=30:=by
   have:=rR (rep:=atI (atI (aU rows) (k:Int)) 0) (no:=atI (atI (aU rows) (k:Int)) 1) (fun d hd=>(hd6 d hd).2) (Sb7 _)
   unfold xZ
   omega
  have hll:(iL ⟨n,rows⟩ k).length+1<=100000000000:=by rw[rF];omega
  simp (disch:=first|assumption|omega) only[S0,rA,rQ,rB,rT,rE,aI,mE,hlt]
  have hys:∀ y∈xZ ⟨n,rows⟩ (atI (atI (aU rows) (k:Int)) 0) (atI (atI (aU rows) (k:Int)) 1),y.length<=1099511627776:=fun y hy=>by
   obtain⟨_,_,_,_,_,rfl⟩:=Caz.1 hy
   simp
  generalize xZ ⟨n,rows⟩ (atI (atI (aU rows) (k:Int)) 0) (atI (atI (aU rows) (k:Int)) 1)=ys at hdep hgs hgr hys ⊢
  rw[bH ys.length (fun i=>[rL (Ja9 (aU rows) ys i),i64 i]) (.yield 3,[rL (Ja9 (aU rows) ys ys.length)]) rfl (by simp)]
  ·have hll2:(iL ⟨n,rows⟩ k).length+([Ja9 (aU rows) ys ys.length]:List (List Int)).length<=100000000000:=hll
   simp (disch:=first|assumption|omega) only[S0,rA,rQ,rB,rT,rE,dK,bD,hgs]
  ·intro i hi hlt2
   have hby:InB ys (i:Int):=aG.2 hi
   have hyl:=hys _ (at_mem hi)
   have hpl:=Ja8 (aU rows) ys i
   have hpl2:(Ja9 (aU rows) ys i).length<=10000000000:=by omega
   rw[xE]
   cases hf:decide (0<=iQ (aU rows) (atI ys (i:Int)))
   ·simp (disch:=first|assumption|omega) only[S0,rA,rQ,rB,rT,rE,aI,bO,hlt2,hf,Sbv]
   ·simp (disch:=first|assumption|omega) only[S0,rA,rQ,rB,rT,rE,aI,bO,nC,hlt2,hf]
  ·intro hlt2
   simp (disch:=first|assumption|omega) only[S0,rA,rQ,rB,rT,rE,hlt2]
 ·intro hlt
  simp (disch:=first|assumption|omega) only[S0,rA,rQ,rB,rT,rE,hlt]
theorem gX (n:Int)(rows:List (List aY))(ht:aV ⟨n,rows⟩=true)(hs:bX rows):Fun T 98 [i64 n,rL rows]=some [rL (aU rows),rL (sI ⟨n,rows⟩)]:=by
 rw[aJ (t:=Gbs) rfl];unfold Gbs;unfold sI
 have hg:bK n=true:=aQ ht
 have hn:=aT hg
 have hl:(rows.length:Int)=n:=bU ht
 have h6:∀ l∈rows,l.length<=6:=fun l hl=>(bY ht hl).1
 have hl2:rows.length<=100:=by omega
 have hcl:(aU rows).length<=6*rows.length:=kW h6 (Sb7 _)
 have h0:(aN.mk 1 0).run []=some [.rows 1 []]:=rfl
 simp (disch:=first|assumption|omega) only[S0,rA,rQ,rB,rT,rE,bT,h0]
 rw[bH (aU rows).length (fun k=>[rL (iL ⟨n,rows⟩ k),i64 k]) (.yield 1,[rL (iL ⟨n,rows⟩ (aU rows).length)]) rfl (by simp)]
 ·simp (disch:=first|assumption|omega) only[S0,rA,rQ,rB,rT,rE]
 ·intro k hk hlt
  have hb:InB (aU rows) (k:Int):=aG.2 hk
  have hmem:=at_mem hk
  obtain⟨x0,x1,hx2,xi,-⟩:=eQ ht hmem
  simp only at xi
  have xr:=bE xi
  have xb:=bN ht xi
  simp only at xb
  have hxl:(atI (aU rows) (k:Int)).length<=1099511627776:=by omega
  have hgs:=rD ⟨n,rows⟩ k
  simp only at hgs
  have hd:=dQ ht xi
  simp only at hd
  simp (disch:=first|assumption|omega) only[S0,rA,rQ,rB,rT,rE,aI,bA,hlt,h0]
  rw[bH (aU rows).length (fun i=>[rL (sS (aU rows) (cK ⟨n,rows⟩ (atI (atI (aU rows) (k:Int)) 0) (atI (atI (aU rows) (k:Int)) 1)).attr.deps (atI (aU rows) (k:Int)) i),i64 i]) (.yield 3,[rL (sS (aU rows) (cK ⟨n,rows⟩ (atI (atI (aU rows) (k:Int)) 0) (atI (atI (aU rows) (k:Int)) 1)).attr.deps (atI (aU rows) (k:Int)) (aU rows).length)]) rfl (by simp)]
  ·have hll:(iL ⟨n,rows⟩ k).length+1<=100000000000:=by rw[rF];omega
   have hll2:(iL ⟨n,rows⟩ k).length+([sS (aU rows) (cK ⟨n,rows⟩ (atI (atI (aU rows) (k:Int)) 0) (atI (atI (aU rows) (k:Int)) 1)).attr.deps (atI (aU rows) (k:Int)) (aU rows).length]:List (List Int)).length<=100000000000:=hll
   simp (disch:=first|assumption|omega) only[S0,rA,rQ,rB,rT,rE,dK,bD,hgs]
  ·intro i hi hlt2
   have hbi:InB (aU rows) (i:Int):=aG.2 hi
   obtain⟨y0,y1,-,yi,-⟩:=eQ ht (at_mem hi)
   simp only at yi
   have yr:=bE yi
   have hbd:=Dau ht xi yi
   rw[xR]
   unfold Uau
   generalize (cK ⟨n,rows⟩ (atI (atI (aU rows) (k:Int)) 0) (atI (atI (aU rows) (k:Int)) 1)).attr.deps=deps at hbd ⊢
   have hhl:=xS (aU rows) deps (atI (aU rows) (k:Int)) i
   have hll:(sS (aU rows) deps (atI (aU rows) (k:Int)) i).length+([(i:Int)]:List Int).length<=100000000000:=by simp only[Sbw,Sbx];omega
   cases h1:decide (atI (aU rows) (k:Int)=atI (aU rows) (i:Int))
   ·cases h2:decide (atI (atI (aU rows) (i:Int)) 1<=atI deps (atI (atI (aU rows) (i:Int)) 0))
    ·simp (disch:=first|assumption|omega) only[S0,rA,rQ,rB,rT,rE,aI,slices_Equal_int,hlt2,h1,h2,Sbv,Tbb]
    ·simp (disch:=first|assumption|omega) only[S0,rA,rQ,rB,rT,rE,aI,dK,bD,slices_Equal_int,hlt2,h1,h2]
   ·simp (disch:=first|assumption|omega) only[S0,rA,rQ,rB,rT,rE,aI,slices_Equal_int,hlt2,h1,Sbv,Tbb]
  ·intro hlt2
   simp (disch:=first|assumption|omega) only[S0,rA,rQ,rB,rT,rE,hlt2]
 ·intro hlt
  simp (disch:=first|assumption|omega) only[S0,rA,rQ,rB,rT,rE,hlt]
theorem pY (n:Int)(hg:bK n=true):Fun T 78 [i64 n]=some [i64 n,rL (Sb1 n.toNat ([]:List aY))]:=by
 rw[aJ (t:=Gb2) rfl];unfold Gb2
 have hn:=aT hg
 simp (disch:=first|assumption|omega) only[S0,rA,rQ,rB,rT,rE,pI]
theorem Bal:Fun T 73 []=some [rL ([100,100,100,100]:List Int)]:=wH.2 ⟨12,by kernel_rfl⟩
theorem jE (l:List (List Int))(x:List Int)(hl:l.length<=1000)(h2:∀ y∈l,y.length=2)(hx:x.length=2):Fun T 38 [rL l,rL x]=some [rL (Eb5 l x)]:=by
 rw[aJ (t:=Zah) rfl];unfold Zah
 have x0:InB x 0:=by unfold InB;omega
 have x1:InB x 1:=by unfold InB;omega
 have hk:=Lax l x l.length
 have hkl:((jP l x l.length:Nat):Int)<=l.length:=by omega
 simp (disch:=first|assumption|omega) only[S0,rA,rQ,rB,rT,rE]
 rw[sZ (γ:=Nat) (.yield 1,[i64 ((jP l x l.length:Nat):Int)]) (fun k=>k) (fun k=>k<=l.length/\jP l x k=jP l x l.length) (fun k=>[i64 (k:Int)]) l.length rfl ⟨Sb7 _,rfl⟩ (by simp)]
 ·have e0:(l.take (jP l x l.length)).drop 0=l.take (jP l x l.length):=rfl
  have e1:(l.take l.length).drop (jP l x l.length)=l.drop (jP l x l.length):=by rw[Tbh]
  have t1:(l.take (jP l x l.length)).length<=1000:=by rw[Tbc];omega
  have t2:(l.drop (jP l x l.length)).length<=1000:=by rw[Tbx];omega
  have t3:((l.take (jP l x l.length))++[x]).length<=1001:=by rw[Sby];simp only[Sbw,Sbx];omega
  have a1:([]:List (List Int)).length+(l.drop (jP l x l.length)).length<=100000000000:=by simp only[Sbx];omega
  have a2:([]:List (List Int)).length+(l.take (jP l x l.length)).length<=100000000000:=by simp only[Sbx];omega
  have a3:(l.take (jP l x l.length)).length+([x]:List (List Int)).length<=100000000000:=by simp only[Sbw,Sbx];omega
  have a4:((l.take (jP l x l.length))++[x]).length+(l.drop (jP l x l.length)).length<=100000000000:=by omega
  have h0:(aN.mk 1 0).run []=some [rL ([]:List (List Int))]:=rfl
  have b1:(0:Int)<=((jP l x l.length:Nat):Int):=by omega
  unfold Eb5
  simp (disch:=first|assumption|omega) only[S0,rA,rQ,rB,rT,rE,dK,bD,sN,h0,e0,e1,Tbk,Vbd,Tb2]
 ·intro k ⟨hkle,hki⟩
  cases k with
  | zero =>
   refine .inr ?_
   have e:jP l x l.length=0:=by rw[<- hki];rfl
   have hd0:decide ((0:Int)<((0:Nat):Int))=false:=by decide
   rw[e]
   simp (disch:=first|assumption|omega) only[S0,rA,rQ,rB,rT,rE,aI,hd0]
  | succ k =>
   have hb:InB l (k:Int):=aG.2 (by omega)
   have hy:=h2 _ (at_mem (show k<l.length by omega))
   have y0:InB (atI l (k:Int)) 0:=by unfold InB;omega
   have y1:InB (atI l (k:Int)) 1:=by unfold InB;omega
   have hgt:decide (0<(k:Int)+1)=true:=decide_eq_true (by omega)
   have hsub:(aN.bin .sub).run [i64 ((k:Int)+1),i64 1]=some [i64 (k:Int)]:=by
    have h:=Daz (a:=(k:Int)+1) (b:=1) (by omega) (by omega)
    rw[show (k:Int)+1-1=k by omega]at h
    exact h
   cases hg:gtL (atI l (k:Int)) x
   ·refine .inr ?_
    have e:jP l x l.length=k+1:=by rw[<- hki];unfold jP;rw[hg];simp
    rw[e]
    have hg2:=hg
    unfold gtL at hg2
    cases c1:decide (atI x 0<atI (atI l (k:Int)) 0)<;>cases c2:(atI (atI l (k:Int)) 0==atI x 0)<;>cases c3:decide (atI x 1<atI (atI l (k:Int)) 1)<;>rw[c1,c2,c3]at hg2<;>first|(cases hg2;done)|skip
    all_goals simp (disch:=first|assumption|omega) only[S0,rA,rQ,rB,rT,rE,aI,hgt,hsub,c1,c2,c3]
   ·refine .inl ⟨k,?_,⟨by omega,by rw[<- hki];conv=>rhs;unfold jP;rw[hg];simp⟩,by omega⟩
    have hg2:=hg
    unfold gtL at hg2
    cases c1:decide (atI x 0<atI (atI l (k:Int)) 0)<;>cases c2:(atI (atI l (k:Int)) 0==atI x 0)<;>cases c3:decide (atI x 1<atI (atI l (k:Int)) 1)<;>rw[c1,c2,c3]at hg2<;>first|(cases hg2;done)|skip
    all_goals simp (disch:=first|assumption|omega) only[S0,rA,rQ,rB,rT,rE,aI,hgt,hsub,c1,c2,c3]
theorem Bak (q:Int)(deps:List Int)(hl:deps.length<=5)(h6:∀ d∈deps,0<=d/\d<=6):Fun T 91 [i64 q,rL deps]=some [rL (nW deps deps.length)]:=by
 rw[aJ (t:=Yac) rfl];unfold Yac
 have h0:(aN.mk 1 0).run []=some [rL ([]:List (List Int))]:=rfl
 simp (disch:=first|assumption|omega) only[S0,rA,rQ,rB,rT,rE,h0]
 rw[bH deps.length (fun k=>[rL (nW deps k),i64 k]) (.yield 1,[rL (nW deps deps.length)]) rfl (by simp)]
 ·simp (disch:=first|assumption|omega) only[S0,rA,rQ,rB,rT,rE]
 ·intro k hk hlt
  have hbk:InB deps (k:Int):=aG.2 hk
  have hq:=h6 _ (at_mem hk)
  have hln:=Bao (deps:=deps) (fun d hd=>(h6 d hd).2) (m:=k) (by omega)
  simp (disch:=first|assumption|omega) only[S0,rA,rQ,rB,rT,rE,aI,hlt]
  rw[bH (atI deps (k:Int)).toNat (fun i=>[rL (nW deps k++mO k i),i64 ((i:Int)+1)]) (.yield 3,[rL (nW deps (k+1))]) (by show [rL (nW deps k),_]=_;simp[mO,aO.val]) (by simp)]
  ·simp (disch:=first|assumption|omega) only[S0,rA,rQ,rB,rT,rE]
  ·intro i hi2 hlt2
   have hlc:=zF (k:Int) i
   have hll:(nW deps k++mO (k:Int) i).length+([[(k:Int),(i:Int)+1]]:List (List Int)).length<=100000000000:=by
    rw[Sby];simp only[Sbw,Sbx];omega
   have hle:decide ((i:Int)+1<=atI deps (k:Int))=true:=by simp;omega
   have e:=Ban (k:Int) i
   simp (disch:=first|assumption|omega) only[S0,rA,rQ,rB,rT,rE,dK,bD,hle,e,<- Sb3]
  ·intro hlt2
   have hle:decide ((((atI deps (k:Int)).toNat:Nat):Int)+1<=atI deps (k:Int))=false:=by simp;omega
   rw[Cas]
   simp (disch:=first|assumption|omega) only[S0,rA,rQ,rB,rT,rE,hle]
 ·intro hlt
  simp (disch:=first|assumption|omega) only[S0,rA,rQ,rB,rT,rE,hlt]
theorem eU (n:Int)(rows:List (List aY))(rep no:Int)(ht:aV ⟨n,rows⟩=true)(hi:inst n rep no=true)(hc:pJ ⟨n,rows⟩ [rep,no]=true)(hs:bX rows):Fun T 31 [i64 n,rL rows,i64 rep,i64 no]=some [rL (gQ ⟨n,rows⟩ [rep,no])]:=by
 rw[aJ (t:=Zao) rfl];unfold Zao
 have hx:dM n [rep,no]:=⟨rfl,hi⟩
 simp (disch:=first|assumption|omega) only[S0,rA,rQ,rB,rT,rE,dK]
 generalize hE:Er T (Tm.loop _ _) _=E
 obtain⟨r,h1,s,h2,h3⟩:∃ r,E=some r/\∃ s,Rau ⟨n,rows⟩ [rep,no] s.met.length s/\r=(.yield 1,[rL s.out]):=by
  rw[<- hE]
  refine lF (γ:=Nat×SSt) (fun c=>31-c.1) (fun c=>Rau ⟨n,rows⟩ [rep,no] c.1 c.2) (fun c=>[rL c.2.met,rL c.2.out,i64 (c.1:Int)]) (fun r=>∃ s,Rau ⟨n,rows⟩ [rep,no] s.met.length s/\r=(.yield 1,[rL s.out])) (0,⟨[[rep,no]],[]⟩) ?_ (Rau.start hc) ?_
  ·rfl
  rintro⟨i,s⟩ hinv
  dsimp only at hinv ⊢
  have hlen:=hinv.toSPre.len ht hx
  rcases Tbi i s.met.length with hlt|hge
  ·refine .inl ⟨(i+1,Ib4 ⟨n,rows⟩ s i),?_,hinv.step ht hx hlt,by dsimp only;omega⟩
   dsimp only
   have hb:InB s.met (i:Int):=aG.2 hlt
   have hd:decide ((i:Int)<s.met.length)=true:=by simp;omega
   obtain⟨hzr,hzc⟩:=hinv.rch _ (at_mem hlt)
   obtain⟨hz2,hzi⟩:=hzr.inst ht hx
   have z0:InB (atI s.met (i:Int)) 0:=by unfold InB;omega
   have z1:InB (atI s.met (i:Int)) 1:=by unfold InB;omega
   have hys:∀ y∈xZ ⟨n,rows⟩ (atI (atI s.met (i:Int)) 0) (atI (atI s.met (i:Int)) 1),Kai ⟨n,rows⟩ [rep,no] y:=fun y hy=>.step hzr hzc ((Bav hz2).1 hy).1
   have hyl:(xZ ⟨n,rows⟩ (atI (atI s.met (i:Int)) 0) (atI (atI s.met (i:Int)) 1)).length<=30:=by
    have hd6:=gT (jX ht hzi) (aQ ht)
    have hdl:=dQ ht hzi
    have hn:=aT (aQ ht)
    simp only at hdl hn
    have:=rR (rep:=atI (atI s.met (i:Int)) 0) (no:=atI (atI s.met (i:Int)) 1) (fun d hd=>(hd6 d hd).2) (Sb7 _)
    unfold xZ
    omega
   simp (disch:=first|assumption|omega) only[S0,rA,rQ,rB,rT,rE,aI,mE,hd]
   unfold Ib4
   generalize xZ ⟨n,rows⟩ (atI (atI s.met (i:Int)) 0) (atI (atI s.met (i:Int)) 1)=ys at hys hyl ⊢
   rw[(Eaf 3 ys (fun i (s:SSt)=>[rL s.met,rL s.out,rL ys,i64 i]) s (Ra4 ⟨n,rows⟩) (fun _ s=>SPre ⟨n,rows⟩ [rep,no] s) (fun s=>[rL s.met,rL s.out]) rfl hinv.toSPre ?_ ?_).1]
   ·simp (disch:=first|assumption|omega) only[S0,rA,rQ,rB,rT,rE]
   ·intro j u hj hbj hlt2 hu
    have hul:=hu.len ht hx
    have hyr:=hys _ (at_mem hj)
    obtain⟨hy2,hyi⟩:=hyr.inst ht hx
    obtain⟨k2,-⟩:=Far ht hx hu hyr
    refine⟨?_,k2⟩
    have y0:InB (atI ys (j:Int)) 0:=by unfold InB;omega
    have y1:InB (atI ys (j:Int)) 1:=by unfold InB;omega
    have hg:bK n=true:=aQ ht
    have yb:InB rows (atI (atI ys (j:Int)) 0):=bN ht hyi
    have yr:=bE hyi
    have ho2:∀ y∈u.out,y.length=2:=fun y hy=>((hu.och y hy).1.inst ht hx).1
    have e1:u.met.any (fun z=>decide (atI ys (j:Int)=z))=decide (0<=iQ u.met (atI ys (j:Int))):=(bJ _ _).symm
    have e2:u.out.any (fun z=>decide (atI ys (j:Int)=z))=decide (0<=iQ u.out (atI ys (j:Int))):=(bJ _ _).symm
    have a1:u.met.length+([atI ys (j:Int)]:List (List Int)).length<=100000000000:=by simp only[Sbw,Sbx];omega
    have b1:u.met.length<=1099511627776:=by omega
    have b2:u.out.length<=1099511627776:=by omega
    have b3:(atI ys (j:Int)).length<=1099511627776:=by omega
    have b4:u.out.length<=1000:=by omega
    have hcd:((cK ⟨n,rows⟩ (atI (atI ys (j:Int)) 0) (atI (atI ys (j:Int)) 1)).state==3)=pJ ⟨n,rows⟩ (atI ys (j:Int)):=rfl
    unfold Ra4
    rw[e1,e2]
    cases c1:decide (0<=iQ u.met (atI ys (j:Int)))
    ·cases c2:decide (0<=iQ u.out (atI ys (j:Int)))
     ·cases c3:pJ ⟨n,rows⟩ (atI ys (j:Int))
      ·simp (disch:=first|assumption|omega) only[S0,rA,rQ,rB,rT,rE,aI,dK,bD,bO,fJ,jE,hlt2,c1,c2,hcd,c3,Ubz,Sbv]
      ·simp (disch:=first|assumption|omega) only[S0,rA,rQ,rB,rT,rE,aI,dK,bD,bO,fJ,jE,hlt2,c1,c2,hcd,c3,Ubz,Sbv]
     ·simp (disch:=first|assumption|omega) only[S0,rA,rQ,rB,rT,rE,aI,bO,hlt2,c1,c2,Vbk]
    ·simp (disch:=first|assumption|omega) only[S0,rA,rQ,rB,rT,rE,aI,bO,hlt2,c1,Wbc]
   ·intro u hlt2 hu
    simp (disch:=first|assumption|omega) only[S0,rA,rQ,rB,rT,rE,hlt2]
  ·obtain rfl:i=s.met.length:=by have:=hinv.le;omega
   have hd:decide (((s.met.length:Nat):Int)<s.met.length)=false:=by simp
   exact .inr ⟨(.yield 1,[rL s.out]),by simp (disch:=first|assumption|omega) only[S0,rA,rQ,rB,rT,rE,hd],by simp,s,hinv,rfl⟩
 subst h3
 rw[h1,<- h2.done ht hx]
 simp (disch:=first|assumption|omega) only[S0,rA,rQ,rB,rT,rE]
theorem pR (l:List (List Int))(h2:∀ y∈l,y.length=2)(hl:l.length<=1000000):Fun T 96 [rL l]=some [rL ((lC id (l.map prL)).map toL)]:=by
 rw[sW (e:=Aav) rfl]
 exact Xa0 h2 hl
theorem fT (n:Int)(rows:List (List aY))(x:List Int)(ht:aV ⟨n,rows⟩=true)(hx:dM n x)(hc:pJ ⟨n,rows⟩ x=true)(hs:bX rows):Fun T 86 [i64 n,rL rows,rL x]=some [rL (gQ ⟨n,rows⟩ x)]:=by
 rw[aJ (t:=Yag) rfl];unfold Yag
 have h0:(aN.mk 1 0).run []=some [rL ([]:List (List Int))]:=rfl
 simp (disch:=first|assumption|omega) only[S0,rA,rQ,rB,rT,rE,dK,h0]
 generalize hE:Er T (Tm.loop _ _) _=E
 obtain⟨r,h1,s,h2,h3,h4⟩:∃ r,E=some r/\∃ s,BInv ⟨n,rows⟩ x s/\s.wait=[]/\r=(.yield 1,[rL s.out]):=by
  rw[<- hE]
  refine lF (γ:=BSt) (fun s=>31+s.wait.length-s.met.length) (fun s=>BInv ⟨n,rows⟩ x s/\s.wait.length<=s.met.length) (fun s=>[rL s.met,rL s.out,rL s.wait]) (fun r=>∃ s,BInv ⟨n,rows⟩ x s/\s.wait=[]/\r=(.yield 1,[rL s.out])) ⟨[x],[],[x]⟩ ?_ ⟨BInv.start hc,by simp⟩ ?_
  ·rfl
  rintro s ⟨hinv,hwl⟩
  have hlen:=hinv.toBPre.len ht hx
  by_cases hw:s.wait=[]
  ·have hd:decide ((0:Int)<(s.wait.length:Nat))=false:=by rw[hw];rfl
   exact .inr ⟨(.yield 1,[rL s.out]),by simp (disch:=first|assumption|omega) only[S0,rA,rQ,rB,rT,rE,hd],by simp,s,hinv,hw,rfl⟩
  ·have hpos:0<s.wait.length:=List.length_pos_iff.2 hw
   obtain⟨hst,hms⟩:=hinv.step hw
   have hlen2:=hst.toBPre.len ht hx
   refine .inl ⟨Gb0 ⟨n,rows⟩ s,?_,⟨hst,by omega⟩,by omega⟩
   have hd:decide ((0:Int)<(s.wait.length:Nat))=true:=decide_eq_true (by omega)
   have hb:InB s.wait 0:=by unfold InB;omega
   have hzw:atI s.wait 0∈s.wait:=bL hb
   obtain⟨hzm,hzc⟩:=hinv.wm _ hzw
   have hzr:=hinv.rch _ hzm
   obtain⟨hz2,hzi⟩:=hzr.inst ht hx
   have hzi':inst n (atI (atI s.wait 0) 0) (atI (atI s.wait 0) 1)=true:=hzi
   have z0:InB (atI s.wait 0) 0:=by unfold InB;omega
   have z1:InB (atI s.wait 0) 1:=by unfold InB;omega
   have hg:bK n=true:=aQ ht
   have zr:=bE hzi'
   have zb:InB rows (atI (atI s.wait 0) 0):=bN ht hzi
   have hys:∀ y∈sH ⟨n,rows⟩ (atI s.wait 0),Kai ⟨n,rows⟩ x y:=fun y hy=>.step hzr hzc hy
   have hyl:=Laz ht (hzr.inst ht hx)
   have hd6:=gT (jX ht hzi) hg
   have hdl:=dQ ht hzi
   have hn:=aT hg
   simp only at hdl hd6
   have hdl5:(cK ⟨n,rows⟩ (atI (atI s.wait 0) 0) (atI (atI s.wait 0) 1)).attr.deps.length<=5:=by omega
   simp (disch:=first|assumption|omega) only[S0,rA,rQ,rB,rT,rE,aI,bA,Bak,hd]
   unfold Gb0
   change _=some (Kind.cont,_)
   have eh:nW (cK ⟨n,rows⟩ (atI (atI s.wait 0) 0) (atI (atI s.wait 0) 1)).attr.deps (cK ⟨n,rows⟩ (atI (atI s.wait 0) 0) (atI (atI s.wait 0) 1)).attr.deps.length=sH ⟨n,rows⟩ (atI s.wait 0):=rfl
   rw[eh]
   have hfin:=Ba2 (ys:=sH ⟨n,rows⟩ (atI s.wait 0)) hinv.toBPre hys
   generalize sH ⟨n,rows⟩ (atI s.wait 0)=ys at hys hyl hfin ⊢
   simp (disch:=first|assumption|omega) only[S0,rA,rQ,rB,rT,rE]
   rw[(Eaf 3 ys (fun i (s:BSt)=>[rL s.met,rL s.out,rL s.wait,rL ys,i64 i]) s (Hab ⟨n,rows⟩) (fun _ u=>BPre ⟨n,rows⟩ x u/\u.wait.length<=u.met.length) (fun s=>[rL s.met,rL s.out,rL s.wait]) rfl ⟨hinv.toBPre,hwl⟩ ?_ ?_).1]
   ·obtain⟨f1,-,-,⟨w',f4⟩,-⟩:=hfin
    generalize ys.foldl (Hab ⟨n,rows⟩) s=u at f1 f4 ⊢
    have e1:(u.wait.take u.wait.length).drop 1=u.wait.drop 1:=by rw[Tbh]
    have hp:1<=u.wait.length:=by rw[f4,Sby];omega
    have hp2:(1:Int)<=(u.wait.length:Nat):=by omega
    simp (disch:=first|assumption|omega) only[S0,rA,rQ,rB,rT,rE,sN,e1,Tbk,Int.toNat_one]
   ·rintro j u hj hbj hlt2 ⟨hu,huw⟩
    have hul:=hu.len ht hx
    have hyr:=hys _ (at_mem hj)
    obtain⟨hy2,hyi⟩:=hyr.inst ht hx
    obtain⟨k2,-,-,-,-,k6⟩:=Haa hu hyr
    refine⟨?_,k2,by omega⟩
    have y0:InB (atI ys (j:Int)) 0:=by unfold InB;omega
    have y1:InB (atI ys (j:Int)) 1:=by unfold InB;omega
    have yb:InB rows (atI (atI ys (j:Int)) 0):=bN ht hyi
    have yr:=bE hyi
    have a1:u.met.length+([atI ys (j:Int)]:List (List Int)).length<=100000000000:=by simp only[Sbw,Sbx];omega
    have a2:u.out.length+([atI ys (j:Int)]:List (List Int)).length<=100000000000:=by simp only[Sbw,Sbx];omega
    have a3:u.wait.length+([atI ys (j:Int)]:List (List Int)).length<=100000000000:=by simp only[Sbw,Sbx];omega
    have b1:u.met.length<=1099511627776:=by omega
    have b3:(atI ys (j:Int)).length<=1099511627776:=by omega
    have hcd:((cK ⟨n,rows⟩ (atI (atI ys (j:Int)) 0) (atI (atI ys (j:Int)) 1)).state==3)=pJ ⟨n,rows⟩ (atI ys (j:Int)):=rfl
    unfold Hab
    cases c1:u.met.any (fun z=>decide (atI ys (j:Int)=z))
    ·cases c3:pJ ⟨n,rows⟩ (atI ys (j:Int))
     ·simp (disch:=first|assumption|omega) only[S0,rA,rQ,rB,rT,rE,aI,dK,bD,dE,bA,hlt2,c1,hcd,c3,Sbv]
     ·simp (disch:=first|assumption|omega) only[S0,rA,rQ,rB,rT,rE,aI,dK,bD,dE,bA,hlt2,c1,hcd,c3,Sbv]
    ·simp (disch:=first|assumption|omega) only[S0,rA,rQ,rB,rT,rE,aI,dE,hlt2,c1]
   ·intro u hlt2 hu
    simp (disch:=first|assumption|omega) only[S0,rA,rQ,rB,rT,rE,hlt2]
 subst h4
 have hol:=h2.toBPre.len ht hx
 have ho2:∀ y∈s.out,y.length=2:=fun y hy=>((h2.rch y ((h2.out y).1 hy).1).inst ht hx).1
 have hol2:s.out.length<=1000000:=by omega
 rw[h1,<- h2.done ht hx h3]
 simp (disch:=first|assumption|omega) only[S0,rA,rQ,rB,rT,rE,pR]
theorem dX (x:List Int)(n:Int)(rows:List (List aY))(ht:aV ⟨n,rows⟩=true)(hs:bX rows)(hx:dM n x)(hc:pJ ⟨n,rows⟩ x=true):Fun T 85 [rL x,i64 n,rL rows]=some [.bool (iM ⟨n,rows⟩ x)]:=by
 rw[aJ (t:=Yah) rfl];unfold Yah
 simp (disch:=first|assumption|omega) only[S0,rA,rQ,rB,rT,rE,fT]
 rfl
theorem xP (l:List (List Int))(n:Int)(rows:List (List aY))(ht:aV ⟨n,rows⟩=true)(hs:bX rows)(hl:l.length<=1000)(hx:∀ x∈l,dM n x/\pJ ⟨n,rows⟩ x=true):Fun T 84 [rL l,i64 n,rL rows]=some [i64 (ixF (iM ⟨n,rows⟩) l)]:=by
 rw[aJ (t:=Yai) rfl];unfold Yai
 simp (disch:=first|assumption|omega) only[S0,rA,rQ,rB,rT,rE]
 rw[mP 1 l (iM ⟨n,rows⟩) (fun i=>[i64 i])]
 ·cases h:l.any (iM ⟨n,rows⟩)
  ·have e:ixF (iM ⟨n,rows⟩) l=-1:=by
    have h2:=bJ (iM ⟨n,rows⟩) l
    rw[h]at h2
    unfold ixF at h2 ⊢
    split at h2<;>simp_all
   rw[e];simp (disch:=first|assumption|omega) only[S0,rA,rQ,rB,rT,rE]
  ·simp (disch:=first|assumption|omega) only[S0,rA,rQ,rB,rT,rE]
 ·intro i hi hb hlt hp
  obtain⟨q1,q2⟩:=hx _ (at_mem hi)
  simp (disch:=first|assumption|omega) only[S0,rA,rQ,rB,rT,rE,aI,dX,hlt,hp]
 ·intro i hi hb hlt hp
  obtain⟨q1,q2⟩:=hx _ (at_mem hi)
  simp (disch:=first|assumption|omega) only[S0,rA,rQ,rB,rT,rE,aI,dX,hlt,hp]
 ·intro hlt
  simp (disch:=first|assumption|omega) only[S0,rA,rQ,rB,rT,rE,hlt]
theorem vG (l:List (List Int))(n:Int)(rows:List (List aY))(ht:aV ⟨n,rows⟩=true)(hs:bX rows)(hl:l.length<=1000)(hx:∀ x∈l,dM n x/\pJ ⟨n,rows⟩ x=true):Fun T 83 [rL l,i64 n,rL rows]=some [rL (l.filter fun x=>!iM ⟨n,rows⟩ x)]:=by
 rw[aJ (t:=Yaj) rfl];unfold Yaj
 simp (disch:=first|assumption|omega) only[S0,rA,rQ,rB,rT,rE,xP]
 by_cases h:0<=ixF (iM ⟨n,rows⟩) l
 rotate_left
 ·have e:ixF (iM ⟨n,rows⟩) l=-1:=by
   unfold ixF at h ⊢
   split
   ·rename_i i hi;rw[hi]at h;simp at h
   ·rfl
  have e2:l.filter (fun x=>!iM ⟨n,rows⟩ x)=l:=by
   rw[Vb0]
   intro x hxm
   cases hb:iM ⟨n,rows⟩ x with
   |false=>rfl
   | true =>
    obtain⟨k,hk,rfl⟩:=List.mem_iff_getElem.1 hxm
    exact absurd (Uak hk (by rw[bC hk];exact hb)) h
  rw[e,e2]
  simp (disch:=first|assumption|omega) only[S0,rA,rQ,rB,rT,rE]
 ·obtain⟨h1,h2,h3⟩:=Caq h
  generalize hI:ixF (iM ⟨n,rows⟩) l=I at h h1 h2 h3 ⊢
  obtain⟨i,rfl⟩:∃ i:Nat,I=(i:Int):=⟨I.toNat,by omega⟩
  have hil:i<l.length:=aG.1 h1
  have hne:((i:Int)==-1)=false:=by simp
  have hkeep:(l.take (i+1)).filter (fun x=>!iM ⟨n,rows⟩ x)=l.take i:=by
   rw[<- take_at hil,Tbu,Tb0 (by rw[h2];simp),Tbz,Tbb,Vb0]
   intro x hxm
   obtain⟨k,hk,rfl⟩:=List.mem_iff_getElem.1 hxm
   rw[Tbc]at hk
   have h4:=h3 k (by omega)
   rw[bC (by omega)]at h4
   rw[Vby,h4]
   rfl
  simp (disch:=first|assumption|omega) only[S0,rA,rQ,rB,rT,rE,hne]
  generalize hE:Er T (Tm.loop _ _) _=E
  obtain⟨r,e1,kept,J,e2,e3,e4⟩:∃ r,E=some r/\∃ (kept:List (List Int)) (J:List (List D)),kept=l.filter (fun x=>!iM ⟨n,rows⟩ x)/\kept.length+J.length=l.length/\r=(.yield 1,[iY kept J [],i64 ((kept.length:Nat):Int)]):=by
   rw[<- hE]
   refine lF (γ:=Nat×List (List D)) (fun c=>l.length-c.1) (fun c=>i<c.1/\c.1<=l.length/\((l.take c.1).filter fun x=>!iM ⟨n,rows⟩ x).length+c.2.length=c.1/\0<c.2.length/\∀ r∈c.2,r.length=1)
    (fun c=>[iY ((l.take c.1).filter fun x=>!iM ⟨n,rows⟩ x) c.2 (l.drop c.1),i64 ((((l.take c.1).filter fun x=>!iM ⟨n,rows⟩ x).length:Nat):Int),i64 (c.1:Int)])
    (fun r=>∃ (kept:List (List Int)) (J:List (List D)),kept=l.filter (fun x=>!iM ⟨n,rows⟩ x)/\kept.length+J.length=l.length/\r=(.yield 1,[iY kept J [],i64 ((kept.length:Nat):Int)])) (i+1,[Enc.enc (atI l (i:Int))]) ?_ ?_ ?_
   ·dsimp only
    have e:rL l=iY (l.take i) [Enc.enc (atI l (i:Int))] (l.drop (i+1)):=by
     rw[Iai l (i:=i) (by omega),Tb6 hil,yA,bC hil]
     rfl
    rw[hkeep,<- e]
    have hti:((l.take i).length:Int)=(i:Int):=by rw[Tbc];omega
    rw[hti]
    rfl
   ·dsimp only
    rw[hkeep,Tbc]
    refine⟨by omega,by omega,by simp only[Sbw,Sbx];omega,by simp,?_⟩
    intro r hr
    rw[Sb9]at hr
    rw[hr]
    rfl
   ·rintro⟨j,J⟩ ⟨k1,k2,k3,k4,k5⟩
    dsimp only at k1 k2 k3 k4 k5 ⊢
    rcases Tbi j l.length with hlt|hge
    ·refine .inl ?_
     have hjm:=hx _ (at_mem hlt)
     have hjm1:=hjm.1
     have hjm2:=hjm.2
     have ht1:(l.take (j+1))=l.take j++[atI l (j:Int)]:=(take_at hlt).symm
     have hd1:l.drop j=atI l (j:Int)::l.drop (j+1):=by rw[Tb6 hlt,bC hlt]
     have hkl:(l.take j).filter (fun x=>!iM ⟨n,rows⟩ x)=(l.take j).filter (fun x=>!iM ⟨n,rows⟩ x):=rfl
     generalize hK:(l.take j).filter (fun x=>!iM ⟨n,rows⟩ x)=K at k3 hkl ⊢
     have hdl:(l.drop (j+1)).length+(j+1)=l.length:=by rw[Tbx];omega
     have q1:aN.len.run [iY K J (l.drop j)]=some [i64 (l.length:Int)]:=tY (by rw[hd1,Sbw];omega)
     have q2:aN.inb.run [iY K J (l.drop j),i64 (j:Int)]=some []:=tZ (by omega) (by rw[hd1];simp only[Sbw];omega)
     have q3:(aN.row 1 0 [false]).run [iY K J (l.drop j),i64 (j:Int)]=some [rL (atI l (j:Int))]:=by rw[hd1];exact Ca0 (by omega)
     have q4:aN.inb.run [iY K J (l.drop j),i64 (K.length:Int)]=some []:=tZ (by omega) (by rw[hd1];simp only[Sbw];omega)
     have q5:(aN.set 1 0 1).run [iY K J (l.drop j),i64 (j:Int),.hole]=some [iY K (J++[[.hole]]) (l.drop (j+1))]:=by rw[hd1];exact yB (by omega)
     have hdlt:decide ((j:Int)<(l.length:Nat))=true:=decide_eq_true (by omega)
     obtain⟨r0,J0,rfl⟩:∃ r0 J0,J=r0::J0:=by
      match J,k4 with
      |r0::J0,_=>exact⟨r0,J0,rfl⟩
     have q6:(aN.set 1 0 1).run [iY K (r0::J0++[[.hole]]) (l.drop (j+1)),i64 (K.length:Int),rL (atI l (j:Int))]=some [iY (K++[atI l (j:Int)]) (J0++[[.hole]]) (l.drop (j+1))]:=Rab rfl (k5 r0 List.mem_cons_self)
     have q7:iY K (r0::J0) (l.drop j)=iY K (r0::J0++[Enc.enc (atI l (j:Int))]) (l.drop (j+1)):=by rw[hd1,yA]
     have k3':K.length+(J0.length+1)=j:=k3
     have hkj:(K.length:Int)<=1000:=by omega
     cases hb:iM ⟨n,rows⟩ (atI l (j:Int))
     ·refine⟨(j+1,J0++[[.hole]]),?_,?_,by dsimp only;omega⟩
      ·dsimp only
       rw[ht1,Tbu,hK,Ubc (by rw[hb];rfl),Tbz]
       have hlen:(((K++[atI l (j:Int)]).length:Nat):Int)=(K.length:Int)+1:=by simp
       rw[hlen]
       simp (disch:=first|assumption|omega) only[S0,rA,rQ,rB,rT,rE,q1,q2,q3,q4,q5,q6,hdlt,dX,hb]
      ·dsimp only
       rw[ht1,Tbu,hK,Ubc (by rw[hb];rfl),Tbz]
       refine⟨by omega,by omega,?_,?_,?_⟩
       ·simp only[Sby,Sbw,Sbx];omega
       ·simp only[Sby,Sbw,Sbx];omega
       ·intro r hr
        rcases List.mem_append.1 hr with hr|hr
        ·exact k5 r (List.mem_cons_of_mem _ hr)
        ·rw[Sb9]at hr
         rw[hr]
         rfl
     ·refine⟨(j+1,r0::J0++[Enc.enc (atI l (j:Int))]),?_,?_,by dsimp only;omega⟩
      ·dsimp only
       rw[ht1,Tbu,hK,Tb0 (by rw[hb];simp),Tbz,Tbb,<- q7]
       simp (disch:=first|assumption|omega) only[S0,rA,rQ,rB,rT,rE,q1,q2,q3,hdlt,dX,hb]
      ·dsimp only
       rw[ht1,Tbu,hK,Tb0 (by rw[hb];simp),Tbz,Tbb]
       refine⟨by omega,by omega,?_,?_,?_⟩
       ·simp only[Sby,Sbw,Sbx];omega
       ·simp only[Sby,Sbw,Sbx];omega
       ·intro r hr
        rcases List.mem_append.1 hr with hr|hr
        ·exact k5 r hr
        ·rw[Sb9]at hr
         rw[hr]
         rfl
    ·obtain rfl:j=l.length:=by omega
     rw[Tbh]at k3
     refine .inr ⟨(.yield 1,[iY (l.filter fun x=>!iM ⟨n,rows⟩ x) J [],i64 (((l.filter fun x=>!iM ⟨n,rows⟩ x).length:Nat):Int)]),?_,by simp,_,J,rfl,k3,rfl⟩
     rw[Tbh,List.drop_length]
     have q1:aN.len.run [iY (l.filter fun x=>!iM ⟨n,rows⟩ x) J []]=some [i64 (l.length:Int)]:=tY (by simp only[Sbx];omega)
     have hdlt:decide (((l.length:Nat):Int)<(l.length:Nat))=false:=by simp
     simp (disch:=first|assumption|omega) only[S0,rA,rQ,rB,rT,rE,q1,hdlt]
  subst e4
  rw[e1]
  have q1:aN.len.run [iY kept J []]=some [i64 (l.length:Int)]:=tY (by simp only[Sbx];omega)
  obtain⟨d,q2⟩:=Raa (kept:=kept) (J:=J) (n:=(l.length:Int)) (k:=(kept.length:Int)) rfl (by omega)
  have q3:=Rad (kept:=kept) (J:=J) (k:=(kept.length:Int)) rfl
  have q4:=Rac (kept:=kept) (J:=J.map fun r=>r.map fun _=>D.hole) (k:=(kept.length:Int)) rfl
  simp (disch:=first|assumption|omega) only[S0,rA,rQ,rB,rT,rE,q1,q2,q3,q4]
  rw[e2]
theorem jC (n:Int)(rows:List (List aY))(ht:aV ⟨n,rows⟩=true)(hs:bX rows):Fun T 79 [i64 n,rL rows]=some [rL (aF ⟨n,rows⟩)]:=by
 rw[aJ (t:=Gb1) rfl];unfold Gb1;unfold aF
 have hn:=aT (aQ ht)
 simp only at hn
 have hl:(rows.length:Int)=n:=bU ht
 have h6:∀ l∈rows,l.length<=6:=fun l hl=>(bY ht hl).1
 have hl2:rows.length<=100:=by omega
 have hcl:=nJ ht
 simp only at hcl
 have hcl2:(aU rows).length<=1000:=by omega
 have hci:∀ x∈aU rows,dM n x/\pJ ⟨n,rows⟩ x=true:=fun x hx=>nZ ht hx
 simp (disch:=first|assumption|omega) only[S0,rA,rQ,rB,rT,rE,bT,vG]
theorem oV (n:Int)(rows:List (List aY))(ht:aV ⟨n,rows⟩=true)(hs:bX rows):Fun T 29 [i64 n,rL rows]=some [rL (aF ⟨n,rows⟩)]:=by
 rw[aJ (t:=Zaq) rfl];unfold Zaq;unfold aF
 have hn:=aT (aQ ht)
 simp only at hn
 have hl:(rows.length:Int)=n:=bU ht
 have h6:∀ l∈rows,l.length<=6:=fun l hl=>(bY ht hl).1
 have hl2:rows.length<=100:=by omega
 have hcl:=nJ ht
 simp only at hcl
 simp (disch:=first|assumption|omega) only[S0,rA,rQ,rB,rT,rE,eF]
 rw[bH (aU rows).length (fun k=>[rL (((aU rows).take k).filter fun x=>!iM ⟨n,rows⟩ x),rL (aU rows),i64 k]) (.yield 1,[rL ((aU rows).filter fun x=>!iM ⟨n,rows⟩ x)]) rfl (by simp)]
 ·simp (disch:=first|assumption|omega) only[S0,rA,rQ,rB,rT,rE]
 ·intro k hk hlt
  have hb:InB (aU rows) (k:Int):=aG.2 hk
  obtain⟨x0,x1,hx2,xi,-⟩:=eQ ht (at_mem hk)
  simp only at xi
  have xc:=(nZ ht (at_mem hk)).2
  have hfl:(((aU rows).take k).filter fun x=>!iM ⟨n,rows⟩ x).length<=30:=by
   have:=Ubb (fun x=>!iM ⟨n,rows⟩ x) ((aU rows).take k)
   rw[Tbc]at this
   omega
  have e:[atI (atI (aU rows) (k:Int)) 0,atI (atI (aU rows) (k:Int)) 1]=atI (aU rows) (k:Int):=qU hx2
  have xc2:pJ ⟨n,rows⟩ [atI (atI (aU rows) (k:Int)) 0,atI (atI (aU rows) (k:Int)) 1]=true:=by rw[e];exact xc
  have a1:(((aU rows).take k).filter fun x=>!iM ⟨n,rows⟩ x).length+([atI (aU rows) (k:Int)]:List (List Int)).length<=100000000000:=by simp only[Sbw,Sbx];omega
  rw[<- take_at hk,Tbu]
  have eb:iM ⟨n,rows⟩ (atI (aU rows) (k:Int))=!(((gQ ⟨n,rows⟩ (atI (aU rows) (k:Int))).length:Int)==0):=by
   unfold iM
   generalize (gQ ⟨n,rows⟩ (atI (aU rows) (k:Int))).length=L
   cases L with
   |zero=>rfl
   | succ L =>
    have e1:decide ((0:Int)<((L+1:Nat):Int))=true:=decide_eq_true (by omega)
    have e2:(((L+1:Nat):Int)==0)=false:=beq_false_of_ne (by omega)
    rw[e1,e2]
    rfl
  cases hc:(((gQ ⟨n,rows⟩ (atI (aU rows) (k:Int))).length:Int)==0)
  ·rw[Tb0 (by rw[eb,hc];simp),Tbz,Tbb]
   simp (disch:=first|assumption|omega) only[S0,rA,rQ,rB,rT,rE,aI,eU,hlt,e,hc,Sbv]
  ·rw[Ubc (by rw[eb,hc];simp),Tbz]
   simp (disch:=first|assumption|omega) only[S0,rA,rQ,rB,rT,rE,aI,dK,bD,eU,hlt,e,hc]
 ·intro hlt
  rw[Tbh]
  simp (disch:=first|assumption|omega) only[S0,rA,rQ,rB,rT,rE,hlt]
theorem nP (G:List (List Int))(a:Int)(hg:GOk G)(ha:InB G a)(hl:G.length<=1000)(hr:∀ r∈G,r.length<=1000):Fun T 46 [rL G,i64 a]=some [rL (fK G a)]:=by
 rw[aJ (t:=Ya9) rfl];unfold Ya9
 simp (disch:=first|assumption|omega) only[S0,rA,rQ,rB,rT,rE,dK]
 generalize hE:Er T (Tm.loop _ _) _=E
 obtain⟨r,h1,s,h2,h3⟩:∃ r,E=some r/\∃ s,Rax G a s.que.length s/\r=(.yield 1,[rL s.met]):=by
  rw[<- hE]
  refine lF (γ:=Nat×HSt) (fun c=>G.length+1-c.1) (fun c=>Rax G a c.1 c.2) (fun c=>[rL c.2.met,rL c.2.que,i64 (c.1:Int)]) (fun r=>∃ s,Rax G a s.que.length s/\r=(.yield 1,[rL s.met])) (0,⟨[a],[a]⟩) ?_ (Rax.start ha) ?_
  ·rfl
  rintro⟨i,s⟩ hinv
  dsimp only at hinv ⊢
  have hlen:=hinv.toHPre.len hg
  rcases Tbi i s.que.length with hlt|hge
  ·refine .inl ⟨(i+1,(atI G (atI s.que (i:Int))).foldl hI s),?_,hinv.step hlt,by dsimp only;omega⟩
   dsimp only
   have hb:InB s.que (i:Int):=aG.2 hlt
   have hd:decide ((i:Int)<s.que.length)=true:=by simp;omega
   have hzr:=hinv.rch _ (at_mem hlt)
   have hzb:=hzr.inb hg ha
   have hys:∀ c∈atI G (atI s.que (i:Int)),Rch G a c:=fun c hc=>.step hzr hc
   have hyl:=hr _ (bL hzb)
   simp (disch:=first|assumption|omega) only[S0,rA,rQ,rB,rT,rE,aI,hd]
   generalize atI G (atI s.que (i:Int))=ys at hys hyl ⊢
   rw[(Eaf 3 ys (fun i (s:HSt)=>[rL s.met,rL s.que,i64 i]) s hI (fun _ u=>HPre G a u) (fun s=>[rL s.met,rL s.que]) rfl hinv.toHPre ?_ ?_).1]
   ·simp (disch:=first|assumption|omega) only[S0,rA,rQ,rB,rT,rE]
   ·intro j u hj hbj hlt2 hu
    have hul:=hu.len hg
    have hyr:=hys _ (at_mem hj)
    refine⟨?_,(Qax hu hyr).1⟩
    have a1:u.que.length+([atI ys (j:Int)]:List Int).length<=100000000000:=by simp only[Sbw,Sbx];omega
    have b1:u.que.length<=1099511627776:=by omega
    have b2:u.met.length<=10000000000:=by omega
    unfold hI
    cases c1:fE u.que (atI ys (j:Int))
    ·simp (disch:=first|assumption|omega) only[S0,rA,rQ,rB,rT,rE,aI,dK,bD,dN,nC,hlt2,c1,Sbv]
    ·simp (disch:=first|assumption|omega) only[S0,rA,rQ,rB,rT,rE,aI,dN,hlt2,c1]
   ·intro u hlt2 hu
    simp (disch:=first|assumption|omega) only[S0,rA,rQ,rB,rT,rE,hlt2]
  ·obtain rfl:i=s.que.length:=by have:=hinv.le;omega
   have hd:decide (((s.que.length:Nat):Int)<s.que.length)=false:=by simp
   exact .inr ⟨(.yield 1,[rL s.met]),by simp (disch:=first|assumption|omega) only[S0,rA,rQ,rB,rT,rE,hd],by simp,s,hinv,rfl⟩
 subst h3
 rw[h1,<- h2.done hg]
 simp (disch:=first|assumption|omega) only[S0,rA,rQ,rB,rT,rE]
theorem sD (G:List (List Int))(a:Int)(hg:GOk G)(ha:InB G a)(hl:G.length<=1000)(hr:∀ r∈G,r.length<=1000):Fun T 101 [rL G,i64 a]=some [rL (fK G a)]:=by
 rw[aJ (t:=Fai) rfl];unfold Fai
 have hrep:InB (Sb1 G.length false) a:=by unfold InB at ha ⊢;rw[Tbq];exact ha
 have e0:((G.length:Nat):Int).toNat=G.length:=Tbk _
 have h0:(aN.mk 1 0).run []=some [rL ([]:List Int)]:=rfl
 simp (disch:=first|assumption|omega) only[S0,rA,rQ,rB,rT,rE,dK,kI,e0]
 generalize hE:Er T (Tm.loop _ _) _=E
 obtain⟨r,h1,s,h2,h4,h3⟩:∃ r,E=some r/\∃ s,GInv G a s/\s.todo=[]/\r=(.yield 1,[rL s.marks]):=by
  rw[<- hE]
  refine lF (γ:=GSt) (fun s=>s.left) (fun s=>GInv G a s) (fun s=>[rL s.marks,rL s.todo]) (fun r=>∃ s,GInv G a s/\s.todo=[]/\r=(.yield 1,[rL s.marks])) ⟨dB (Sb1 G.length false) a true,[a]⟩ ?_ (GInv.start ha) ?_
  ·rfl
  rintro s hinv
  have hcnt:=hinv.cnt
  unfold GSt.left at hcnt
  by_cases hw:s.todo=[]
  ·have hd:decide ((0:Int)<(s.todo.length:Nat))=false:=by rw[hw];rfl
   exact .inr ⟨(.yield 1,[rL s.marks]),by simp (disch:=first|assumption|omega) only[S0,rA,rQ,rB,rT,rE,hd],by simp,s,hinv,hw,rfl⟩
  ·have hpos:0<s.todo.length:=List.length_pos_iff.2 hw
   obtain⟨hst,hms,hpre⟩:=hinv.step hg hw
   refine .inl ⟨gO G s,?_,hst,by omega⟩
   have hd:decide ((0:Int)<(s.todo.length:Nat))=true:=decide_eq_true (by omega)
   have hb:InB s.todo 0:=by unfold InB;omega
   obtain⟨z1,z2⟩:=hinv.tm _ (bL hb)
   have zr:=hinv.rch _ z1 z2
   have hys:∀ c∈atI G (atI s.todo 0),InB G c/\Rch G a c:=fun c hc=>⟨hg.out z1 hc,.step zr hc⟩
   have hyl:=hr _ (bL z1)
   have hfin:=(La6 hinv.toGPre hys).2.2.2.1
   simp (disch:=first|assumption|omega) only[S0,rA,rQ,rB,rT,rE,aI,hd]
   unfold gO
   generalize atI G (atI s.todo 0)=ys at hys hyl hpre hfin ⊢
   rw[(Eaf 3 ys (fun i (s:GSt)=>[rL s.marks,rL s.todo,i64 i]) s gI (fun _ u=>GPre G a u) (fun s=>[rL s.marks,rL s.todo]) rfl hinv.toGPre ?_ ?_).1]
   ·generalize ys.foldl gI s=u at hpre hfin ⊢
    have hcu:=hpre.cnt
    unfold GSt.left at hcu
    obtain⟨w,hw2⟩:=hfin
    have e1:(u.todo.take u.todo.length).drop 1=u.todo.drop 1:=by rw[Tbh]
    have hp:1<=u.todo.length:=by rw[hw2,Sby];omega
    have hp2:(1:Int)<=(u.todo.length:Nat):=by omega
    simp (disch:=first|assumption|omega) only[S0,rA,rQ,rB,rT,rE,sN,e1,Tbk,Int.toNat_one]
   ·intro j u hj hbj hlt2 hu
    have hcu:=hu.cnt
    unfold GSt.left at hcu
    have hyr:=hys _ (at_mem hj)
    have yb:InB u.marks (atI ys (j:Int)):=by have:=hyr.1;unfold InB at this ⊢;rw[hu.len];exact this
    refine⟨?_,(Qa1 hu hyr.1 hyr.2).1⟩
    have a1:u.todo.length+([atI ys (j:Int)]:List Int).length<=100000000000:=by simp only[Sbw,Sbx];omega
    unfold gI
    cases c1:atI u.marks (atI ys (j:Int))
    ·simp (disch:=first|assumption|omega) only[S0,rA,rQ,rB,rT,rE,aI,kI,dK,bD,hlt2,c1,Sbv]
    ·simp (disch:=first|assumption|omega) only[S0,rA,rQ,rB,rT,rE,aI,kI,hlt2,c1]
   ·intro u hlt2 hu
    simp (disch:=first|assumption|omega) only[S0,rA,rQ,rB,rT,rE,hlt2]
 subst h3
 rw[h1]
 have hml:=h2.len
 have hm3:s.marks.length<=1099511627776:=by omega
 simp (disch:=first|assumption|omega) only[S0,rA,rQ,rB,rT,rE,kI,h0]
 rw[bH s.marks.length (fun k=>[rL ((nums k).filter (tO G a)),i64 k]) (.yield 5,[rL (fK G a)]) rfl (by simp)]
 ·simp (disch:=first|assumption|omega) only[S0,rA,rQ,rB,rT,rE]
 ·intro k hk hlt
  have hb:InB s.marks (k:Int):=aG.2 hk
  have hkb:InB G (k:Int):=aG.2 (by omega)
  have hm:=h2.done hg h4 hkb
  have hfl:((nums k).filter (tO G a)).length<=k:=by
   have:=Ubb (tO G a) (nums k)
   rw[dA]at this
   exact this
  have a1:((nums k).filter (tO G a)).length+([(k:Int)]:List Int).length<=100000000000:=by simp only[Sbw,Sbx];omega
  rw[mI,Tbu]
  cases c1:tO G a (k:Int)
  ·rw[Tb0 (by rw[c1];simp),Tbz,Tbb]
   simp (disch:=first|assumption|omega) only[S0,rA,rQ,rB,rT,rE,kI,hlt,hm,c1,Sbv]
  ·rw[Ubc c1,Tbz]
   simp (disch:=first|assumption|omega) only[S0,rA,rQ,rB,rT,rE,kI,dK,bD,hlt,hm,c1]
 ·intro hlt
  unfold fK
  rw[hml]at hlt ⊢
  simp (disch:=first|assumption|omega) only[S0,rA,rQ,rB,rT,rE,hlt]
theorem pO (G:List (List Int))(hg:GOk G)(hl:G.length<=1000)(hr:∀ r∈G,r.length<=1000):Fun T 45 [rL G]=some [rL (iU G)]:=by
 rw[aJ (t:=Zaa) rfl];unfold Zaa
 simp (disch:=first|assumption|omega) only[S0,rA,rQ,rB,rT,rE,Aam]
 rw[bH G.length (fun k=>[rL ((nums k).map (fK G)),i64 k]) (.yield 1,[rL (rsM G)]) rfl (by simp)]
 ·simp (disch:=first|assumption|omega) only[S0,rA,rQ,rB,rT,rE]
  rw[bH G.length (fun k=>[rL (Vak G k),i64 k]) (.yield 3,[rL (iU G)]) rfl (by simp)]
  ·simp (disch:=first|assumption|omega) only[S0,rA,rQ,rB,rT,rE]
  ·intro k hk hlt
   have hb:InB G (k:Int):=aG.2 hk
   have hb2:=oI hb
   have hat:=uO hb
   have hrl:=jV G (k:Int)
   have hcl:=Ca2 G k
   simp (disch:=first|assumption|omega) only[S0,rA,rQ,rB,rT,rE,aI,hlt,hat]
   rw[bH (fK G (k:Int)).length (fun m=>[rL (((fK G (k:Int)).take m).filter fun j=>tO G j (k:Int)),i64 m]) (.yield 5,[rL (uF G (k:Int))]) rfl (by simp)]
   ·have hs:=qF hg hb
    have hgp:=Ubu hs
    have hgb:InB (uF G (k:Int)) 0:=by unfold InB;omega
    have a1:(Vak G k).length+([uF G (k:Int)]:List (List Int)).length<=100000000000:=by simp only[Sbw,Sbx];omega
    rw[yF]
    cases c1:(atI (uF G (k:Int)) 0==(k:Int))
    ·simp (disch:=first|assumption|omega) only[S0,rA,rQ,rB,rT,rE,aI,c1,Sbv,Tbb]
    ·simp (disch:=first|assumption|omega) only[S0,rA,rQ,rB,rT,rE,aI,dK,bD,c1]
   ·intro m hm hlt2
    have hbm:InB (fK G (k:Int)) (m:Int):=aG.2 hm
    have hj:=yX (at_mem hm)
    have hjb:=oI hj
    have hjat:=uO hj
    have hjl:=jV G (atI (fK G (k:Int)) (m:Int))
    have hhas:=zG hg (j:=(k:Int)) hj
    have hfl:(((fK G (k:Int)).take m).filter fun j=>tO G j (k:Int)).length<=m:=by
     have:=Ubb (fun j=>tO G j (k:Int)) ((fK G (k:Int)).take m)
     rw[Tbc]at this
     omega
    have a1:(((fK G (k:Int)).take m).filter fun j=>tO G j (k:Int)).length+([atI (fK G (k:Int)) (m:Int)]:List Int).length<=100000000000:=by simp only[Sbw,Sbx];omega
    have b1:(fK G (atI (fK G (k:Int)) (m:Int))).length<=1099511627776:=by omega
    rw[Qa6 hm]
    cases c1:tO G (atI (fK G (k:Int)) (m:Int)) (k:Int)
    ·simp (disch:=first|assumption|omega) only[S0,rA,rQ,rB,rT,rE,aI,dN,hlt2,hjat,hhas,c1,Sbv,Tbb]
    ·simp (disch:=first|assumption|omega) only[S0,rA,rQ,rB,rT,rE,aI,dK,bD,dN,hlt2,hjat,hhas,c1]
   ·intro hlt2
    rw[Tbh]
    simp (disch:=first|assumption|omega) only[S0,rA,rQ,rB,rT,rE,hlt2]
    rfl
  ·intro hlt
   simp (disch:=first|assumption|omega) only[S0,rA,rQ,rB,rT,rE,hlt]
   rfl
 ·intro k hk hlt
  have hb:InB G (k:Int):=aG.2 hk
  have hl2:((nums k).map (fK G)).length+([fK G (k:Int)]:List (List Int)).length<=100000000000:=by simp only[Sb5,dA,Sbw,Sbx];omega
  have e:(nums (k+1)).map (fK G)=(nums k).map (fK G)++[fK G (k:Int)]:=by rw[mI,Tby];rfl
  rw[e]
  simp (disch:=first|assumption|omega) only[S0,rA,rQ,rB,rT,rE,dK,bD,nP,hlt]
 ·intro hlt
  simp (disch:=first|assumption|omega) only[S0,rA,rQ,rB,rT,rE,hlt]
  rfl
theorem dL (G:List (List Int))(out:List (List Int))(C:List Int)(x:Int)(hx:InB G x)(hC:C.length<=1000):Fun T 108 [i64 x,rL (jO G.length out),rL C]=some [.bool (!gB out x&&!fE C x)]:=by
 rw[aJ (t:=Fab) rfl];unfold Fab
 have hb:InB (jO G.length out) x:=by unfold InB at hx ⊢;rw[xX];exact hx
 have hat:atI (jO G.length out) x=gB out x:=Qac hx
 cases c1:gB out x<;>cases c2:fE C x<;>simp (disch:=first|assumption|omega) only[S0,rA,rQ,rB,rT,rE,kI,slices_Contains_int,hat,c1,c2]
theorem kF (G:List (List Int))(out:List (List Int))(C xs:List Int)(hxs:xs.length<=1000)(hx:∀ x∈xs,InB G x)(hC:C.length<=1000):Fun T 107 [rL xs,rL (jO G.length out),rL C]=some [i64 (ixF (fun x=>!gB out x&&!fE C x) xs)]:=by
 rw[aJ (t:=Fac) rfl];unfold Fac
 simp (disch:=first|assumption|omega) only[S0,rA,rQ,rB,rT,rE]
 rw[mP 1 xs (fun x=>!gB out x&&!fE C x) (fun i=>[i64 i])]
 ·cases h:xs.any (fun x=>!gB out x&&!fE C x)
  ·have e:ixF (fun x=>!gB out x&&!fE C x) xs=-1:=by
    have h2:=bJ (fun x=>!gB out x&&!fE C x) xs
    rw[h]at h2
    unfold ixF at h2 ⊢
    split at h2<;>simp_all
   rw[e];simp (disch:=first|assumption|omega) only[S0,rA,rQ,rB,rT,rE]
  ·simp (disch:=first|assumption|omega) only[S0,rA,rQ,rB,rT,rE]
 ·intro i hi hb hlt hp
  have q1:=hx _ (at_mem hi)
  simp (disch:=first|assumption|omega) only[S0,rA,rQ,rB,rT,rE,aI,dL,hlt,hp]
 ·intro i hi hb hlt hp
  have q1:=hx _ (at_mem hi)
  simp (disch:=first|assumption|omega) only[S0,rA,rQ,rB,rT,rE,aI,dL,hlt,hp]
 ·intro hlt
  simp (disch:=first|assumption|omega) only[S0,rA,rQ,rB,rT,rE,hlt]
theorem kH (G:List (List Int))(out:List (List Int))(C xs:List Int)(hxs:xs.length<=1000)(hx:∀ x∈xs,InB G x)(hC:C.length<=1000):Fun T 106 [rL xs,rL (jO G.length out),rL C]=some [.bool (xs.any fun x=>!gB out x&&!fE C x)]:=by
 rw[aJ (t:=Fad) rfl];unfold Fad
 simp (disch:=first|assumption|omega) only[S0,rA,rQ,rB,rT,rE,kF,bJ]
theorem eP (G:List (List Int))(out:List (List Int))(C:List Int)(hl:G.length<=1000)(hC:C.length<=1000)(hC0:InB C 0)(hG:InB G (atI C 0)):Fun T 105 [rL C,rL (rsM G),rL (jO G.length out)]=some [.bool (lK G out C)]:=by
 rw[aJ (t:=Fae) rfl];unfold Fae;unfold lK
 have hb2:=oI hG
 have hat:=uO hG
 have hrl:=jV G (atI C 0)
 have hin:∀ x∈fK G (atI C 0),InB G x:=fun x hx=>yX hx
 have e:((fK G (atI C 0)).all fun j=>gB out j||fE C j)=!((fK G (atI C 0)).any fun x=>!gB out x&&!fE C x):=by
  rw[List.not_any_eq_all_not]
  congr 1
  funext x
  cases gB out x<;>cases fE C x<;>rfl
 rw[e]
 simp (disch:=first|assumption|omega) only[S0,rA,rQ,rB,rT,rE,aI,kH,hat]
theorem mK (G:List (List Int))(out xs:List (List Int))(hl:G.length<=1000)(hxs:xs.length<=1000)(hx:∀ C∈xs,C.length<=1000/\InB C 0/\InB G (atI C 0)):Fun T 104 [rL xs,rL (rsM G),rL (jO G.length out)]=some [i64 (ixF (lK G out) xs)]:=by
 rw[aJ (t:=Faf) rfl];unfold Faf
 simp (disch:=first|assumption|omega) only[S0,rA,rQ,rB,rT,rE]
 rw[mP 1 xs (lK G out) (fun i=>[i64 i])]
 ·cases h:xs.any (lK G out)
  ·have e:ixF (lK G out) xs=-1:=by
    have h2:=bJ (lK G out) xs
    rw[h]at h2
    unfold ixF at h2 ⊢
    split at h2<;>simp_all
   rw[e];simp (disch:=first|assumption|omega) only[S0,rA,rQ,rB,rT,rE]
  ·simp (disch:=first|assumption|omega) only[S0,rA,rQ,rB,rT,rE]
 ·intro i hi hb hlt hp
  obtain⟨q1,q2,q3⟩:=hx _ (at_mem hi)
  simp (disch:=first|assumption|omega) only[S0,rA,rQ,rB,rT,rE,aI,eP,hlt,hp]
 ·intro i hi hb hlt hp
  obtain⟨q1,q2,q3⟩:=hx _ (at_mem hi)
  simp (disch:=first|assumption|omega) only[S0,rA,rQ,rB,rT,rE,aI,eP,hlt,hp]
 ·intro hlt
  simp (disch:=first|assumption|omega) only[S0,rA,rQ,rB,rT,rE,hlt]
theorem jY (G:List (List Int))(hg:GOk G)(hl:G.length<=1000)(hr:∀ r∈G,r.length<=1000):Fun T 44 [rL G]=some [rL (aS G)]:=by
 rw[aJ (t:=Zab) rfl];unfold Zab
 have h0:(D.rows 1 [])=rL ([]:List (List Int)):=rfl
 simp (disch:=first|assumption|omega) only[S0,rA,rQ,rB,rT,rE,pO]
 generalize hE:Er T (Tm.loop _ _) _=E
 obtain⟨r,h1,h3⟩:∃ r,E=some r/\r=(.yield 1,[rL (aS G)]):=by
  rw[<- hE]
  refine lF (γ:=CSt) (fun s=>s.rest.length) (fun s=>Eat G s/\cM G s.rest.length s=aS G) (fun s=>[rL s.rest,rL s.out]) (fun r=>r=(.yield 1,[rL (aS G)])) ⟨iU G,[]⟩ ?_ ⟨Eat.start G,rfl⟩ ?_
  ·rfl
  rintro s ⟨hinv,hfin⟩
  have hlen:=hinv.len
  by_cases hw:s.rest=[]
  ·have hd:decide ((0:Int)<(s.rest.length:Nat))=false:=by rw[hw];rfl
   refine .inr ⟨(.yield 1,[rL s.out]),by simp (disch:=first|assumption|omega) only[S0,rA,rQ,rB,rT,rE,hd],by simp,?_⟩
   rw[hw]at hfin
   rw[<- hfin]
   rfl
  ·have hpos:0<s.rest.length:=List.length_pos_iff.2 hw
   obtain⟨hst,hms⟩:=hinv.step hg hw
   obtain⟨t1,t2,t3,t4⟩:=hinv.top hg hw
   have hfin2:cM G (cO G s).rest.length (cO G s)=aS G:=by
    rw[<- hfin,<- hms]
    rfl
   refine .inl ⟨cO G s,?_,⟨hst,hfin2⟩,by omega⟩
   have hd:decide ((0:Int)<(s.rest.length:Nat))=true:=decide_eq_true (by omega)
   simp (disch:=first|assumption|omega) only[S0,rA,rQ,rB,rT,rE,hd]
   rw[sZ (γ:=Nat) (.yield 3,[rL (cO G s).rest,rL (cO G s).out]) (fun i=>wR G s-i) (fun i=>i<=wR G s) (fun i=>[i64 (i:Int)]) 0 rfl (Ubo _) (by simp)]
   ·simp (disch:=first|assumption|omega) only[S0,rA,rQ,rB,rT,rE]
   ·intro i hi
    have hil:i<s.rest.length:=by omega
    have hb:InB s.rest (i:Int):=aG.2 hil
    have hd2:decide ((i:Int)<(s.rest.length:Nat))=true:=decide_eq_true (by omega)
    obtain⟨g1,g2,g3,g4,g5⟩:=hinv.grp hg (at_mem hil)
    simp (disch:=first|assumption|omega) only[S0,rA,rQ,rB,rT,rE,aI,hd2]
    rw[bH (atI s.rest (i:Int)).length (fun m=>[.bool (zI G s.rest i m),i64 m]) (.yield 5,[.bool (lK G s.out (atI s.rest (i:Int)))]) (by rw[Ha5];rfl) (by simp)]
    ·cases hf:lK G s.out (atI s.rest (i:Int))
     ·refine .inl ⟨i+1,?_,?_,?_⟩
      ·simp (disch:=first|assumption|omega) only[S0,rA,rQ,rB,rT,rE,Sbv]
      ·rcases Tbi i (wR G s) with h|h
       ·omega
       ·obtain rfl:i=wR G s:=by omega
        rw[hf]at t3;cases t3
      ·rcases Tbi i (wR G s) with h|h
       ·omega
       ·obtain rfl:i=wR G s:=by omega
        rw[hf]at t3;cases t3
     ·refine .inr ?_
      have e:i=wR G s:=by
       rcases Tbi i (wR G s) with h|h
       ·rw[t4 i h]at hf;cases hf
       ·omega
      unfold cO
      rw[<- e]
      have e1:(s.rest.take ((i:Int)).toNat).drop (0:Int).toNat=s.rest.take i:=rfl
      have e2:(s.rest.take ((s.rest.length:Nat):Int).toNat).drop (((i:Int)+1)).toNat=s.rest.drop (i+1):=by
       rw[Tbk,Tbh]
       rfl
      have a1:s.out.length+([atI s.rest (i:Int)]:List (List Int)).length<=100000000000:=by simp only[Sbw,Sbx];omega
      have a2:([]:List (List Int)).length+(s.rest.take i).length<=100000000000:=by simp only[Sbx,Tbc];omega
      have a3:(s.rest.take i).length+(s.rest.drop (i+1)).length<=100000000000:=by simp only[Tbc,Tbx];omega
      have h0:(aN.mk 1 0).run []=some [rL ([]:List (List Int))]:=rfl
      simp (disch:=first|assumption|omega) only[S0,rA,rQ,rB,rT,rE,dK,bD,sN,h0,e1,e2,Tb2]
    ·intro m hm hlt2
     have hbm:InB (atI s.rest (i:Int)) (m:Int):=aG.2 hm
     have hjG:=g3 _ (at_mem hm)
     have hjl:=hr _ (bL hjG)
     rw[Ha6 hm]
     simp (disch:=first|assumption|omega) only[S0,rA,rQ,rB,rT,rE,aI,hlt2]
     generalize atI (atI s.rest (i:Int)) (m:Int)=j at hjG hjl ⊢
     rw[bH s.rest.length (fun k=>[.bool (zI G s.rest i m&&Ca7 G s.rest i j k),i64 k]) (.yield 7,[.bool (zI G s.rest i m&&Ca7 G s.rest i j s.rest.length)]) (by rw[Ha7,Ub8];rfl) (by simp)]
     ·simp (disch:=first|assumption|omega) only[S0,rA,rQ,rB,rT,rE]
     ·intro k hk hlt3
      have hbk:InB s.rest (k:Int):=aG.2 hk
      obtain⟨k1,k2,k3,k4,k5⟩:=hinv.grp hg (at_mem hk)
      rw[Ha8,<- Ubv]
      generalize (zI G s.rest i m&&Ca7 G s.rest i j k)=b0
      simp (disch:=first|assumption|omega) only[S0,rA,rQ,rB,rT,rE,aI,hlt3]
      rw[bH (atI s.rest (k:Int)).length (fun q=>[.bool (b0&&Baq G s.rest i j k q),i64 q]) (.yield 9,[.bool (b0&&Baq G s.rest i j k (atI s.rest (k:Int)).length)]) (by rw[Ha9,Ub8];rfl) (by simp)]
      ·simp (disch:=first|assumption|omega) only[S0,rA,rQ,rB,rT,rE]
      ·intro q hq hlt4
       have hbq:InB (atI s.rest (k:Int)) (q:Int):=aG.2 hq
       rw[Iaa hq,<- Ubv]
       have ek:((k:Int)==(i:Int))=(k==i):=by
        rw[Vba,beq_iff_eq,beq_iff_eq]
        omega
       generalize (b0&&Baq G s.rest i j k q)=b1
       have jl2:(atI G j).length<=1099511627776:=by omega
       cases b1<;>cases c2:(k==i)<;>cases c3:fE (atI G j) (atI (atI s.rest (k:Int)) (q:Int))<;>simp (disch:=first|assumption|omega) only[S0,rA,rQ,rB,rT,rE,aI,dN,hlt4,ek,c2,c3]<;>rfl
      ·intro hlt4
       simp (disch:=first|assumption|omega) only[S0,rA,rQ,rB,rT,rE,hlt4]
     ·intro hlt3
      simp (disch:=first|assumption|omega) only[S0,rA,rQ,rB,rT,rE,hlt3]
    ·intro hlt2
     rw[Maa,Qa3 hg hinv hil]
     simp (disch:=first|assumption|omega) only[S0,rA,rQ,rB,rT,rE,hlt2]
 subst h3
 rw[h1]
 simp (disch:=first|assumption|omega) only[S0,rA,rQ,rB,rT,rE]
theorem Ga2 (xs:List (List Int))(i:Nat)(h:i<xs.length)(hl:xs.length<=1000000):Fun T 109 [Uat xs (i:Int),i64 (i:Int),i64 ((i:Int)+1)]=some [rL (xs.take i++xs.drop (i+1))]:=by
 rw[sW (e:=Fbx 1) rfl]
 exact Maq h hl
theorem mM (G:List (List Int))(hg:GOk G)(hl:G.length<=1000)(hr:∀ r∈G,r.length<=1000):Fun T 100 [rL G]=some [rL (aS G)]:=by
 rw[aJ (t:=Faj) rfl];unfold Faj
 have h0:(aN.mk 1 0).run []=some [rL ([]:List (List Int))]:=rfl
 have h0':rL ([]:List (List Int))=rL ([]:List Int):=rfl
 have e0:((G.length:Nat):Int).toNat=G.length:=Tbk _
 simp (disch:=first|assumption|omega) only[S0,rA,rQ,rB,rT,rE,h0]
 rw[bH G.length (fun k=>[i64 k,rL ((nums k).map (fK G))]) (.yield 1,[rL (rsM G)]) rfl (by simp)]
 rotate_left
 ·intro k hk hlt
  have hb:InB G (k:Int):=aG.2 hk
  have hl2:((nums k).map (fK G)).length+([fK G (k:Int)]:List (List Int)).length<=100000000000:=by simp only[Sb5,dA,Sbw,Sbx];omega
  have e:(nums (k+1)).map (fK G)=(nums k).map (fK G)++[fK G (k:Int)]:=by rw[mI,Tby];rfl
  rw[e]
  simp (disch:=first|assumption|omega) only[S0,rA,rQ,rB,rT,rE,dK,bD,sD,hlt]
 ·intro hlt
  simp (disch:=first|assumption|omega) only[S0,rA,rQ,rB,rT,rE,hlt]
  rfl
 simp (disch:=first|assumption|omega) only[S0,rA,rQ,rB,rT,rE,h0,kI,e0]
 rw[bH G.length (fun k=>[rL (Vak G k),i64 k]) (.yield 3,[rL (iU G)]) rfl (by simp)]
 rotate_left
 ·intro k hk hlt
  have hb:InB G (k:Int):=aG.2 hk
  have hb2:=oI hb
  have hat:=uO hb
  have hrl:=jV G (k:Int)
  have hcl:=Ca2 G k
  simp (disch:=first|assumption|omega) only[S0,rA,rQ,rB,rT,rE,hlt,h0]
  rw[bH G.length (fun m=>[rL (Cb7 G (k:Int) m),i64 m]) (.yield 5,[rL (uF G (k:Int))]) rfl (by simp)]
  ·have hs:=qF hg hb
   have hgp:=Ubu hs
   have hgb:InB (uF G (k:Int)) 0:=by unfold InB;omega
   have a1:(Vak G k).length+([uF G (k:Int)]:List (List Int)).length<=100000000000:=by simp only[Sbw,Sbx];omega
   rw[yF]
   cases c1:(atI (uF G (k:Int)) 0==(k:Int))
   ·simp (disch:=first|assumption|omega) only[S0,rA,rQ,rB,rT,rE,aI,c1,Sbv,Tbb]
   ·simp (disch:=first|assumption|omega) only[S0,rA,rQ,rB,rT,rE,aI,dK,bD,c1]
  ·intro m hm hlt2
   have hj:InB G (m:Int):=aG.2 hm
   have hjb:=oI hj
   have hjat:=uO hj
   have hjl:=jV G (m:Int)
   have hhas:=zG hg (j:=(k:Int)) hj
   have hhas2:=zG hg (j:=(m:Int)) hb
   have hfl:=Qay G (k:Int) m
   have a1:(Cb7 G (k:Int) m).length+([(m:Int)]:List Int).length<=100000000000:=by simp only[Sbw,Sbx];omega
   have b1:(fK G (m:Int)).length<=1099511627776:=by omega
   rw[La1]
   cases c1:tO G (k:Int) (m:Int)
   ·simp (disch:=first|assumption|omega) only[S0,rA,rQ,rB,rT,rE,aI,slices_Contains_int,hlt2,hat,hhas2,c1,Bool.false_and,Sbv,Tbb]
   ·cases c2:tO G (m:Int) (k:Int)
    ·simp (disch:=first|assumption|omega) only[S0,rA,rQ,rB,rT,rE,aI,slices_Contains_int,hlt2,hat,hjat,hhas,hhas2,c1,c2,Ubw,Sbv,Tbb]
    ·simp (disch:=first|assumption|omega) only[S0,rA,rQ,rB,rT,rE,aI,dK,bD,slices_Contains_int,hlt2,hat,hjat,hhas,hhas2,c1,c2,Ubw]
  ·intro hlt2
   rw[Qaz]
   simp (disch:=first|assumption|omega) only[S0,rA,rQ,rB,rT,rE,hlt2]
 ·intro hlt
  simp (disch:=first|assumption|omega) only[S0,rA,rQ,rB,rT,rE,hlt]
  rfl
 simp (disch:=first|assumption|omega) only[S0,rA,rQ,rB,rT,rE,h0]
 generalize hE:Er T (Tm.loop _ _) _=E
 obtain⟨r,h1,q,h3⟩:∃ r,E=some r/\∃ q,r=(.yield 7,[rL (aS G),q]):=by
  rw[<- hE]
  refine lF (γ:=CSt) (fun s=>s.rest.length) (fun s=>Eat G s/\cM G s.rest.length s=aS G) (fun s=>[rL s.rest,rL s.out,rL (jO G.length s.out)]) (fun r=>∃ q,r=(.yield 7,[rL (aS G),q])) ⟨iU G,[]⟩ ?_ ⟨Eat.start G,rfl⟩ ?_
  ·rw[Man]
   rfl
  rintro s ⟨hinv,hfin⟩
  have hlen:=hinv.len
  by_cases hw:s.rest=[]
  ·have hd:decide ((0:Int)<(s.rest.length:Nat))=false:=by rw[hw];rfl
   refine .inr ⟨(.yield 7,[rL s.out,rL (jO G.length s.out)]),by simp (disch:=first|assumption|omega) only[S0,rA,rQ,rB,rT,rE,hd],by simp,rL (jO G.length s.out),?_⟩
   rw[hw]at hfin
   rw[<- hfin]
   rfl
  ·have hpos:0<s.rest.length:=List.length_pos_iff.2 hw
   obtain⟨hst,hms⟩:=hinv.step hg hw
   obtain⟨t1,t2,t3,t4⟩:=hinv.top hg hw
   have hfin2:cM G (cO G s).rest.length (cO G s)=aS G:=by
    rw[<- hfin,<- hms]
    rfl
   refine .inl ⟨cO G s,?_,⟨hst,hfin2⟩,by omega⟩
   have hd:decide ((0:Int)<(s.rest.length:Nat))=true:=decide_eq_true (by omega)
   have hrl:0<(rsM G).length:=by rw[Pa4];omega
   have hdl:0<(jO G.length s.out).length:=by rw[xX];omega
   have hx:∀ C∈s.rest,C.length<=1000/\InB C 0/\InB G (atI C 0):=fun C hC=>by
    obtain⟨k1,k2,k3,k4,k5⟩:=hinv.grp hg hC
    exact⟨by omega,k4,k5⟩
   have hb:InB s.rest (wR G s:Int):=aG.2 t1
   obtain⟨g1,g2,g3,g4,g5⟩:=hinv.grp hg (at_mem t1)
   simp (disch:=first|assumption|omega) only[S0,rA,rQ,rB,rT,rE,aI,Rbw,mK,t2,hd]
   unfold cO
   generalize wR G s=i at t1 t2 t3 t4 hb g1 g2 g3 g4 g5 ⊢
   rw[bH (atI s.rest (i:Int)).length (fun m=>[i64 m,rL ((nums G.length).map fun j=>gB s.out j||fE ((atI s.rest (i:Int)).take m) j)]) (.yield 9,[rL (jO G.length (s.out++[atI s.rest (i:Int)]))]) (by rw[Eai];rfl) (by simp)]
   ·have a1:s.out.length+([atI s.rest (i:Int)]:List (List Int)).length<=100000000000:=by simp only[Sbw,Sbx];omega
    simp (disch:=first|assumption|omega) only[S0,rA,rQ,rB,rT,rE,aI,tJ,dK,bD,Ga2]
   ·intro m hm hlt2
    have hbm:InB (atI s.rest (i:Int)) (m:Int):=aG.2 hm
    have hjG:=g3 _ (at_mem hm)
    have hjb:InB ((nums G.length).map fun j=>gB s.out j||fE ((atI s.rest (i:Int)).take m) j) (atI (atI s.rest (i:Int)) (m:Int)):=by unfold InB at hjG ⊢;rw[Sb5,dA];exact hjG
    rw[<- Mam hm hjG]
    simp (disch:=first|assumption|omega) only[S0,rA,rQ,rB,rT,rE,aI,kI,hlt2]
   ·intro hlt2
    rw[Mao]
    simp (disch:=first|assumption|omega) only[S0,rA,rQ,rB,rT,rE,hlt2]
 subst h3
 rw[h1]
 simp (disch:=first|assumption|omega) only[S0,rA,rQ,rB,rT,rE]
theorem rW (C ks:List Int)(hC:C.length<=1000)(hin:∀ x∈C,InB ks x)(hi:∀ x∈C,∀ y∈C,atI ks x=atI ks y->x=y):Fun T 48 [rL C,rL ks]=some [rL (lC (jK ks) C)]:=by
 rw[aJ (t:=Ya7) rfl];unfold Ya7
 simp (disch:=first|assumption|omega) only[S0,rA,rQ,rB,rT,rE]
 rw[<- Laq hi]
 rw[(Eaf 1 C (fun i (out:List Int)=>[rL out,i64 i]) [] (Abx ks) (fun i out=>out.length=i/\i<=C.length/\∀ x∈out,InB ks x) (fun out=>[rL out]) rfl ⟨rfl,Ubo _,fun x hx=>by cases hx⟩ ?_ ?_).1]
 ·simp (disch:=first|assumption|omega) only[S0,rA,rQ,rB,rT,rE]
 ·rintro i out hi2 hb hlt ⟨o1,o2,o3⟩
  have hxb:=hin _ (at_mem hi2)
  have hpl:=(uY ks out (atI C (i:Int))).length_eq
  refine⟨?_,?_⟩
  ·simp (disch:=first|assumption|omega) only[S0,rA,rQ,rB,rT,rE,aI,hlt]
   generalize atI C (i:Int)=x at hxb hpl ⊢
   have hk:=Lap ks out x out.length
   rw[sZ (γ:=Nat) (.yield 3,[i64 ((wP ks out x out.length:Nat):Int),.undef,.undef,.undef,.undef,.undef,.undef,.undef]) (fun k=>k) (fun k=>k<=out.length/\wP ks out x k=wP ks out x out.length) (fun k=>[i64 (k:Int)]) out.length rfl ⟨Sb7 _,rfl⟩ (by simp)]
   ·unfold Abx
    generalize wP ks out x out.length=k at hk ⊢
    have e0:(out.take ((k:Nat):Int).toNat).drop (0:Int).toNat=out.take k:=rfl
    have e1:(out.take ((out.length:Nat):Int).toNat).drop ((k:Nat):Int).toNat=out.drop k:=by rw[Tbk,Tbk,Tbh]
    have t1:(out.take k).length<=1000:=by rw[Tbc];omega
    have t2:(out.drop k).length<=1000:=by rw[Tbx];omega
    have a3:(out.take k).length+([x]:List Int).length<=100000000000:=by simp only[Sbw,Sbx];omega
    have a4:((out.take k)++[x]).length+(out.drop k).length<=100000000000:=by simp only[Sby,Sbw,Sbx];omega
    have b1:(0:Int)<=((k:Nat):Int):=by omega
    have b2:(out.drop k).length<=10000000000:=by omega
    simp (disch:=first|assumption|omega) only[S0,rA,rQ,rB,rT,rE,dK,bD,sN,fB,e0,e1]
   ·rintro k ⟨hkle,hki⟩
    cases k with
    | zero =>
     refine .inr ?_
     have e:wP ks out x out.length=0:=by rw[<- hki];rfl
     have hd0:decide ((0:Int)<((0:Nat):Int))=false:=by decide
     rw[e]
     simp (disch:=first|assumption|omega) only[S0,rA,rQ,rB,rT,rE,hd0]
    | succ k =>
     have hbk:InB out (k:Int):=aG.2 (by omega)
     have hyb:=o3 _ (bL hbk)
     have hgt:decide (0<(k:Int)+1)=true:=decide_eq_true (by omega)
     have hsub:(aN.bin .sub).run [i64 ((k:Int)+1),i64 1]=some [i64 (k:Int)]:=by
      have h:=Daz (a:=(k:Int)+1) (b:=1) (by omega) (by omega)
      rw[show (k:Int)+1-1=k by omega]at h
      exact h
     cases hg:decide (atI ks x<atI ks (atI out (k:Int)))
     ·refine .inr ?_
      have e:wP ks out x out.length=k+1:=by rw[<- hki];unfold wP;rw[hg];simp
      rw[e]
      simp (disch:=first|assumption|omega) only[S0,rA,rQ,rB,rT,rE,aI,hgt,hsub,hg,Sbv]
     ·refine .inl ⟨k,?_,⟨by omega,by rw[<- hki];conv=>rhs;unfold wP;rw[hg];simp⟩,by omega⟩
      simp (disch:=first|assumption|omega) only[S0,rA,rQ,rB,rT,rE,aI,hgt,hsub,hg]
  ·refine⟨by rw[hpl,Sbw];omega,by omega,fun y hy=>?_⟩
   rcases List.mem_cons.1 ((uY ks out (atI C (i:Int))).mem_iff.1 hy) with h|h
   ·rw[h];exact hxb
   ·exact o3 y h
 ·rintro out hlt -
  simp (disch:=first|assumption|omega) only[S0,rA,rQ,rB,rT,rE,hlt]
theorem rV (G:List (List Int))(ks:List Int)(hg:GOk G)(hl:G.length<=1000)(hr:∀ r∈G,r.length<=1000)(hk:ks.length=G.length)(hi:∀ x y,InB G x->InB G y->atI ks x=atI ks y->x=y):Fun T 43 [rL G,rL ks]=some [rL (jS G ks)]:=by
 rw[aJ (t:=Zac) rfl];unfold Zac
 obtain⟨c1,c2⟩:=kS hg
 have hol:(aS G).length<=G.length:=Tbr (jH c1 fun C hC=>(c2 C).1 hC) (rG G)
 simp (disch:=first|assumption|omega) only[S0,rA,rQ,rB,rT,rE,jY]
 rw[bH (aS G).length (fun m=>[rL (pE G ks m),i64 m]) (.yield 1,[rL (jS G ks)]) rfl (by simp)]
 ·simp (disch:=first|assumption|omega) only[S0,rA,rQ,rB,rT,rE]
 ·intro m hm hlt
  have hb:InB (aS G) (m:Int):=aG.2 hm
  obtain⟨a,ha,he,-⟩:=iT ((c2 _).1 (at_mem hm))
  have g1:=zH G a
  have g2:∀ x∈atI (aS G) (m:Int),InB G x:=fun x hx=>Eab (by rw[<- he];exact hx)
  rw[<- he]at g1
  have hC:(atI (aS G) (m:Int)).length<=1000:=by omega
  have hin:∀ x∈atI (aS G) (m:Int),InB ks x:=fun x hx=>by have:=g2 x hx;unfold InB at this ⊢;rw[hk];exact this
  have hi2:∀ x∈atI (aS G) (m:Int),∀ y∈atI (aS G) (m:Int),atI ks x=atI ks y->x=y:=fun x hx y hy=>hi x y (g2 x hx) (g2 y hy)
  have o1:=uE hg ks m
  have a1:(pE G ks m).length+(lC (jK ks) (atI (aS G) (m:Int))).length<=100000000000:=by rw[wX];omega
  rw[qY hm]
  simp (disch:=first|assumption|omega) only[S0,rA,rQ,rB,rT,rE,aI,bD,rW,hlt]
 ·intro hlt
  rw[qZ]
  simp (disch:=first|assumption|omega) only[S0,rA,rQ,rB,rT,rE,hlt]
theorem wW (l ks:List Int)(h:Dak l ks=true)(hl:l.length<=1000000):Fun T 110 [rL l,rL ks]=some [rL (lC (jK ks) l)]:=by
 rw[sW (e:=Dae) rfl]
 exact Xa1 h hl
theorem xQ (G:List (List Int))(ks:List Int)(hg:GOk G)(hl:G.length<=1000)(hr:∀ r∈G,r.length<=1000)(hk:ks.length=G.length)(hkb:∀ k∈ks,0<=k/\k<=1000000000)(hi:∀ x y,InB G x->InB G y->atI ks x=atI ks y->x=y):Fun T 99 [rL G,rL ks]=some [rL (jS G ks)]:=by
 rw[aJ (t:=Gbr) rfl];unfold Gbr
 obtain⟨c1,c2⟩:=kS hg
 have hol:(aS G).length<=G.length:=Tbr (jH c1 fun C hC=>(c2 C).1 hC) (rG G)
 have h0:(aN.mk 1 0).run []=some [rL ([]:List (List Int))]:=rfl
 have est:rL (aS G)=iY [] (Sb1 0 [D.hole]) ((aS G).drop 0):=Iai (aS G) (Ubo _)
 simp (disch:=first|assumption|omega) only[S0,rA,rQ,rB,rT,rE,mM,h0]
 rw[bH (aS G).length (fun m=>[rL (pE G ks m),iY [] (Sb1 m [D.hole]) ((aS G).drop m),i64 m]) (.yield 1,[rL (jS G ks)]) (by rw[<- est];rfl) (by simp)]
 ·simp (disch:=first|assumption|omega) only[S0,rA,rQ,rB,rT,rE]
 ·intro m hm hlt
  have hb:InB (aS G) (m:Int):=aG.2 hm
  obtain⟨a,ha,he,-⟩:=iT ((c2 _).1 (at_mem hm))
  have g1:=zH G a
  have g2:∀ x∈atI (aS G) (m:Int),InB G x:=fun x hx=>Eab (by rw[<- he];exact hx)
  rw[<- he]at g1
  have hC:(atI (aS G) (m:Int)).length<=1000000:=by omega
  have hin:∀ x∈atI (aS G) (m:Int),InB ks x:=fun x hx=>by have:=g2 x hx;unfold InB at this ⊢;rw[hk];exact this
  have hi2:∀ x∈atI (aS G) (m:Int),∀ y∈atI (aS G) (m:Int),atI ks x=atI ks y->x=y:=fun x hx y hy=>hi x y (g2 x hx) (g2 y hy)
  have hko:=Lar hin hkb hi2
  have o1:=uE hg ks m
  have a1:(pE G ks m).length+(lC (jK ks) (atI (aS G) (m:Int))).length<=100000000000:=by rw[wX];omega
  have hd1:(aS G).drop m=atI (aS G) (m:Int)::(aS G).drop (m+1):=by rw[Tb6 hm,bC hm]
  have hJ:((Sb1 m [D.hole]).length:Int)=(m:Int):=by rw[Tbq]
  have q1:aN.inb.run [iY [] (Sb1 m [D.hole]) ((aS G).drop m),i64 (m:Int)]=some []:=tZ (by omega) (by rw[hd1,Sbw,hJ,Sbx];omega)
  have q2:(aN.row 1 0 [false]).run [iY [] (Sb1 m [D.hole]) ((aS G).drop m),i64 (m:Int)]=some [rL (atI (aS G) (m:Int))]:=by rw[hd1];exact Ca0 (by rw[hJ,Sbx];omega)
  have q3:(aN.set 1 0 1).run [iY [] (Sb1 m [D.hole]) ((aS G).drop m),i64 (m:Int),.hole]=some [iY [] (Sb1 (m+1) [D.hole]) ((aS G).drop (m+1))]:=by rw[hd1,Vbf];exact yB (by rw[hJ,Sbx];omega)
  rw[qY hm]
  simp (disch:=first|assumption|omega) only[S0,rA,rQ,rB,rT,rE,bD,wW,q1,q2,q3,hlt]
 ·intro hlt
  rw[qZ]
  simp (disch:=first|assumption|omega) only[S0,rA,rQ,rB,rT,rE,hlt]
theorem rU (n:Int)(rows:List (List aY))(ht:aV ⟨n,rows⟩=true)(hs:bX rows):Fun T 28 [i64 n,rL rows]=some [rL (fF ⟨n,rows⟩)]:=by
 rw[aJ (t:=Zar) rfl];unfold Zar
 have hg:bK n=true:=aQ ht
 have hn:=aT hg
 have hl:(rows.length:Int)=n:=bU ht
 have hl2:rows.length<=100:=by omega
 have hrl:=eO ht
 have hgo:=Qa0 ⟨n,rows⟩
 have hgl:=Aah ⟨n,rows⟩
 have hgr:∀ r∈gM ⟨n,rows⟩,r.length<=1000:=fun r hr=>by have:=(La5 hr).1;omega
 have hkl:(qN ⟨n,rows⟩).length=(gM ⟨n,rows⟩).length:=by rw[xM,hgl]
 have hki:=xN ht
 have hrd:∀ x∈aF ⟨n,rows⟩,x∈aU rows:=fun x hx=>xD hx
 simp (disch:=first|assumption|omega) only[S0,rA,rQ,rB,rT,rE,oV,uC]
 rw[bH rows.length (fun k=>[i64 k,rL (yK (aF ⟨n,rows⟩) ⟨n,rows⟩ k).rows]) (.yield 1,[rL (yK (aF ⟨n,rows⟩) ⟨n,rows⟩ rows.length).rows]) rfl (by simp)]
 rotate_left
 ·intro k hk hlt
  have hc:=Va2.all ht hrd k (by simp only;omega)
  have hcl:(yK (aF ⟨n,rows⟩) ⟨n,rows⟩ k).rows.length=rows.length:=hc.rowsLen ht
  have hcb:InB (yK (aF ⟨n,rows⟩) ⟨n,rows⟩ k).rows (k:Int):=aG.2 (by omega)
  have hck:(atI (yK (aF ⟨n,rows⟩) ⟨n,rows⟩ k).rows (k:Int)).length=(atI rows (k:Int)).length:=hc.len k
  have h6:(atI rows (k:Int)).length<=6:=(bY ht (at_mem hk)).1
  have hck2:(atI (yK (aF ⟨n,rows⟩) ⟨n,rows⟩ k).rows (k:Int)).length<=1099511627776:=by omega
  simp (disch:=first|assumption|omega) only[S0,rA,rQ,rB,rT,rE,aI,hlt]
  rw[hck]
  rw[bH (atI rows (k:Int)).length (fun m=>[i64 m,rL (Va0 (aF ⟨n,rows⟩) k m (yK (aF ⟨n,rows⟩) ⟨n,rows⟩ k)).rows]) (.yield 3,[rL (yK (aF ⟨n,rows⟩) ⟨n,rows⟩ (k+1)).rows]) rfl (by simp)]
  ·simp (disch:=first|assumption|omega) only[S0,rA,rQ,rB,rT,rE]
  ·intro m hm hlt2
   have hd:=hc.stepN ht (by simp only;exact hk) m (by simp only;omega)
   have e:Va0 (aF ⟨n,rows⟩) k (m+1) (yK (aF ⟨n,rows⟩) ⟨n,rows⟩ k)=Ibe (aF ⟨n,rows⟩) (Va0 (aF ⟨n,rows⟩) k m (yK (aF ⟨n,rows⟩) ⟨n,rows⟩ k)) k m:=rfl
   rw[e]
   generalize Va0 (aF ⟨n,rows⟩) k m (yK (aF ⟨n,rows⟩) ⟨n,rows⟩ k)=u at hd ⊢
   obtain⟨un,us⟩:=u
   obtain rfl:un=n:=hd.n
   have hdl:us.length=rows.length:=hd.rowsLen ht
   have hdb:InB us (k:Int):=aG.2 (by omega)
   have hdk:(atI us (k:Int)).length=(atI rows (k:Int)).length:=hd.len k
   have hdm:InB (atI us (k:Int)) (m:Int):=aG.2 (by omega)
   have b1:([(k:Int),(m:Int)+1]:List Int).length<=1099511627776:=by simp
   have b2:(aF ⟨un,rows⟩).length<=1099511627776:=by omega
   unfold Ibe
   cases hf:decide (iQ (aF ⟨un,rows⟩) [(k:Int),(m:Int)+1]<0)
   ·simp (disch:=first|assumption|omega) only[S0,rA,rQ,rB,rT,rE,dK,bO,hlt2,hf,Sbv]
   ·have e1:ext un (atI us (k:Int)) ((m:Int)+1)=atI us (k:Int):=Kaf (by omega)
    have e2:(m:Int)+1-1=(m:Int):=by omega
    unfold Daa
    simp (disch:=first|assumption|omega) only[S0,rA,rQ,rB,rT,rE,aI,dK,lZ,bO,gV,hlt2,hf,e1,e2]
    rfl
  ·intro hlt2
   simp (disch:=first|assumption|omega) only[S0,rA,rQ,rB,rT,rE,hlt2]
   rfl
 ·intro hlt
  simp (disch:=first|assumption|omega) only[S0,rA,rQ,rB,rT,rE,hlt]
 have hred:=Rae ht
 simp only at hred
 generalize yK (aF ⟨n,rows⟩) ⟨n,rows⟩ rows.length=u at hred ⊢
 obtain⟨un,us⟩:=u
 obtain rfl:un=n:=hred.n
 have hok:aV ⟨un,us⟩=true:=hred.ok
 have hus:=tN hok
 simp only at hus
 have hcom:=hred.com ht
 have hgra:=hred.graph ht
 simp only at hcom hgra
 simp (disch:=first|assumption|omega) only[S0,rA,rQ,rB,rT,rE,mD,hcom,hgra]
 rw[bH (aF ⟨un,rows⟩).length (fun m=>[rL (((aF ⟨un,rows⟩).take m).map (qO ⟨un,rows⟩)),i64 m]) (.yield 5,[rL (qN ⟨un,rows⟩)]) rfl (by simp)]
 rotate_left
 ·intro m hm hlt
  have hb:InB (aF ⟨un,rows⟩) (m:Int):=aG.2 hm
  obtain⟨hi,hst,he,x0,x1⟩:=bP ht (at_mem hm)
  have hi2:inst un (atI (atI (aF ⟨un,rows⟩) (m:Int)) 0) (atI (atI (aF ⟨un,rows⟩) (m:Int)) 1)=true:=hi.2
  have hr:=bE hi2
  have hrb:InB rows (atI (atI (aF ⟨un,rows⟩) (m:Int)) 0):=bN ht hi2
  have hsq:=tV ht hi
  have hml:(((aF ⟨un,rows⟩).take m).map (qO ⟨un,rows⟩)).length<=30:=by rw[Sb5,Tbc];omega
  have ek:((aF ⟨un,rows⟩).take (m+1)).map (qO ⟨un,rows⟩)=((aF ⟨un,rows⟩).take m).map (qO ⟨un,rows⟩)++[qO ⟨un,rows⟩ (atI (aF ⟨un,rows⟩) (m:Int))]:=by rw[<- take_at hm,Tby];rfl
  rw[ek]
  have a1:(((aF ⟨un,rows⟩).take m).map (qO ⟨un,rows⟩)).length+([qO ⟨un,rows⟩ (atI (aF ⟨un,rows⟩) (m:Int))]:List Int).length<=100000000000:=by simp only[Sbw,Sbx];omega
  have ek2:100*(cK ⟨un,rows⟩ (atI (atI (aF ⟨un,rows⟩) (m:Int)) 0) (atI (atI (aF ⟨un,rows⟩) (m:Int)) 1)).attr.seq+10*atI (atI (aF ⟨un,rows⟩) (m:Int)) 0+atI (atI (aF ⟨un,rows⟩) (m:Int)) 1=qO ⟨un,rows⟩ (atI (aF ⟨un,rows⟩) (m:Int)):=rfl
  simp (disch:=first|assumption|omega) only[S0,rA,rQ,rB,rT,rE,aI,dK,bD,yS,fJ,ek2,hlt]
 ·intro hlt
  rw[Tbh]
  simp (disch:=first|assumption|omega) only[S0,rA,rQ,rB,rT,rE,hlt]
  rfl
 have hjl:=zB ⟨un,rows⟩
 simp (disch:=first|assumption|omega) only[S0,rA,rQ,rB,rT,rE,rV]
 have eJ:jS (gM ⟨un,rows⟩) (qN ⟨un,rows⟩)=fQ ⟨un,rows⟩:=rfl
 rw[eJ]
 rw[bH (fQ ⟨un,rows⟩).length (fun m=>[rL (aF ⟨un,rows⟩),rL (((fQ ⟨un,rows⟩).take m).map fun j=>atI (aF ⟨un,rows⟩) j),i64 m]) (.yield 7,[rL (fF ⟨un,rows⟩)]) rfl (by simp)]
 ·simp (disch:=first|assumption|omega) only[S0,rA,rQ,rB,rT,rE]
 ·intro m hm hlt
  have hb:InB (fQ ⟨un,rows⟩) (m:Int):=aG.2 hm
  have hjb:=Da4 (at_mem hm)
  have hml:(((fQ ⟨un,rows⟩).take m).map fun j=>atI (aF ⟨un,rows⟩) j).length<=30:=by rw[Sb5,Tbc];omega
  have ek:((fQ ⟨un,rows⟩).take (m+1)).map (fun j=>atI (aF ⟨un,rows⟩) j)=((fQ ⟨un,rows⟩).take m).map (fun j=>atI (aF ⟨un,rows⟩) j)++[atI (aF ⟨un,rows⟩) (atI (fQ ⟨un,rows⟩) (m:Int))]:=by rw[<- take_at hm,Tby];rfl
  have a1:(((fQ ⟨un,rows⟩).take m).map fun j=>atI (aF ⟨un,rows⟩) j).length+([atI (aF ⟨un,rows⟩) (atI (fQ ⟨un,rows⟩) (m:Int))]:List (List Int)).length<=100000000000:=by simp only[Sbw,Sbx];omega
  rw[ek]
  simp (disch:=first|assumption|omega) only[S0,rA,rQ,rB,rT,rE,aI,dK,bD,hlt]
 ·intro hlt
  rw[Tbh]
  simp (disch:=first|assumption|omega) only[S0,rA,rQ,rB,rT,rE,hlt]
  rfl
theorem lI (n:Int)(rows:List (List aY))(ht:aV ⟨n,rows⟩=true)(hs:bX rows):Fun T 77 [i64 n,rL rows]=some [rL (fF ⟨n,rows⟩)]:=by
 rw[aJ (t:=Gbv) rfl];unfold Gbv
 have hg:bK n=true:=aQ ht
 have hn:=aT hg
 have hl:(rows.length:Int)=n:=bU ht
 have hl2:rows.length<=100:=by omega
 have hrl:=eO ht
 have hgo:=Qa0 ⟨n,rows⟩
 have hgl:=Aah ⟨n,rows⟩
 have hgr:∀ r∈gM ⟨n,rows⟩,r.length<=1000:=fun r hr=>by have:=(La5 hr).1;omega
 have hkl:(qN ⟨n,rows⟩).length=(gM ⟨n,rows⟩).length:=by rw[xM,hgl]
 have hki:=xN ht
 have hkr:=Las ht
 have h0:(aN.mk 1 0).run []=some [rL ([]:List (List Int))]:=rfl
 simp (disch:=first|assumption|omega) only[S0,rA,rQ,rB,rT,rE,pY,jC]
 rw[bH (aF ⟨n,rows⟩).length (fun m=>[i64 m,i64 n,rL (Jat ⟨n,rows⟩ m).rows]) (.yield 1,[i64 n,rL (Jat ⟨n,rows⟩ (aF ⟨n,rows⟩).length).rows]) rfl (by simp)]
 rotate_left
 ·intro m hm hlt
  have hb:InB (aF ⟨n,rows⟩) (m:Int):=aG.2 hm
  obtain⟨hi,hst,he,x0,x1⟩:=bP ht (at_mem hm)
  have hi2:inst n (atI (atI (aF ⟨n,rows⟩) (m:Int)) 0) (atI (atI (aF ⟨n,rows⟩) (m:Int)) 1)=true:=hi.2
  have hr:=bE hi2
  have hrb:InB rows (atI (atI (aF ⟨n,rows⟩) (m:Int)) 0):=bN ht hi2
  have hred:=Hac ht m (by omega)
  have hdl:=dQ ht hi2
  simp only at hdl
  have e:Jat ⟨n,rows⟩ (m+1)=Daa (Jat ⟨n,rows⟩ m) (atI (atI (aF ⟨n,rows⟩) (m:Int)) 0) (atI (atI (aF ⟨n,rows⟩) (m:Int)) 1) (cK ⟨n,rows⟩ (atI (atI (aF ⟨n,rows⟩) (m:Int)) 0) (atI (atI (aF ⟨n,rows⟩) (m:Int)) 1)):=rfl
  rw[e]
  generalize Jat ⟨n,rows⟩ m=u at hred ⊢
  obtain⟨un,us⟩:=u
  obtain rfl:un=n:=hred.n
  have hok:aV ⟨un,us⟩=true:=hred.ok
  have hus:=tN hok
  simp only at hus
  have hub:InB us (atI (atI (aF ⟨un,rows⟩) (m:Int)) 0):=bN hok hi2
  have hdl2:(cK ⟨un,rows⟩ (atI (atI (aF ⟨un,rows⟩) (m:Int)) 0) (atI (atI (aF ⟨un,rows⟩) (m:Int)) 1)).attr.deps.length<=10000000000:=by omega
  simp (disch:=first|assumption|omega) only[S0,rA,rQ,rB,rT,rE,aI,bA,nV,hlt]
  rfl
 ·intro hlt
  simp (disch:=first|assumption|omega) only[S0,rA,rQ,rB,rT,rE,hlt]
 have hred:=Rat ht
 generalize Jat ⟨n,rows⟩ (aF ⟨n,rows⟩).length=u at hred ⊢
 obtain⟨un,us⟩:=u
 obtain rfl:un=n:=hred.n
 have hok:aV ⟨un,us⟩=true:=hred.ok
 have hus:=tN hok
 simp only at hus
 have hcom:=hred.com ht
 have hgra:=hred.graph ht
 simp only at hcom hgra
 simp (disch:=first|assumption|omega) only[S0,rA,rQ,rB,rT,rE,gX,hcom,hgra,h0]
 rw[bH (aF ⟨un,rows⟩).length (fun m=>[rL (((aF ⟨un,rows⟩).take m).map (qO ⟨un,rows⟩)),i64 m]) (.yield 3,[rL (qN ⟨un,rows⟩)]) rfl (by simp)]
 rotate_left
 ·intro m hm hlt
  have hb:InB (aF ⟨un,rows⟩) (m:Int):=aG.2 hm
  obtain⟨hi,hst,he,x0,x1⟩:=bP ht (at_mem hm)
  have hi2:inst un (atI (atI (aF ⟨un,rows⟩) (m:Int)) 0) (atI (atI (aF ⟨un,rows⟩) (m:Int)) 1)=true:=hi.2
  have hr:=bE hi2
  have hrb:InB us (atI (atI (aF ⟨un,rows⟩) (m:Int)) 0):=bN hok hi2
  have hsq:=tV ht hi
  have htr:cK ⟨un,us⟩ (atI (atI (aF ⟨un,rows⟩) (m:Int)) 0) (atI (atI (aF ⟨un,rows⟩) (m:Int)) 1)=cK ⟨un,rows⟩ (atI (atI (aF ⟨un,rows⟩) (m:Int)) 0) (atI (atI (aF ⟨un,rows⟩) (m:Int)) 1):=by
   rw[hred.row _ _ hi2,if_pos (by rw[<- he];exact at_mem hm)]
  have hml:(((aF ⟨un,rows⟩).take m).map (qO ⟨un,rows⟩)).length<=30:=by rw[Sb5,Tbc];omega
  have ek:((aF ⟨un,rows⟩).take (m+1)).map (qO ⟨un,rows⟩)=((aF ⟨un,rows⟩).take m).map (qO ⟨un,rows⟩)++[qO ⟨un,rows⟩ (atI (aF ⟨un,rows⟩) (m:Int))]:=by rw[<- take_at hm,Tby];rfl
  rw[ek]
  have a1:(((aF ⟨un,rows⟩).take m).map (qO ⟨un,rows⟩)).length+([qO ⟨un,rows⟩ (atI (aF ⟨un,rows⟩) (m:Int))]:List Int).length<=100000000000:=by simp only[Sbw,Sbx];omega
  have ek2:100*(cK ⟨un,rows⟩ (atI (atI (aF ⟨un,rows⟩) (m:Int)) 0) (atI (atI (aF ⟨un,rows⟩) (m:Int)) 1)).attr.seq+10*atI (atI (aF ⟨un,rows⟩) (m:Int)) 0+atI (atI (aF ⟨un,rows⟩) (m:Int)) 1=qO ⟨un,rows⟩ (atI (aF ⟨un,rows⟩) (m:Int)):=rfl
  simp (disch:=first|assumption|omega) only[S0,rA,rQ,rB,rT,rE,aI,dK,bD,yS,bA,htr,ek2,hlt]
 ·intro hlt
  rw[Tbh]
  simp (disch:=first|assumption|omega) only[S0,rA,rQ,rB,rT,rE,hlt]
  rfl
 have hjl:=zB ⟨un,rows⟩
 simp (disch:=first|assumption|omega) only[S0,rA,rQ,rB,rT,rE,xQ,h0]
 have eJ:jS (gM ⟨un,rows⟩) (qN ⟨un,rows⟩)=fQ ⟨un,rows⟩:=rfl
 have hnd:(fQ ⟨un,rows⟩).Nodup:=vY hgo _
 have est:rL (aF ⟨un,rows⟩)=hsD (aF ⟨un,rows⟩) (fun j=>fE ((fQ ⟨un,rows⟩).take 0) j):=(Eb8 _ fun j _=>rfl).symm
 rw[eJ]
 generalize hE:Er T (Tm.loop _ _) _=E
 obtain⟨r,h1,h3⟩:∃ r,E=some r/\r=(.yield 5,[rL (fF ⟨un,rows⟩)]):=by
  refine⟨_,?_,rfl⟩
  rw[<- hE]
  rw[bH (fQ ⟨un,rows⟩).length (fun m=>[hsD (aF ⟨un,rows⟩) (fun j=>fE ((fQ ⟨un,rows⟩).take m) j),rL (((fQ ⟨un,rows⟩).take m).map fun j=>atI (aF ⟨un,rows⟩) j),i64 m]) (.yield 5,[rL (fF ⟨un,rows⟩)]) (by rw[<- est];rfl) (by simp)]
  ·intro m hm hlt
   have hb:InB (fQ ⟨un,rows⟩) (m:Int):=aG.2 hm
   have hjb:=Da4 (at_mem hm)
   have hml:(((fQ ⟨un,rows⟩).take m).map fun j=>atI (aF ⟨un,rows⟩) j).length<=30:=by rw[Sb5,Tbc];omega
   have ek:((fQ ⟨un,rows⟩).take (m+1)).map (fun j=>atI (aF ⟨un,rows⟩) j)=((fQ ⟨un,rows⟩).take m).map (fun j=>atI (aF ⟨un,rows⟩) j)++[atI (aF ⟨un,rows⟩) (atI (fQ ⟨un,rows⟩) (m:Int))]:=by rw[<- take_at hm,Tby];rfl
   have a1:(((fQ ⟨un,rows⟩).take m).map fun j=>atI (aF ⟨un,rows⟩) j).length+([atI (aF ⟨un,rows⟩) (atI (fQ ⟨un,rows⟩) (m:Int))]:List (List Int)).length<=100000000000:=by simp only[Sbw,Sbx];omega
   have hnot:fE ((fQ ⟨un,rows⟩).take m) (atI (fQ ⟨un,rows⟩) (m:Int))=false:=by
    rw[<- Bool.not_eq_true,qE]
    intro hmem
    obtain⟨i,hi,e⟩:=List.mem_iff_getElem.1 hmem
    rw[Tbc]at hi
    rw[Vby,bC hm]at e
    have:=(List.getElem_inj hnd).1 e
    omega
   have ep:(fun j=>fE ((fQ ⟨un,rows⟩).take (m+1)) j)=fun j=>fE ((fQ ⟨un,rows⟩).take m) j||j==atI (fQ ⟨un,rows⟩) (m:Int):=funext fun j=>Kae hm j
   have q1:aN.inb.run [hsD (aF ⟨un,rows⟩) (fun j=>fE ((fQ ⟨un,rows⟩).take m) j),i64 (atI (fQ ⟨un,rows⟩) (m:Int))]=some []:=Xae hjb
   have q2:(aN.row 1 0 [false]).run [hsD (aF ⟨un,rows⟩) (fun j=>fE ((fQ ⟨un,rows⟩).take m) j),i64 (atI (fQ ⟨un,rows⟩) (m:Int))]=some [rL (atI (aF ⟨un,rows⟩) (atI (fQ ⟨un,rows⟩) (m:Int)))]:=Xad hjb hnot
   have q3:(aN.set 1 0 1).run [hsD (aF ⟨un,rows⟩) (fun j=>fE ((fQ ⟨un,rows⟩).take m) j),i64 (atI (fQ ⟨un,rows⟩) (m:Int)),.hole]=some [hsD (aF ⟨un,rows⟩) (fun j=>fE ((fQ ⟨un,rows⟩).take (m+1)) j)]:=by rw[ep];exact Qaw hjb
   rw[ek]
   simp (disch:=first|assumption|omega) only[S0,rA,rQ,rB,rT,rE,aI,dK,bD,q1,q2,q3,hlt]
  ·intro hlt
   rw[Tbh]
   simp (disch:=first|assumption|omega) only[S0,rA,rQ,rB,rT,rE,hlt]
   rfl
 subst h3
 rw[h1]
 simp (disch:=first|assumption|omega) only[S0,rA,rQ,rB,rT,rE]
theorem Aat:Fun T 50 []=some [rL ([100,100,100,100]:List Int)]:=wH.2 ⟨12,by kernel_rfl⟩
theorem Aas (l:List oN)(hq:∀ c∈l,kX c=true)(hl:l.length<=60):Fun T 49 [rL l]=some [rL (jA l l.length).1,rL (jA l l.length).2]:=by
 rw[aJ (t:=Ya6) rfl];unfold Ya6
 simp (disch:=first|assumption|omega) only[S0,rA,rQ,rB,rT,rE,Aat]
 rw[bH l.length (fun i=>[rL (jA l i).1,rL (jA l i).2,i64 i]) (.yield 1,[rL (jA l l.length).1,rL (jA l l.length).2]) rfl (by simp)]
 ·simp (disch:=first|assumption|omega) only[S0,rA,rQ,rB,rT,rE]
 ·intro i hi hlt
  have hb:InB l (i:Int):=aG.2 hi
  have hc:=hq _ (at_mem hi)
  obtain⟨p1,p2⟩:=Cai hq i (by omega)
  have p2':∀ x∈(jA l i).1,0<=x/\x<=100000000:=fun x hx=>by have:=p2 x hx;omega
  obtain⟨k1,k2⟩:=Aa6 l i
  have e:jA l (i+1)=((iD (jA l i).1 (atI l (i:Int))).1,(jA l i).2++[(iD (jA l i).1 (atI l (i:Int))).2]):=rfl
  have z1:(jA l i).2.length+([(iD (jA l i).1 (atI l (i:Int))).2]:List lT).length<=100000000000:=by simp only[Sbw,Sbx];omega
  simp (disch:=first|assumption|omega) only[S0,rA,rQ,rB,rT,rE,aI,yR,dK,bD,hlt,e]
 ·intro hlt
  simp (disch:=first|assumption|omega) only[S0,rA,rQ,rB,rT,rE,hlt]
theorem Aar (n:Int)(rows:List (List aY))(ht:aV ⟨n,rows⟩=true)(hs:bX rows):Fun T 27 [i64 n,rL rows]=some [rL (sM ⟨n,rows⟩).1,rL (sM ⟨n,rows⟩).2]:=by
 rw[aJ (t:=Zas) rfl];unfold Zas;unfold sM
 have hg:bK n=true:=aQ ht
 have hol:(fF ⟨n,rows⟩).length<=30:=Tbr (rM _) (eO ht)
 have hcok:=Ram ht
 have hcl:=Mav ⟨n,rows⟩
 have hcl2:(vH ⟨n,rows⟩).length<=60:=by omega
 have htl:=Sad ⟨n,rows⟩
 simp (disch:=first|assumption|omega) only[S0,rA,rQ,rB,rT,rE,rU]
 rw[bH (fF ⟨n,rows⟩).length (fun m=>[rL (((fF ⟨n,rows⟩).take m).map (Jao ⟨n,rows⟩)),i64 m]) (.yield 1,[rL (vH ⟨n,rows⟩)]) rfl (by simp)]
 rotate_left
 ·intro m hm hlt
  have hb:InB (fF ⟨n,rows⟩) (m:Int):=aG.2 hm
  obtain⟨hi,hst,he,x0,x1⟩:=bP ht (vZ (at_mem hm))
  have hi2:inst n (atI (atI (fF ⟨n,rows⟩) (m:Int)) 0) (atI (atI (fF ⟨n,rows⟩) (m:Int)) 1)=true:=hi.2
  have hr:=bE hi2
  have hrb:InB rows (atI (atI (fF ⟨n,rows⟩) (m:Int)) 0):=bN ht hi2
  have hml:(((fF ⟨n,rows⟩).take m).map (Jao ⟨n,rows⟩)).length<=30:=by rw[Sb5,Tbc];omega
  have ek:((fF ⟨n,rows⟩).take (m+1)).map (Jao ⟨n,rows⟩)=((fF ⟨n,rows⟩).take m).map (Jao ⟨n,rows⟩)++[Jao ⟨n,rows⟩ (atI (fF ⟨n,rows⟩) (m:Int))]:=by rw[<- take_at hm,Tby];rfl
  have a1:(((fF ⟨n,rows⟩).take m).map (Jao ⟨n,rows⟩)).length+([(cK ⟨n,rows⟩ (atI (atI (fF ⟨n,rows⟩) (m:Int)) 0) (atI (atI (fF ⟨n,rows⟩) (m:Int)) 1)).cmd]:List oN).length<=100000000000:=by simp only[Sbw,Sbx];omega
  rw[ek]
  simp (disch:=first|assumption|omega) only[S0,rA,rQ,rB,rT,rE,aI,dK,bD,fJ,hlt]
  rfl
 ·intro hlt
  rw[Tbh]
  simp (disch:=first|assumption|omega) only[S0,rA,rQ,rB,rT,rE,hlt]
  rfl
 have e1:(jA (vH ⟨n,rows⟩) (vH ⟨n,rows⟩).length).1=vO ⟨n,rows⟩ (fF ⟨n,rows⟩).length:=by rw[hcl];rfl
 have e2:(jA (vH ⟨n,rows⟩) (vH ⟨n,rows⟩).length).2=Va5 ⟨n,rows⟩:=by rw[hcl];rfl
 simp (disch:=first|assumption|omega) only[S0,rA,rQ,rB,rT,rE,Aas,e1,e2]
 rw[bH (fF ⟨n,rows⟩).length (fun m=>[rL (Nah ⟨n,rows⟩ m),i64 m]) (.yield 3,[rL (Nah ⟨n,rows⟩ (fF ⟨n,rows⟩).length)]) rfl (by simp)]
 ·simp (disch:=first|assumption|omega) only[S0,rA,rQ,rB,rT,rE]
 ·intro m hm hlt
  have hb:InB (fF ⟨n,rows⟩) (m:Int):=aG.2 hm
  have hb2:InB (vH ⟨n,rows⟩) (m:Int):=aG.2 (by omega)
  have hb3:InB (Va5 ⟨n,rows⟩) (m:Int):=aG.2 (by omega)
  obtain⟨hi,hst,he,x0,x1⟩:=bP ht (vZ (at_mem hm))
  have c1:=Kag hm
  have c2:=Xa8 hm
  have hml:=zQ ⟨n,rows⟩ m
  have a1:(Nah ⟨n,rows⟩ m).length+([⟨atI (atI (fF ⟨n,rows⟩) (m:Int)) 0,atI (atI (fF ⟨n,rows⟩) (m:Int)) 1,Jao ⟨n,rows⟩ (atI (fF ⟨n,rows⟩) (m:Int)),(Lbs ⟨n,rows⟩ m).told⟩]:List bV).length<=100000000000:=by simp only[Sbw,Sbx];omega
  rw[Gaw]
  simp (disch:=first|assumption|omega) only[S0,rA,rQ,rB,rT,rE,aI,dK,bD,c1,c2,hlt]
  rfl
 ·intro hlt
  simp (disch:=first|assumption|omega) only[S0,rA,rQ,rB,rT,rE,hlt]
theorem qA (n:Int)(rows:List (List aY))(ht:aV ⟨n,rows⟩=true)(hs:bX rows):Fun T 111 [i64 n,rL rows,rL (fF ⟨n,rows⟩),rL ([100,100,100,100]:List Int)]=some [rL (Nah ⟨n,rows⟩ (fF ⟨n,rows⟩).length),rL (vO ⟨n,rows⟩ (fF ⟨n,rows⟩).length)]:=by
 rw[aJ (t:=Faa) rfl];unfold Faa
 have hg:bK n=true:=aQ ht
 have hol:(fF ⟨n,rows⟩).length<=30:=Tbr (rM _) (eO ht)
 have h0:(aN.mk 9 0).run []=some [rL ([]:List bV)]:=rfl
 have e0:rL ([100,100,100,100]:List Int)=rL (vO ⟨n,rows⟩ 0):=rfl
 simp (disch:=first|assumption|omega) only[S0,rA,rQ,rB,rT,rE,h0]
 rw[e0]
 rw[bH (fF ⟨n,rows⟩).length (fun m=>[rL (vO ⟨n,rows⟩ m),.undef,rL (Nah ⟨n,rows⟩ m),i64 m]) (.yield 1,[rL (vO ⟨n,rows⟩ (fF ⟨n,rows⟩).length),rL (Nah ⟨n,rows⟩ (fF ⟨n,rows⟩).length)]) rfl (by simp)]
 ·simp (disch:=first|assumption|omega) only[S0,rA,rQ,rB,rT,rE]
 ·intro m hm hlt
  have hb:InB (fF ⟨n,rows⟩) (m:Int):=aG.2 hm
  obtain⟨hi,hst,he,x0,x1⟩:=bP ht (vZ (at_mem hm))
  have hi2:inst n (atI (atI (fF ⟨n,rows⟩) (m:Int)) 0) (atI (atI (fF ⟨n,rows⟩) (m:Int)) 1)=true:=hi.2
  have hr:=bE hi2
  have hrb:InB rows (atI (atI (fF ⟨n,rows⟩) (m:Int)) 0):=bN ht hi2
  have hc:=Xas ht (at_mem hm)
  obtain⟨p1,p2⟩:=Kav ht (show m<=(fF ⟨n,rows⟩).length by omega)
  have hml:=zQ ⟨n,rows⟩ m
  rw[Gaw,Oad hm]
  unfold Lbs
  have a1:(Nah ⟨n,rows⟩ m).length+([⟨atI (atI (fF ⟨n,rows⟩) (m:Int)) 0,atI (atI (fF ⟨n,rows⟩) (m:Int)) 1,Jao ⟨n,rows⟩ (atI (fF ⟨n,rows⟩) (m:Int)),(iD (vO ⟨n,rows⟩ m) (Jao ⟨n,rows⟩ (atI (fF ⟨n,rows⟩) (m:Int)))).2⟩]:List bV).length<=100000000000:=by simp only[Sbw,Sbx];omega
  unfold Jao at hc a1 ⊢
  generalize vO ⟨n,rows⟩ m=sm at p1 p2 a1 ⊢
  generalize Nah ⟨n,rows⟩ m=en at hml a1 ⊢
  simp (disch:=first|assumption|omega) only[S0,rA,rQ,rB,rT,rE,aI,dK,bD,bA,Ha4,hlt]
 ·intro hlt
  simp (disch:=first|assumption|omega) only[S0,rA,rQ,rB,rT,rE,hlt]
theorem vB (n:Int)(rows:List (List aY))(ht:aV ⟨n,rows⟩=true)(hs:bX rows):Fun T 72 [i64 n,rL rows]=some [rL (sM ⟨n,rows⟩).1,rL (sM ⟨n,rows⟩).2]:=by
 rw[aJ (t:=Yan) rfl];unfold Yan;unfold sM
 simp (disch:=first|assumption|omega) only[S0,rA,rQ,rB,rT,rE,Bal,lI,qA]
theorem Wai (n:Int)(rows:List (List aY))(hs:bX rows):Fun T 14 [i64 n,rL rows]=some [rL (zW ⟨n,rows⟩).1,rL (zW ⟨n,rows⟩).2.1,.bool (zW ⟨n,rows⟩).2.2]:=by
 rw[aJ (t:=Za5) rfl];unfold Za5;unfold zW
 have z0:D.rows 9 []=rL ([]:List bV):=rfl
 cases ht:aV ⟨n,rows⟩
 ·simp (disch:=first|assumption|omega) only[S0,rA,rQ,rB,rT,rE,bR,ht,Aam,z0,Sbv]
 ·simp (disch:=first|assumption|omega) only[S0,rA,rQ,rB,rT,rE,bR,Aar,ht]
theorem Xac (n:Int)(rows:List (List aY))(hs:bX rows):Fun T 52 [i64 n,rL rows]=some [rL (zW ⟨n,rows⟩).1,rL (zW ⟨n,rows⟩).2.1,.bool (zW ⟨n,rows⟩).2.2]:=by
 rw[aJ (t:=Cb5) rfl];unfold Cb5;unfold zW
 have z0:D.rows 9 []=rL ([]:List bV):=rfl
 cases ht:aV ⟨n,rows⟩
 ·simp (disch:=first|assumption|omega) only[S0,rA,rQ,rB,rT,rE,bB,ht,Aam,z0,Sbv]
 ·simp (disch:=first|assumption|omega) only[S0,rA,rQ,rB,rT,rE,bB,vB,ht]
theorem law (t_n:Int)(t_rows:(List (List aY)))(hw_t:uI ⟨t_n,t_rows⟩):Fun T 0 [i64 t_n,rL t_rows]=some [.bool true]:=by
 rw[aJ (t:=tm0) rfl];unfold tm0
 by_cases c_t:((bQ ⟨t_n,t_rows⟩:Nat):Int)<=1048576
 rotate_left
 ·have e:szR (1048576) (bQ ⟨t_n,t_rows⟩)=-1:=if_neg c_t
  (refine aB ?_;repeat' (refine aA ?_ ?_<;>intro _<;>try simp (disch:=first|assumption|omega) only[S0,rA,rQ,rB,rT,rE,xJ,lt0,Qbw, *]))
 have e_t:szR (1048576) (bQ ⟨t_n,t_rows⟩)=1048576-((bQ ⟨t_n,t_rows⟩:Nat):Int):=if_pos c_t
 have s1_t:bQ ⟨t_n,t_rows⟩<=1048576:=by omega
 have s2_t:bQ ⟨t_n,t_rows⟩<=1099511627776:=by omega
 have szu_t:=s1_t
 rw[Oab]at szu_t
 simp only at szu_t
 have m1_t_rows:szL (szL aL) t_rows<=1099511627776:=by first|omega|(have h:=s2_t;rw[kN]at h;exact h)
 have m2_t_rows:ctL (ctL iH) t_rows<=1125899906842624:=by have:=Jam (c:=(ctL iH)) (f:=(szL aL)) (m:=16) (by omega) (fun xs=>Tbr (Jam (c:=iH) (f:=aL) (m:=16) (by omega) Bbe xs) (Nat.le_add_left _ _)) t_rows;omega
 have s3:bX t_rows:=Abh s1_t
 obtain⟨z1,z2⟩:=Gbg ⟨t_n,t_rows⟩
 have r1:szL (fun _=>0) (zW ⟨t_n,t_rows⟩).1<=1099511627776:=by rw[kN];omega
 have r1b:(zW ⟨t_n,t_rows⟩).1.length<=1099511627776:=by omega
 have r2:szL (fun _=>0) (zW ⟨t_n,t_rows⟩).2.1<=1099511627776:=by rw[kN];omega
 have r2b:(zW ⟨t_n,t_rows⟩).2.1.length<=1099511627776:=by omega
 have r3:ctL (fun _=>1) (zW ⟨t_n,t_rows⟩).1<=1125899906842624:=by
  have:=Jam (c:=(fun _=>1)) (f:=(fun _=>0)) (m:=16) (by omega) (fun _=>by simp) (zW ⟨t_n,t_rows⟩).1
  rw[kN]at this
  omega
 have r4:ctL iR (zW ⟨t_n,t_rows⟩).2.1<=1125899906842624:=by
  have:=Jam (c:=iR) (f:=(fun _=>0)) (m:=16) (by omega) Cbu (zW ⟨t_n,t_rows⟩).2.1
  rw[kN]at this
  omega
 (refine aB ?_;repeat' (refine aA ?_ ?_<;>intro _<;>try simp (disch:=first|assumption|omega) only[S0,rA,rQ,rB,rT,rE,xJ,Haw,Wai,Xac,Abw,Wa6,Haz,Cbb,Lbm,Wa4,Pb3,Wa5,lt0,Qbw, *]))
theorem hpure:∀ ds,WTs [.int .i64,.sl 24 [.sl 96 [.int .i64,.int .i64,.int .i64,.int .i64,.int .i64,.int .i64,.int .i64,.int .i64,.int .i64,.sl 8 [.int .i64]]]] ds->∃ n,mX T n 0 ds=some [.bool true]:=by
 intro ds h
 simp only[WTs]at h
 obtain⟨d0,r0,rfl,w0,d1,r1,rfl,w1,rfl⟩:=h
 obtain⟨t,e_t,hw_t⟩:=Oa9 [d0,d1] (by simp only[WTs];exact⟨_,_,rfl,w0,_,_,rfl,w1,rfl⟩)
 simp only[Enc.enc,List.cons.injEq,and_true]at e_t
 obtain⟨rfl,rfl⟩:=e_t
 exact Wa0 (law (t.n) (t.rows) hw_t)
end FnExactBookOf
end Go.Proofs.YtpgnlmfmlffjcaaGreat
