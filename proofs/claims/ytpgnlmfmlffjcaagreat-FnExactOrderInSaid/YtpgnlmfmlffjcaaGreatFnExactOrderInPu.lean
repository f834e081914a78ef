/- What the terms of FnExactOrderIn come to. -/
import Derived.Test.YtpgnlmfmlffjcaaGreatFnExactOrderInTab
open Bool renaming and_eq_true → Mby, false_eq_true → Mb6, not_eq_true' → Nbp, or_eq_true → Oba, beq_eq_decide_eq → Pba, not_true → Pbl, or_false → Pbn, and_true → Pbr, eq_iff_iff → Pb3, or_true → Pb6, and_assoc → Pb8
open Int renaming toNat_natCast → Obb
open List renaming length_append → Mb2, append_assoc → Mb7, mem_singleton → Mb9, length_map → Nbb, length_cons → Nbc, replicate → Nbg, length_nil → Nbj, append_nil → Nbo, length_take → Nbr, take_length → Nb0, nil_append → Nb5, length_drop → Obc, length_replicate → Obh, map_append → Obo, length_filter_le → Obq, filter_append → Obr, drop_eq_getElem_cons → Obs, filter_nil → Ob0, filter_cons_of_neg → Ob2, length_set → Pbe, filter_cons_of_pos → Pbf, length_pos_of_mem → Pbh
open Nat renaming le_refl → Nbd, lt_or_ge → Nbk, le_trans → Nb4, zero_le → Obu
namespace Go.Proofs.YtpgnlmfmlffjcaaGreat
namespace FnExactOrderIn
open Go Go.Proofs.YtpgnlmfmlffjcaaGreat.Rf
open Nat renaming reduceAdd → rA, reduceEqDiff → rQ
open Int renaming reduceBEq → rB, reduceLT → rT, reduceLE → rE
set_option linter.unusedSimpArgs false
set_option linter.unusedVariables false
set_option linter.unnecessarySimpa false
set_option maxHeartbeats 4000000
set_option maxRecDepth 10000
theorem Yav (x_kind x_id x_src x_dst x_amt : Int) : Fun T 11 [i64 x_kind, i64 x_id, i64 x_src, i64 x_dst, i64 x_amt] = some [i64 x_kind, i64 x_id, i64 x_src, i64 x_dst, i64 x_amt] := by
 rw [aW (t := Hbs) rfl]; unfold Hbs
 (refine aF ?_; repeat' (refine aG ?_ ?_<;>intro _<;>try simp (disch := first|assumption|omega) only [S0,rA,rQ,rB,rT,rE, *]))
theorem Yax (x_kind x_id x_src x_dst x_amt : Int) (y_kind y_id y_src y_dst y_amt : Int) : Fun T 108 [i64 x_kind, i64 x_id, i64 x_src, i64 x_dst, i64 x_amt, i64 y_kind, i64 y_id, i64 y_src, i64 y_dst, i64 y_amt] = some [.bool (decide ((⟨x_kind, x_id, x_src, x_dst, x_amt⟩ : Baz) = ⟨y_kind, y_id, y_src, y_dst, y_amt⟩))] := by
 rw [aW (t := Xa1) rfl]; unfold Xa1
 have e : decide ((⟨x_kind, x_id, x_src, x_dst, x_amt⟩ : Baz) = ⟨y_kind, y_id, y_src, y_dst, y_amt⟩) = ((x_kind == y_kind) && (x_id == y_id) && (x_src == y_src) && (x_dst == y_dst) && (x_amt == y_amt)) := by
  simp only [Baz.mk.injEq, Pba, Bool.decide_and, Pb8]
 rw [e]
 (refine aF ?_; repeat' (refine aG ?_ ?_<;>intro _<;>try simp (disch := first|assumption|omega) only [S0,rA,rQ,rB,rT,rE, *]))
theorem Abp (xs : (List Int)) (l : Int) (h0 : 0 <= l) (h1 : l <= 1048576) (hw : xs.length <= 140737488351232) : Fun T 6 [rL xs, i64 l] = some [i64 (szR l (szL (fun _ => 0) xs))] := by
 rw [aW (t := tm6) rfl]; unfold tm6
 have es : szL (fun _ => 0) xs = xs.length := nP
 rw [es]
 by_cases c : (xs.length : Int) <= l
 ·have e : szR l xs.length = l - xs.length := if_pos c
  have d : decide (l - (xs.length : Int) < 0) = false := by simp; omega
  (refine aF ?_; repeat' (refine aG ?_ ?_<;>intro _<;>try simp (disch := first|assumption|omega) only [S0,rA,rQ,rB,rT,rE, *]))
 ·have e : szR l xs.length = -1 := if_neg c
  have d : decide (l - (xs.length : Int) < 0) = true := by simp; omega
  (refine aF ?_; repeat' (refine aG ?_ ?_<;>intro _<;>try simp (disch := first|assumption|omega) only [S0,rA,rQ,rB,rT,rE, *]))
theorem Ebm (xs : (List Int)) (hs : szL (fun _ => 0) xs <= 1048576) : Fun T 13 [rL xs] = some [rL xs] := by
 rw [aW (t := Hbq) rfl]; unfold Hbq
 have hl : xs.length <= 1048576 := Nb4 jH hs
 simp (disch := first|assumption|omega) only [S0,rA,rQ,rB,rT,rE, Fa4, Obb, *]
 rw [Tax xs rfl]
 ·(refine aF ?_; repeat' (refine aG ?_ ?_<;>intro _<;>try simp (disch := first|assumption|omega) only [S0,rA,rQ,rB,rT,rE, *]))
 ·intro i ys hi hb hb' hl'
  (refine aF ?_; repeat' (refine aG ?_ ?_<;>intro _<;>try simp (disch := first|assumption|omega) only [S0,rA,rQ,rB,rT,rE,aS,Daa, *]))
 ·intro ys hl'
  (refine aF ?_; repeat' (refine aG ?_ ?_<;>intro _<;>try simp (disch := first|assumption|omega) only [S0,rA,rQ,rB,rT,rE, *]))
theorem Vab (xs ys : (List Int)) (hs : szL (fun _ => 0) xs <= 1099511627776) : Fun T 103 [rL xs, rL ys] = some [.bool (decide (xs = ys))] := by
 rw [aW (t := Xa6) rfl]; unfold Xa6
 have hx : xs.length <= 1099511627776 := Nb4 jH hs
 by_cases hl : ys.length = xs.length
 ·simp (disch := first|assumption|omega) only [S0,rA,rQ,rB,rT,rE, *]
  rw [Oal 1 xs.length (fun i => decide (atI xs i = atI ys i)) [.bool false], Bay hl.symm]
  ·(refine aF ?_; repeat' (refine aG ?_ ?_<;>intro _<;>try simp (disch := first|assumption|omega) only [S0,rA,rQ,rB,rT,rE, *]))
  ·intro i hi hp
   have hb : InB xs (i : Int) := aM.2 hi
   have hb' : InB ys (i : Int) := aM.2 (by omega)
   have h2 : decide ((i : Int) < xs.length) = true := by simp; omega
   have h3 : (atI xs i == atI ys i) = true := by simpa using hp
   (refine aF ?_; repeat' (refine aG ?_ ?_<;>intro _<;>try simp (disch := first|assumption|omega) only [S0,rA,rQ,rB,rT,rE,aS, *]))
  ·intro i hi hp
   have hb : InB xs (i : Int) := aM.2 hi
   have hb' : InB ys (i : Int) := aM.2 (by omega)
   have h2 : decide ((i : Int) < xs.length) = true := by simp; omega
   have h3 : (atI xs i == atI ys i) = false := by simpa using hp
   (refine aF ?_; repeat' (refine aG ?_ ?_<;>intro _<;>try simp (disch := first|assumption|omega) only [S0,rA,rQ,rB,rT,rE,aS, *]))
  ·have h2 : decide ((xs.length : Int) < xs.length) = false := by simp
   (refine aF ?_; repeat' (refine aG ?_ ?_<;>intro _<;>try simp (disch := first|assumption|omega) only [S0,rA,rQ,rB,rT,rE, *]))
 ·have hl' : ((xs.length : Int) == (ys.length : Int)) = false := by simp; omega
  have e := Ha8 (fun h => hl h.symm)
  (refine aF ?_; repeat' (refine aG ?_ ?_<;>intro _<;>try simp (disch := first|assumption|omega) only [S0,rA,rQ,rB,rT,rE, *]))
theorem Abq (xs : (List Int)) (k : Int) (hk : 0 <= k) (hb : k + (ctL (fun _ => 1) xs : Nat) <= 1152921504606846976) (hl : xs.length <= 1099511627776) : Fun T 113 [rL xs, i64 k] = some [i64 (k + (ctL (fun _ => 1) xs : Nat)), rL (mkL (fun _ => 1) (fun _ k => k) xs k)] := by
 rw [aW (t := Xaw) rfl]; unfold Xaw
 have hx : xs.length <= 1099511627776 := hl
 simp (disch := first|assumption|omega) only [S0,rA,rQ,rB,rT,rE, *]
 rw [Dak xs (fun _ => 1) (fun _ k => k) k rfl rfl rfl hk hb ?_ ?_ (by omega)]
 ·(refine aF ?_; repeat' (refine aG ?_ ?_<;>intro _<;>try simp (disch := first|assumption|omega) only [S0,rA,rQ,rB,rT,rE, *]))
 ·intro i ys m hi hy hb hlt hat hm hc hlen
  have hc' : m + 1 <= 1152921504606846976 := hc
  (refine aF ?_; repeat' (refine aG ?_ ?_<;>intro _<;>try simp (disch := first|assumption|omega|(simp only [sO]; assumption)) only [S0,rA,rQ,rB,rT,rE,aS,Daa,sO, *]))
  rfl
 ·intro ys m hy hlt
  (refine aF ?_; repeat' (refine aG ?_ ?_<;>intro _<;>try simp (disch := first|assumption|omega) only [S0,rA,rQ,rB,rT,rE, *]))
theorem Ebn (xs : (List Int)) (k : Int) (hk : 0 <= k) (hb : k + (ctL (fun _ => 1) xs : Nat) <= 1152921504606846976) (hl : xs.length <= 1099511627776) : Fun T 116 [rL (mkL (fun _ => 1) (fun _ k => k) xs k), i64 k] = some [i64 (k + (ctL (fun _ => 1) xs : Nat))] := by
 rw [aW (t := Xat) rfl]; unfold Xat
 have hx : xs.length <= 1099511627776 := hl
 simp (disch := first|assumption|omega) only [S0,rA,rQ,rB,rT,rE, *]
 rw [Qaz xs (fun _ => 1) (fun _ k => k) k rfl hk hb (by omega)]
 ·(refine aF ?_; repeat' (refine aG ?_ ?_<;>intro _<;>try simp (disch := first|assumption|omega) only [S0,rA,rQ,rB,rT,rE, *]))
 ·intro i m hi hb hy hlt hat hm hc hlen
  have hc' : m + 1 <= 1152921504606846976 := hc
  (refine aF ?_; repeat' (refine aG ?_ ?_<;>intro _<;>try simp (disch := first|assumption|omega) only [S0,rA,rQ,rB,rT,rE,aS, *]))
  rfl
 ·intro m hy hlt
  (refine aF ?_; repeat' (refine aG ?_ ?_<;>intro _<;>try simp (disch := first|assumption|omega) only [S0,rA,rQ,rB,rT,rE, *]))
theorem La5 (x_seq : Int) (x_deps : (List Int)) (l : Int) (h0 : 0 <= l) (h1 : l <= 1048576) (hw : Iao ⟨x_seq, x_deps⟩) : Fun T 5 [i64 x_seq, rL x_deps, i64 l] = some [i64 (szR l (dL ⟨x_seq, x_deps⟩))] := by
 rw [aW (t := tm5) rfl]; unfold tm5
 unfold Iao at hw
 simp only at hw
 have w0 := hw
 by_cases c0 : ((szL (fun _ => 0) x_deps : Nat) : Int) <= l
 rotate_left
 ·have e0 : szR (l) (szL (fun _ => 0) x_deps) = -1 := if_neg c0
  have d0 : decide ((-1 : Int) < 0) = true := rfl
  have e : szR l (dL ⟨x_seq, x_deps⟩) = -1 := by unfold szR dL; simp only []; split <;> omega
  (refine aF ?_; repeat' (refine aG ?_ ?_<;>intro _<;>try simp (disch := first|assumption|omega) only [S0,rA,rQ,rB,rT,rE,Abp, *]))
 have e0 : szR (l) (szL (fun _ => 0) x_deps) = l - (szL (fun _ => 0) x_deps : Nat) := if_pos c0
 have d0 : decide (l - ((szL (fun _ => 0) x_deps : Nat) : Int) < 0) = false := by simp; omega
 have e : szR l (dL ⟨x_seq, x_deps⟩) = l - ((szL (fun _ => 0) x_deps : Nat) : Int) := by unfold szR dL; simp only []; split <;> omega
 (refine aF ?_; repeat' (refine aG ?_ ?_<;>intro _<;>try simp (disch := first|assumption|omega) only [S0,rA,rQ,rB,rT,rE,Abp, *]))
theorem Ua4 (x_seq : Int) (x_deps : (List Int)) (hs : dL ⟨x_seq, x_deps⟩ <= 1048576) : Fun T 12 [i64 x_seq, rL x_deps] = some [i64 x_seq, rL x_deps] := by
 rw [aW (t := Hbr) rfl]; unfold Hbr
 unfold dL at hs
 simp only at hs
 have s0 : szL (fun _ => 0) x_deps <= 1048576 := by omega
 (refine aF ?_; repeat' (refine aG ?_ ?_<;>intro _<;>try simp (disch := first|assumption|omega) only [S0,rA,rQ,rB,rT,rE,Ebm, *]))
theorem Vaa (x_seq : Int) (x_deps : (List Int)) (y_seq : Int) (y_deps : (List Int)) (hs : dL ⟨x_seq, x_deps⟩ <= 1099511627776) : Fun T 109 [i64 x_seq, rL x_deps, i64 y_seq, rL y_deps] = some [.bool (decide ((⟨x_seq, x_deps⟩ : lG) = ⟨y_seq, y_deps⟩))] := by
 rw [aW (t := Xa0) rfl]; unfold Xa0
 unfold dL at hs
 simp only at hs
 have s0 : szL (fun _ => 0) x_deps <= 1099511627776 := by omega
 have e : decide ((⟨x_seq, x_deps⟩ : lG) = ⟨y_seq, y_deps⟩) = ((x_seq == y_seq) && decide ((x_deps : (List Int)) = y_deps)) := by
  simp only [lG.mk.injEq, Pba, Bool.decide_and, Pb8]
 rw [e]
 (refine aF ?_; repeat' (refine aG ?_ ?_<;>intro _<;>try simp (disch := first|assumption|omega) only [S0,rA,rQ,rB,rT,rE,Vab, *]))
theorem Qat (x_ballot x_vote x_state x_cmd_kind x_cmd_id x_cmd_src x_cmd_dst x_cmd_amt x_attr_seq : Int) (x_attr_deps : (List Int)) (l : Int) (h0 : 0 <= l) (h1 : l <= 1048576) (hw : pX ⟨x_ballot, x_vote, x_state, ⟨x_cmd_kind, x_cmd_id, x_cmd_src, x_cmd_dst, x_cmd_amt⟩, ⟨x_attr_seq, x_attr_deps⟩⟩) : Fun T 4 [i64 x_ballot, i64 x_vote, i64 x_state, i64 x_cmd_kind, i64 x_cmd_id, i64 x_cmd_src, i64 x_cmd_dst, i64 x_cmd_amt, i64 x_attr_seq, rL x_attr_deps, i64 l] = some [i64 (szR l (aN ⟨x_ballot, x_vote, x_state, ⟨x_cmd_kind, x_cmd_id, x_cmd_src, x_cmd_dst, x_cmd_amt⟩, ⟨x_attr_seq, x_attr_deps⟩⟩))] := by
 rw [aW (t := tm4) rfl]; unfold tm4
 unfold pX at hw
 simp only at hw
 have w0 := hw
 by_cases c0 : ((dL ⟨x_attr_seq, x_attr_deps⟩ : Nat) : Int) <= l
 rotate_left
 ·have e0 : szR (l) (dL ⟨x_attr_seq, x_attr_deps⟩) = -1 := if_neg c0
  have d0 : decide ((-1 : Int) < 0) = true := rfl
  have e : szR l (aN ⟨x_ballot, x_vote, x_state, ⟨x_cmd_kind, x_cmd_id, x_cmd_src, x_cmd_dst, x_cmd_amt⟩, ⟨x_attr_seq, x_attr_deps⟩⟩) = -1 := by unfold szR aN; simp only []; split <;> omega
  (refine aF ?_; repeat' (refine aG ?_ ?_<;>intro _<;>try simp (disch := first|assumption|omega) only [S0,rA,rQ,rB,rT,rE,La5, *]))
 have e0 : szR (l) (dL ⟨x_attr_seq, x_attr_deps⟩) = l - (dL ⟨x_attr_seq, x_attr_deps⟩ : Nat) := if_pos c0
 have d0 : decide (l - ((dL ⟨x_attr_seq, x_attr_deps⟩ : Nat) : Int) < 0) = false := by simp; omega
 have e : szR l (aN ⟨x_ballot, x_vote, x_state, ⟨x_cmd_kind, x_cmd_id, x_cmd_src, x_cmd_dst, x_cmd_amt⟩, ⟨x_attr_seq, x_attr_deps⟩⟩) = l - ((dL ⟨x_attr_seq, x_attr_deps⟩ : Nat) : Int) := by unfold szR aN; simp only []; split <;> omega
 (refine aF ?_; repeat' (refine aG ?_ ?_<;>intro _<;>try simp (disch := first|assumption|omega) only [S0,rA,rQ,rB,rT,rE,La5, *]))
theorem Yau (x_ballot x_vote x_state x_cmd_kind x_cmd_id x_cmd_src x_cmd_dst x_cmd_amt x_attr_seq : Int) (x_attr_deps : (List Int)) (hs : aN ⟨x_ballot, x_vote, x_state, ⟨x_cmd_kind, x_cmd_id, x_cmd_src, x_cmd_dst, x_cmd_amt⟩, ⟨x_attr_seq, x_attr_deps⟩⟩ <= 1048576) : Fun T 10 [i64 x_ballot, i64 x_vote, i64 x_state, i64 x_cmd_kind, i64 x_cmd_id, i64 x_cmd_src, i64 x_cmd_dst, i64 x_cmd_amt, i64 x_attr_seq, rL x_attr_deps] = some [i64 x_ballot, i64 x_vote, i64 x_state, i64 x_cmd_kind, i64 x_cmd_id, i64 x_cmd_src, i64 x_cmd_dst, i64 x_cmd_amt, i64 x_attr_seq, rL x_attr_deps] := by
 rw [aW (t := Hbt) rfl]; unfold Hbt
 unfold aN at hs
 simp only at hs
 have s0 : dL ⟨x_attr_seq, x_attr_deps⟩ <= 1048576 := by omega
 (refine aF ?_; repeat' (refine aG ?_ ?_<;>intro _<;>try simp (disch := first|assumption|omega) only [S0,rA,rQ,rB,rT,rE,Yav,Ua4, *]))
theorem Qau (x_ballot x_vote x_state x_cmd_kind x_cmd_id x_cmd_src x_cmd_dst x_cmd_amt x_attr_seq : Int) (x_attr_deps : (List Int)) (y_ballot y_vote y_state y_cmd_kind y_cmd_id y_cmd_src y_cmd_dst y_cmd_amt y_attr_seq : Int) (y_attr_deps : (List Int)) (hs : aN ⟨x_ballot, x_vote, x_state, ⟨x_cmd_kind, x_cmd_id, x_cmd_src, x_cmd_dst, x_cmd_amt⟩, ⟨x_attr_seq, x_attr_deps⟩⟩ <= 1099511627776) : Fun T 107 [i64 x_ballot, i64 x_vote, i64 x_state, i64 x_cmd_kind, i64 x_cmd_id, i64 x_cmd_src, i64 x_cmd_dst, i64 x_cmd_amt, i64 x_attr_seq, rL x_attr_deps, i64 y_ballot, i64 y_vote, i64 y_state, i64 y_cmd_kind, i64 y_cmd_id, i64 y_cmd_src, i64 y_cmd_dst, i64 y_cmd_amt, i64 y_attr_seq, rL y_attr_deps] = some [.bool (decide ((⟨x_ballot, x_vote, x_state, ⟨x_cmd_kind, x_cmd_id, x_cmd_src, x_cmd_dst, x_cmd_amt⟩, ⟨x_attr_seq, x_attr_deps⟩⟩ : bH) = ⟨y_ballot, y_vote, y_state, ⟨y_cmd_kind, y_cmd_id, y_cmd_src, y_cmd_dst, y_cmd_amt⟩, ⟨y_attr_seq, y_attr_deps⟩⟩))] := by
 rw [aW (t := Xa2) rfl]; unfold Xa2
 unfold aN at hs
 simp only at hs
 have s0 : dL ⟨x_attr_seq, x_attr_deps⟩ <= 1099511627776 := by omega
 have e : decide ((⟨x_ballot, x_vote, x_state, ⟨x_cmd_kind, x_cmd_id, x_cmd_src, x_cmd_dst, x_cmd_amt⟩, ⟨x_attr_seq, x_attr_deps⟩⟩ : bH) = ⟨y_ballot, y_vote, y_state, ⟨y_cmd_kind, y_cmd_id, y_cmd_src, y_cmd_dst, y_cmd_amt⟩, ⟨y_attr_seq, y_attr_deps⟩⟩) = ((x_ballot == y_ballot) && (x_vote == y_vote) && (x_state == y_state) && decide ((⟨x_cmd_kind, x_cmd_id, x_cmd_src, x_cmd_dst, x_cmd_amt⟩ : Baz) = ⟨y_cmd_kind, y_cmd_id, y_cmd_src, y_cmd_dst, y_cmd_amt⟩) && decide ((⟨x_attr_seq, x_attr_deps⟩ : lG) = ⟨y_attr_seq, y_attr_deps⟩)) := by
  simp only [bH.mk.injEq, Pba, Bool.decide_and, Pb8]
 rw [e]
 (refine aF ?_; repeat' (refine aG ?_ ?_<;>intro _<;>try simp (disch := first|assumption|omega) only [S0,rA,rQ,rB,rT,rE,Yax,Vaa, *]))
theorem La6 (xs : (List bH)) (l : Int) (h0 : 0 <= l) (h1 : l <= 1048576) (hw : xs.length <= 140737488351232 /\ ∀ y0 ∈ xs, pX y0) : Fun T 3 [rL xs, i64 l] = some [i64 (szR l (szL aN xs))] := by
 rw [aW (t := tm3) rfl]; unfold tm3
 obtain ⟨hw1, hw2⟩ := hw
 by_cases c : (xs.length : Int) <= l
 ·have d : decide (l - (xs.length : Int) < 0) = false := by simp; omega
  simp (disch := first|assumption|omega) only [S0,rA,rQ,rB,rT,rE, *]
  rw [Abg xs aN (l - xs.length) rfl (by omega) (by omega)]
  ·by_cases hd : ((xs.map aN).sum : Int) <= l - xs.length
   ·have e : szR l (szL aN xs) = l - xs.length - ((xs.map aN).sum : Nat) := by unfold szR; rw [show (szL aN xs) = xs.length + (xs.map aN).sum from rfl, if_pos (by omega)]; omega
    rw [decide_eq_true hd]
    (refine aF ?_; repeat' (refine aG ?_ ?_<;>intro _<;>try simp (disch := first|assumption|omega) only [S0,rA,rQ,rB,rT,rE, *]))
   ·have e : szR l (szL aN xs) = -1 := by unfold szR; rw [show (szL aN xs) = xs.length + (xs.map aN).sum from rfl, if_neg (by omega)]
    rw [decide_eq_false hd]
    (refine aF ?_; repeat' (refine aG ?_ ?_<;>intro _<;>try simp (disch := first|assumption|omega) only [S0,rA,rQ,rB,rT,rE, *]))
  ·intro i m hi hb hl hm hm' hf hr hd
   have hq := hw2 _ (at_mem hi)
   (refine aF ?_; repeat' (refine aG ?_ ?_<;>intro _<;>try simp (disch := first|assumption|omega) only [S0,rA,rQ,rB,rT,rE,aS,Qat, *]))
  ·intro i m hi hb hl hm hm' hf hr hd
   have hq := hw2 _ (at_mem hi)
   (refine aF ?_; repeat' (refine aG ?_ ?_<;>intro _<;>try simp (disch := first|assumption|omega) only [S0,rA,rQ,rB,rT,rE,aS,Qat, *]))
  ·intro m hl
   (refine aF ?_; repeat' (refine aG ?_ ?_<;>intro _<;>try simp (disch := first|assumption|omega) only [S0,rA,rQ,rB,rT,rE, *]))
 ·have e : szR l (szL aN xs) = -1 := by unfold szR; rw [show (szL aN xs) = xs.length + (xs.map aN).sum from rfl, if_neg (by omega)]
  have d : decide (l - (xs.length : Int) < 0) = true := by simp; omega
  (refine aF ?_; repeat' (refine aG ?_ ?_<;>intro _<;>try simp (disch := first|assumption|omega) only [S0,rA,rQ,rB,rT,rE, *]))
theorem Ua5 (xs : (List bH)) (hs : szL aN xs <= 1048576) : Fun T 9 [rL xs] = some [rL xs] := by
 rw [aW (t := tm9) rfl]; unfold tm9
 have hl : xs.length <= 1048576 := Nb4 jH hs
 simp (disch := first|assumption|omega) only [S0,rA,rQ,rB,rT,rE, Fa4, Obb, *]
 rw [Tax xs rfl]
 ·(refine aF ?_; repeat' (refine aG ?_ ?_<;>intro _<;>try simp (disch := first|assumption|omega) only [S0,rA,rQ,rB,rT,rE, *]))
 ·intro i ys hi hb hb' hl'
  have hq : aN (atI xs i) <= 1048576 := by
   have := jG (f := aN) (at_mem hi)
   omega
  (refine aF ?_; repeat' (refine aG ?_ ?_<;>intro _<;>try simp (disch := first|assumption|omega) only [S0,rA,rQ,rB,rT,rE,aS,Daa,Yau, *]))
 ·intro ys hl'
  (refine aF ?_; repeat' (refine aG ?_ ?_<;>intro _<;>try simp (disch := first|assumption|omega) only [S0,rA,rQ,rB,rT,rE, *]))
theorem La9 (xs ys : (List bH)) (hs : szL aN xs <= 1099511627776) : Fun T 106 [rL xs, rL ys] = some [.bool (decide (xs = ys))] := by
 rw [aW (t := Xa3) rfl]; unfold Xa3
 have hx : xs.length <= 1099511627776 := Nb4 jH hs
 by_cases hl : ys.length = xs.length
 ·simp (disch := first|assumption|omega) only [S0,rA,rQ,rB,rT,rE, *]
  rw [Oal 1 xs.length (fun i => decide (atI xs i = atI ys i)) [.bool false], Bay hl.symm]
  ·(refine aF ?_; repeat' (refine aG ?_ ?_<;>intro _<;>try simp (disch := first|assumption|omega) only [S0,rA,rQ,rB,rT,rE, *]))
  ·intro i hi hp
   have hb : InB xs (i : Int) := aM.2 hi
   have hb' : InB ys (i : Int) := aM.2 (by omega)
   have h2 : decide ((i : Int) < xs.length) = true := by simp; omega
   have hq : aN (atI xs i) <= 1099511627776 := by
    have := jG (f := aN) (at_mem hi)
    omega
   (refine aF ?_; repeat' (refine aG ?_ ?_<;>intro _<;>try simp (disch := first|assumption|omega) only [S0,rA,rQ,rB,rT,rE,aS,Qau, *]))
  ·intro i hi hp
   have hb : InB xs (i : Int) := aM.2 hi
   have hb' : InB ys (i : Int) := aM.2 (by omega)
   have h2 : decide ((i : Int) < xs.length) = true := by simp; omega
   have hq : aN (atI xs i) <= 1099511627776 := by
    have := jG (f := aN) (at_mem hi)
    omega
   (refine aF ?_; repeat' (refine aG ?_ ?_<;>intro _<;>try simp (disch := first|assumption|omega) only [S0,rA,rQ,rB,rT,rE,aS,Qau, *]))
  ·have h2 : decide ((xs.length : Int) < xs.length) = false := by simp
   (refine aF ?_; repeat' (refine aG ?_ ?_<;>intro _<;>try simp (disch := first|assumption|omega) only [S0,rA,rQ,rB,rT,rE, *]))
 ·have hl' : ((xs.length : Int) == (ys.length : Int)) = false := by simp; omega
  have e := Ha8 (fun h => hl h.symm)
  (refine aF ?_; repeat' (refine aG ?_ ?_<;>intro _<;>try simp (disch := first|assumption|omega) only [S0,rA,rQ,rB,rT,rE, *]))
theorem Ua8 (xs : (List bH)) (k : Int) (hk : 0 <= k) (hb : k + (ctL fC xs : Nat) <= 1152921504606846976) (hl : szL aN xs <= 1099511627776) : Fun T 112 [rL xs, i64 k] = some [i64 (k + (ctL fC xs : Nat)), rL (mkL fC Bad xs k)] := by
 rw [aW (t := Xax) rfl]; unfold Xax
 have hx : xs.length <= 1099511627776 := Nb4 jH hl
 simp (disch := first|assumption|omega) only [S0,rA,rQ,rB,rT,rE, *]
 rw [Dak xs fC Bad k rfl rfl rfl hk hb ?_ ?_ (by omega)]
 ·(refine aF ?_; repeat' (refine aG ?_ ?_<;>intro _<;>try simp (disch := first|assumption|omega) only [S0,rA,rQ,rB,rT,rE, *]))
 ·intro i ys m hi hy hb hlt hat hm hc hlen
  have ec : m + 1 + 1 + 1 + 1 + 1 + 1 + 1 + 1 + 1 + (ctL (fun _ => 1) (atI xs (i : Int)).attr.deps : Nat) = m + (fC (atI xs i) : Nat) := by rw [Ja3]; omega
  have hq : aN (atI xs i) <= 1099511627776 := by
   have := jG (f := aN) (at_mem hi)
   omega
  rw [Pa4] at hq
  rw [Ja3] at hc
  have hl__attr_deps : (atI xs i).attr.deps.length <= 1099511627776 := by omega
  (refine aF ?_; repeat' (refine aG ?_ ?_<;>intro _<;>try simp (disch := first|assumption|omega|(simp only [sO]; assumption)) only [S0,rA,rQ,rB,rT,rE,aS,Daa,sO,Abq, *]))
  all_goals (try simp only [Bad, ec])
 ·intro ys m hy hlt
  (refine aF ?_; repeat' (refine aG ?_ ?_<;>intro _<;>try simp (disch := first|assumption|omega) only [S0,rA,rQ,rB,rT,rE, *]))
theorem Hax (xs : (List (List bH))) (l : Int) (h0 : 0 <= l) (h1 : l <= 1048576) (hw : xs.length <= 140737488351232 /\ ∀ y0 ∈ xs, y0.length <= 140737488351232 /\ ∀ y1 ∈ y0, pX y1) : Fun T 2 [rL xs, i64 l] = some [i64 (szR l (szL (szL aN) xs))] := by
 rw [aW (t := tm2) rfl]; unfold tm2
 obtain ⟨hw1, hw2⟩ := hw
 by_cases c : (xs.length : Int) <= l
 ·have d : decide (l - (xs.length : Int) < 0) = false := by simp; omega
  simp (disch := first|assumption|omega) only [S0,rA,rQ,rB,rT,rE, *]
  rw [Abg xs (szL aN) (l - xs.length) rfl (by omega) (by omega)]
  ·by_cases hd : ((xs.map (szL aN)).sum : Int) <= l - xs.length
   ·have e : szR l (szL (szL aN) xs) = l - xs.length - ((xs.map (szL aN)).sum : Nat) := by unfold szR; rw [show (szL (szL aN) xs) = xs.length + (xs.map (szL aN)).sum from rfl, if_pos (by omega)]; omega
    rw [decide_eq_true hd]
    (refine aF ?_; repeat' (refine aG ?_ ?_<;>intro _<;>try simp (disch := first|assumption|omega) only [S0,rA,rQ,rB,rT,rE, *]))
   ·have e : szR l (szL (szL aN) xs) = -1 := by unfold szR; rw [show (szL (szL aN) xs) = xs.length + (xs.map (szL aN)).sum from rfl, if_neg (by omega)]
    rw [decide_eq_false hd]
    (refine aF ?_; repeat' (refine aG ?_ ?_<;>intro _<;>try simp (disch := first|assumption|omega) only [S0,rA,rQ,rB,rT,rE, *]))
  ·intro i m hi hb hl hm hm' hf hr hd
   have hq := hw2 _ (at_mem hi)
   (refine aF ?_; repeat' (refine aG ?_ ?_<;>intro _<;>try simp (disch := first|assumption|omega) only [S0,rA,rQ,rB,rT,rE,aS,La6, *]))
  ·intro i m hi hb hl hm hm' hf hr hd
   have hq := hw2 _ (at_mem hi)
   (refine aF ?_; repeat' (refine aG ?_ ?_<;>intro _<;>try simp (disch := first|assumption|omega) only [S0,rA,rQ,rB,rT,rE,aS,La6, *]))
  ·intro m hl
   (refine aF ?_; repeat' (refine aG ?_ ?_<;>intro _<;>try simp (disch := first|assumption|omega) only [S0,rA,rQ,rB,rT,rE, *]))
 ·have e : szR l (szL (szL aN) xs) = -1 := by unfold szR; rw [show (szL (szL aN) xs) = xs.length + (xs.map (szL aN)).sum from rfl, if_neg (by omega)]
  have d : decide (l - (xs.length : Int) < 0) = true := by simp; omega
  (refine aF ?_; repeat' (refine aG ?_ ?_<;>intro _<;>try simp (disch := first|assumption|omega) only [S0,rA,rQ,rB,rT,rE, *]))
theorem Sai (xs : (List (List bH))) (hs : szL (szL aN) xs <= 1048576) : Fun T 8 [rL xs] = some [rL xs] := by
 rw [aW (t := tm8) rfl]; unfold tm8
 have hl : xs.length <= 1048576 := Nb4 jH hs
 simp (disch := first|assumption|omega) only [S0,rA,rQ,rB,rT,rE, Fa4, Obb, *]
 rw [Tax xs rfl]
 ·(refine aF ?_; repeat' (refine aG ?_ ?_<;>intro _<;>try simp (disch := first|assumption|omega) only [S0,rA,rQ,rB,rT,rE, *]))
 ·intro i ys hi hb hb' hl'
  have hq : szL aN (atI xs i) <= 1048576 := by
   have := jG (f := (szL aN)) (at_mem hi)
   omega
  (refine aF ?_; repeat' (refine aG ?_ ?_<;>intro _<;>try simp (disch := first|assumption|omega) only [S0,rA,rQ,rB,rT,rE,aS,Daa,Ua5, *]))
 ·intro ys hl'
  (refine aF ?_; repeat' (refine aG ?_ ?_<;>intro _<;>try simp (disch := first|assumption|omega) only [S0,rA,rQ,rB,rT,rE, *]))
theorem Sam (xs ys : (List (List bH))) (hs : szL (szL aN) xs <= 1099511627776) : Fun T 105 [rL xs, rL ys] = some [.bool (decide (xs = ys))] := by
 rw [aW (t := Xa4) rfl]; unfold Xa4
 have hx : xs.length <= 1099511627776 := Nb4 jH hs
 by_cases hl : ys.length = xs.length
 ·simp (disch := first|assumption|omega) only [S0,rA,rQ,rB,rT,rE, *]
  rw [Oal 1 xs.length (fun i => decide (atI xs i = atI ys i)) [.bool false], Bay hl.symm]
  ·(refine aF ?_; repeat' (refine aG ?_ ?_<;>intro _<;>try simp (disch := first|assumption|omega) only [S0,rA,rQ,rB,rT,rE, *]))
  ·intro i hi hp
   have hb : InB xs (i : Int) := aM.2 hi
   have hb' : InB ys (i : Int) := aM.2 (by omega)
   have h2 : decide ((i : Int) < xs.length) = true := by simp; omega
   have hq : szL aN (atI xs i) <= 1099511627776 := by
    have := jG (f := (szL aN)) (at_mem hi)
    omega
   (refine aF ?_; repeat' (refine aG ?_ ?_<;>intro _<;>try simp (disch := first|assumption|omega) only [S0,rA,rQ,rB,rT,rE,aS,La9, *]))
  ·intro i hi hp
   have hb : InB xs (i : Int) := aM.2 hi
   have hb' : InB ys (i : Int) := aM.2 (by omega)
   have h2 : decide ((i : Int) < xs.length) = true := by simp; omega
   have hq : szL aN (atI xs i) <= 1099511627776 := by
    have := jG (f := (szL aN)) (at_mem hi)
    omega
   (refine aF ?_; repeat' (refine aG ?_ ?_<;>intro _<;>try simp (disch := first|assumption|omega) only [S0,rA,rQ,rB,rT,rE,aS,La9, *]))
  ·have h2 : decide ((xs.length : Int) < xs.length) = false := by simp
   (refine aF ?_; repeat' (refine aG ?_ ?_<;>intro _<;>try simp (disch := first|assumption|omega) only [S0,rA,rQ,rB,rT,rE, *]))
 ·have hl' : ((xs.length : Int) == (ys.length : Int)) = false := by simp; omega
  have e := Ha8 (fun h => hl h.symm)
  (refine aF ?_; repeat' (refine aG ?_ ?_<;>intro _<;>try simp (disch := first|assumption|omega) only [S0,rA,rQ,rB,rT,rE, *]))
theorem Sak (xs : (List (List bH))) (k : Int) (hk : 0 <= k) (hb : k + (ctL (ctL fC) xs : Nat) <= 1152921504606846976) (hl : szL (szL aN) xs <= 1099511627776) : Fun T 111 [rL xs, i64 k] = some [i64 (k + (ctL (ctL fC) xs : Nat)), rL (mkL (ctL fC) (mkL fC Bad) xs k)] := by
 rw [aW (t := Xay) rfl]; unfold Xay
 have hx : xs.length <= 1099511627776 := Nb4 jH hl
 simp (disch := first|assumption|omega) only [S0,rA,rQ,rB,rT,rE, *]
 rw [Dak xs (ctL fC) (mkL fC Bad) k rfl rfl rfl hk hb ?_ ?_ (by omega)]
 ·(refine aF ?_; repeat' (refine aG ?_ ?_<;>intro _<;>try simp (disch := first|assumption|omega) only [S0,rA,rQ,rB,rT,rE, *]))
 ·intro i ys m hi hy hb hlt hat hm hc hlen
  have hq : szL aN (atI xs i) <= 1099511627776 := by
   have := jG (f := (szL aN)) (at_mem hi)
   omega
  (refine aF ?_; repeat' (refine aG ?_ ?_<;>intro _<;>try simp (disch := first|assumption|omega|(simp only [sO]; assumption)) only [S0,rA,rQ,rB,rT,rE,aS,Daa,sO,Ua8, *]))
 ·intro ys m hy hlt
  (refine aF ?_; repeat' (refine aG ?_ ?_<;>intro _<;>try simp (disch := first|assumption|omega) only [S0,rA,rQ,rB,rT,rE, *]))
theorem Haw (x_n : Int) (x_rows : (List (List bH))) (l : Int) (h0 : 0 <= l) (h1 : l <= 1048576) (hw : yE ⟨x_n, x_rows⟩) : Fun T 1 [i64 x_n, rL x_rows, i64 l] = some [i64 (szR l (dI ⟨x_n, x_rows⟩))] := by
 rw [aW (t := tm1) rfl]; unfold tm1
 unfold yE at hw
 simp only at hw
 have w0 := hw
 by_cases c0 : ((szL (szL aN) x_rows : Nat) : Int) <= l
 rotate_left
 ·have e0 : szR (l) (szL (szL aN) x_rows) = -1 := if_neg c0
  have d0 : decide ((-1 : Int) < 0) = true := rfl
  have e : szR l (dI ⟨x_n, x_rows⟩) = -1 := by unfold szR dI; simp only []; split <;> omega
  (refine aF ?_; repeat' (refine aG ?_ ?_<;>intro _<;>try simp (disch := first|assumption|omega) only [S0,rA,rQ,rB,rT,rE,Hax, *]))
 have e0 : szR (l) (szL (szL aN) x_rows) = l - (szL (szL aN) x_rows : Nat) := if_pos c0
 have d0 : decide (l - ((szL (szL aN) x_rows : Nat) : Int) < 0) = false := by simp; omega
 have e : szR l (dI ⟨x_n, x_rows⟩) = l - ((szL (szL aN) x_rows : Nat) : Int) := by unfold szR dI; simp only []; split <;> omega
 (refine aF ?_; repeat' (refine aG ?_ ?_<;>intro _<;>try simp (disch := first|assumption|omega) only [S0,rA,rQ,rB,rT,rE,Hax, *]))
theorem Sah (x_n : Int) (x_rows : (List (List bH))) (hs : dI ⟨x_n, x_rows⟩ <= 1048576) : Fun T 7 [i64 x_n, rL x_rows] = some [i64 x_n, rL x_rows] := by
 rw [aW (t := tm7) rfl]; unfold tm7
 unfold dI at hs
 simp only at hs
 have s0 : szL (szL aN) x_rows <= 1048576 := by omega
 (refine aF ?_; repeat' (refine aG ?_ ?_<;>intro _<;>try simp (disch := first|assumption|omega) only [S0,rA,rQ,rB,rT,rE,Sai, *]))
theorem Sal (x_n : Int) (x_rows : (List (List bH))) (y_n : Int) (y_rows : (List (List bH))) (hs : dI ⟨x_n, x_rows⟩ <= 1099511627776) : Fun T 104 [i64 x_n, rL x_rows, i64 y_n, rL y_rows] = some [.bool (decide ((⟨x_n, x_rows⟩ : aL) = ⟨y_n, y_rows⟩))] := by
 rw [aW (t := Xa5) rfl]; unfold Xa5
 unfold dI at hs
 simp only at hs
 have s0 : szL (szL aN) x_rows <= 1099511627776 := by omega
 have e : decide ((⟨x_n, x_rows⟩ : aL) = ⟨y_n, y_rows⟩) = ((x_n == y_n) && decide ((x_rows : (List (List bH))) = y_rows)) := by
  simp only [aL.mk.injEq, Pba, Bool.decide_and, Pb8]
 rw [e]
 (refine aF ?_; repeat' (refine aG ?_ ?_<;>intro _<;>try simp (disch := first|assumption|omega) only [S0,rA,rQ,rB,rT,rE,Sam, *]))
theorem Saj (x_n : Int) (x_rows : (List (List bH))) (k : Int) (hk : 0 <= k) (hb : k + (ctL (ctL fC) x_rows : Nat) <= 1152921504606846976) (hl0 : szL (szL aN) x_rows <= 1099511627776) : Fun T 110 [i64 x_n, rL x_rows, i64 k] = some [i64 (k + (ctL (ctL fC) x_rows : Nat)), rL (mkL (ctL fC) (mkL fC Bad) x_rows (k))] := by
 rw [aW (t := Xaz) rfl]; unfold Xaz
 (refine aF ?_; repeat' (refine aG ?_ ?_<;>intro _<;>try simp (disch := first|assumption|omega) only [S0,rA,rQ,rB,rT,rE,Sak, *]))
theorem Bb4 (xs ys : (List (List Int))) (hs : szL (szL (fun _ => 0)) xs <= 1099511627776) : Fun T 102 [rL xs, rL ys] = some [.bool (decide (xs = ys))] := by
 rw [aW (t := Xa7) rfl]; unfold Xa7
 have hx : xs.length <= 1099511627776 := Nb4 jH hs
 by_cases hl : ys.length = xs.length
 ·simp (disch := first|assumption|omega) only [S0,rA,rQ,rB,rT,rE, *]
  rw [Oal 1 xs.length (fun i => decide (atI xs i = atI ys i)) [.bool false], Bay hl.symm]
  ·(refine aF ?_; repeat' (refine aG ?_ ?_<;>intro _<;>try simp (disch := first|assumption|omega) only [S0,rA,rQ,rB,rT,rE, *]))
  ·intro i hi hp
   have hb : InB xs (i : Int) := aM.2 hi
   have hb' : InB ys (i : Int) := aM.2 (by omega)
   have h2 : decide ((i : Int) < xs.length) = true := by simp; omega
   have hq : szL (fun _ => 0) (atI xs i) <= 1099511627776 := by
    have := jG (f := (szL (fun _ => 0))) (at_mem hi)
    omega
   (refine aF ?_; repeat' (refine aG ?_ ?_<;>intro _<;>try simp (disch := first|assumption|omega) only [S0,rA,rQ,rB,rT,rE,aS,Vab, *]))
  ·intro i hi hp
   have hb : InB xs (i : Int) := aM.2 hi
   have hb' : InB ys (i : Int) := aM.2 (by omega)
   have h2 : decide ((i : Int) < xs.length) = true := by simp; omega
   have hq : szL (fun _ => 0) (atI xs i) <= 1099511627776 := by
    have := jG (f := (szL (fun _ => 0))) (at_mem hi)
    omega
   (refine aF ?_; repeat' (refine aG ?_ ?_<;>intro _<;>try simp (disch := first|assumption|omega) only [S0,rA,rQ,rB,rT,rE,aS,Vab, *]))
  ·have h2 : decide ((xs.length : Int) < xs.length) = false := by simp
   (refine aF ?_; repeat' (refine aG ?_ ?_<;>intro _<;>try simp (disch := first|assumption|omega) only [S0,rA,rQ,rB,rT,rE, *]))
 ·have hl' : ((xs.length : Int) == (ys.length : Int)) = false := by simp; omega
  have e := Ha8 (fun h => hl h.symm)
  (refine aF ?_; repeat' (refine aG ?_ ?_<;>intro _<;>try simp (disch := first|assumption|omega) only [S0,rA,rQ,rB,rT,rE, *]))
theorem Bb2 (xs : (List (List Int))) (k : Int) (hk : 0 <= k) (hb : k + (ctL (ctL (fun _ => 1)) xs : Nat) <= 1152921504606846976) (hl : szL (szL (fun _ => 0)) xs <= 1099511627776) : Fun T 114 [rL xs, i64 k] = some [i64 (k + (ctL (ctL (fun _ => 1)) xs : Nat)), rL (mkL (ctL (fun _ => 1)) (mkL (fun _ => 1) (fun _ k => k)) xs k)] := by
 rw [aW (t := Xav) rfl]; unfold Xav
 have hx : xs.length <= 1099511627776 := Nb4 jH hl
 simp (disch := first|assumption|omega) only [S0,rA,rQ,rB,rT,rE, *]
 rw [Dak xs (ctL (fun _ => 1)) (mkL (fun _ => 1) (fun _ k => k)) k rfl rfl rfl hk hb ?_ ?_ (by omega)]
 ·(refine aF ?_; repeat' (refine aG ?_ ?_<;>intro _<;>try simp (disch := first|assumption|omega) only [S0,rA,rQ,rB,rT,rE, *]))
 ·intro i ys m hi hy hb hlt hat hm hc hlen
  have hq : (atI xs i).length <= 1099511627776 := by
   have := jG (f := (szL (fun _ => 0))) (at_mem hi)
   have := jH (f := (fun _ => 0)) (xs := atI xs i)
   omega
  (refine aF ?_; repeat' (refine aG ?_ ?_<;>intro _<;>try simp (disch := first|assumption|omega|(simp only [sO]; assumption)) only [S0,rA,rQ,rB,rT,rE,aS,Daa,sO,Abq, *]))
 ·intro ys m hy hlt
  (refine aF ?_; repeat' (refine aG ?_ ?_<;>intro _<;>try simp (disch := first|assumption|omega) only [S0,rA,rQ,rB,rT,rE, *]))
theorem Bb3 (xs : (List (List Int))) (k : Int) (hk : 0 <= k) (hb : k + (ctL (ctL (fun _ => 1)) xs : Nat) <= 1152921504606846976) (hl : szL (szL (fun _ => 0)) xs <= 1099511627776) : Fun T 115 [rL (mkL (ctL (fun _ => 1)) (mkL (fun _ => 1) (fun _ k => k)) xs k), i64 k] = some [i64 (k + (ctL (ctL (fun _ => 1)) xs : Nat))] := by
 rw [aW (t := Xau) rfl]; unfold Xau
 have hx : xs.length <= 1099511627776 := Nb4 jH hl
 simp (disch := first|assumption|omega) only [S0,rA,rQ,rB,rT,rE, *]
 rw [Qaz xs (ctL (fun _ => 1)) (mkL (fun _ => 1) (fun _ k => k)) k rfl hk hb (by omega)]
 ·(refine aF ?_; repeat' (refine aG ?_ ?_<;>intro _<;>try simp (disch := first|assumption|omega) only [S0,rA,rQ,rB,rT,rE, *]))
 ·intro i m hi hb hy hlt hat hm hc hlen
  have hq : (atI xs i).length <= 1099511627776 := by
   have := jG (f := (szL (fun _ => 0))) (at_mem hi)
   have := jH (f := (fun _ => 0)) (xs := atI xs i)
   omega
  have hz : decide (m + (ctL (fun _ => 1) (atI xs i) : Nat) < 0) = false := by simp; omega
  (refine aF ?_; repeat' (refine aG ?_ ?_<;>intro _<;>try simp (disch := first|assumption|omega) only [S0,rA,rQ,rB,rT,rE,aS,Ebn,lt0, *]))
 ·intro m hy hlt
  (refine aF ?_; repeat' (refine aG ?_ ?_<;>intro _<;>try simp (disch := first|assumption|omega) only [S0,rA,rQ,rB,rT,rE, *]))
theorem mR (x lo up : Int) : Fun T 58 [i64 x, i64 lo, i64 up] = some [.bool (inR x lo up)] := by
 rw [aW (t := Gbh) rfl]; unfold Gbh; unfold inR
 (refine aF ?_; repeat' (refine aG ?_ ?_<;>intro _<;>try simp (disch := first|assumption|omega) only [S0,rA,rQ,rB,rT,rE, *]))
theorem oP (x lo up : Int) : Fun T 18 [i64 x, i64 lo, i64 up] = some [.bool (inR x lo up)] := by
 rw [aW (t := Hbl) rfl]; unfold Hbl; unfold inR
 (refine aF ?_; repeat' (refine aG ?_ ?_<;>intro _<;>try simp (disch := first|assumption|omega) only [S0,rA,rQ,rB,rT,rE, *]))
theorem Cai (n : Int) : Fun T 50 [i64 n] = some [.bool (gN n)] := by
 rw [aW (t := Gbp) rfl]; unfold Gbp; unfold gN
 (refine aF ?_; repeat' (refine aG ?_ ?_<;>intro _<;>try simp (disch := first|assumption|omega) only [S0,rA,rQ,rB,rT,rE, *]))
theorem sW (n : Int) : Fun T 16 [i64 n] = some [.bool (gN n)] := by
 rw [aW (t := Hbn) rfl]; unfold Hbn; unfold gN
 (refine aF ?_; repeat' (refine aG ?_ ?_<;>intro _<;>try simp (disch := first|assumption|omega) only [S0,rA,rQ,rB,rT,rE, *]))
theorem Gao (n : Int) : Fun T 60 [i64 n] = some [.bool (inR n 0 3)] := by
 rw [aW (t := Gbf) rfl]; unfold Gbf
 (refine aF ?_; repeat' (refine aG ?_ ?_<;>intro _<;>try simp (disch := first|assumption|omega) only [S0,rA,rQ,rB,rT,rE,mR, *]))
theorem Gaf (n : Int) : Fun T 24 [i64 n] = some [.bool (inR n 0 3)] := by
 rw [aW (t := Hbf) rfl]; unfold Hbf
 (refine aF ?_; repeat' (refine aG ?_ ?_<;>intro _<;>try simp (disch := first|assumption|omega) only [S0,rA,rQ,rB,rT,rE,oP, *]))
theorem Oac (k i f t a : Int) : Fun T 23 [i64 k, i64 i, i64 f, i64 t, i64 a] = some [i64 (Ja9 ⟨k, i, f, t, a⟩)] := by
 rw [aW (t := Hbg) rfl]; unfold Hbg; unfold Ja9
 (refine aF ?_; repeat' (refine aG ?_ ?_<;>intro _<;>try simp (disch := first|assumption|omega) only [S0,rA,rQ,rB,rT,rE,Gaf,oP, *]))
theorem Lae (k i f t a : Int) : Fun T 22 [i64 k, i64 i, i64 f, i64 t, i64 a] = some [.bool (Taj ⟨k, i, f, t, a⟩)] := by
 rw [aW (t := Hbh) rfl]; unfold Hbh; unfold Taj
 (refine aF ?_; repeat' (refine aG ?_ ?_<;>intro _<;>try simp (disch := first|assumption|omega) only [S0,rA,rQ,rB,rT,rE,Oac,Za9,Zaw, *]))
 all_goals (refine Rag ?_; simp only [Mby, Oba, Nbp, Bool.not_eq_false', Bool.and_eq_false_iff, Bool.or_eq_false_iff, Mb6, beq_iff_eq, beq_eq_false_iff_ne, decide_eq_true_eq, decide_eq_false_iff_not, ne_eq] at *; grind)
theorem Mak (k i f t a : Int) : Fun T 59 [i64 k, i64 i, i64 f, i64 t, i64 a] = some [.bool (Taj ⟨k, i, f, t, a⟩)] := by
 rw [aW (t := Gbg) rfl]; unfold Gbg; unfold Taj
 (refine aF ?_; repeat' (refine aG ?_ ?_<;>intro _<;>try simp (disch := first|assumption|omega) only [S0,rA,rQ,rB,rT,rE,mR,Gao,Za9, *]))
theorem Ra8 (xs : List Int) (lo up : Int) (hx : xs.length <= 1099511627776) : Fun T 26 [rL xs, i64 lo, i64 up] = some [.bool (xs.all fun x => inR x lo up)] := by
 rw [aW (t := Hbd) rfl]; unfold Hbd
 simp (disch := first|assumption|omega) only [S0,rA,rQ,rB,rT,rE, aS, *]
 rw [Lbs 1 xs (fun x => inR x lo up) [.bool false]]
 ·(refine aF ?_; repeat' (refine aG ?_ ?_<;>intro _<;>try simp (disch := first|assumption|omega) only [S0,rA,rQ,rB,rT,rE, *]))
 ·intro i hi hb hl hp
  (refine aF ?_; repeat' (refine aG ?_ ?_<;>intro _<;>try simp (disch := first|assumption|omega) only [S0,rA,rQ,rB,rT,rE,aS,oP, *]))
 ·intro i hi hb hl hp
  (refine aF ?_; repeat' (refine aG ?_ ?_<;>intro _<;>try simp (disch := first|assumption|omega) only [S0,rA,rQ,rB,rT,rE,aS,oP, *]))
 ·intro hl
  (refine aF ?_; repeat' (refine aG ?_ ?_<;>intro _<;>try simp (disch := first|assumption|omega) only [S0,rA,rQ,rB,rT,rE, *]))
theorem Oab (n s : Int) (xs : List Int) (hx : xs.length <= 1099511627776) : Fun T 25 [i64 n, i64 s, rL xs] = some [.bool (sJ n ⟨s, xs⟩)] := by
 rw [aW (t := Hbe) rfl]; unfold Hbe; unfold sJ
 (refine aF ?_; repeat' (refine aG ?_ ?_<;>intro _<;>try simp (disch := first|assumption|omega) only [S0,rA,rQ,rB,rT,rE,oP,Ra8, *]))
theorem uI (x : Int) : Fun T 64 [i64 x] = some [.bool (!inR x 0 6)] := by
 rw [aW (t := Gbb) rfl]; unfold Gbb
 (refine aF ?_; repeat' (refine aG ?_ ?_<;>intro _<;>try simp (disch := first|assumption|omega) only [S0,rA,rQ,rB,rT,rE,mR, *]))
theorem Jam  (xs : List Int) (hx : xs.length <= 1099511627776) : Fun T 63 [rL xs] = some [i64 (ixF (fun x => !inR x 0 6) xs)] := by
 rw [aW (t := Gbc) rfl]; unfold Gbc
 simp (disch := first|assumption|omega) only [S0,rA,rQ,rB,rT,rE, aS, *]
 rw [Gar 1 xs (fun x => !inR x 0 6) (fun i => [i64 i])]
 ·cases h : xs.any (fun x => !inR x 0 6)
  ·have e : ixF (fun x => !inR x 0 6) xs = -1 := by
    have h2 := fO (fun x => !inR x 0 6) xs
    rw [h] at h2
    unfold ixF at h2 ⊢
    split at h2 <;> simp_all
   rw [e]; simp (disch := first|assumption|omega) only [S0,rA,rQ,rB,rT,rE]
  ·simp (disch := first|assumption|omega) only [S0,rA,rQ,rB,rT,rE]
 ·intro i hi hb hl hp
  (refine aF ?_; repeat' (refine aG ?_ ?_<;>intro _<;>try simp (disch := first|assumption|omega) only [S0,rA,rQ,rB,rT,rE,aS,uI, *]))
 ·intro i hi hb hl hp
  (refine aF ?_; repeat' (refine aG ?_ ?_<;>intro _<;>try simp (disch := first|assumption|omega) only [S0,rA,rQ,rB,rT,rE,aS,uI, *]))
 ·intro hl
  (refine aF ?_; repeat' (refine aG ?_ ?_<;>intro _<;>try simp (disch := first|assumption|omega) only [S0,rA,rQ,rB,rT,rE, *]))
theorem Ja5  (xs : List Int) (hx : xs.length <= 1099511627776) : Fun T 62 [rL xs] = some [.bool (xs.any (fun x => !inR x 0 6))] := by
 rw [aW (t := Gbd) rfl]; unfold Gbd
 (refine aF ?_; repeat' (refine aG ?_ ?_<;>intro _<;>try simp (disch := first|assumption|omega) only [S0,rA,rQ,rB,rT,rE,Jam,fO, *]))
theorem Jau (n s : Int) (xs : List Int) (hx : xs.length <= 1099511627776) : Fun T 61 [i64 n, i64 s, rL xs] = some [.bool (gN n && sJ n ⟨s, xs⟩)] := by
 rw [aW (t := Gbe) rfl]; unfold Gbe; unfold sJ
 have e : xs.any (fun x => !inR x 0 6) = !xs.all fun x => inR x 0 6 := by rw [List.not_all_eq_any_not]
 (refine aF ?_; repeat' (refine aG ?_ ?_<;>intro _<;>try simp (disch := first|assumption|omega) only [S0,rA,rQ,rB,rT,rE,Cai,mR,Ja5,e,Bool.not_not, *]))
theorem xE (xs ys : List Int) (hx : xs.length <= 1099511627776) : Fun T 21 [rL xs, rL ys] = some [.bool (decide (xs = ys))] := by
 rw [aW (t := Hbi) rfl]; unfold Hbi
 by_cases hl : ys.length = xs.length
 ·simp (disch := first|assumption|omega) only [S0,rA,rQ,rB,rT,rE, *]
  rw [Oal 1 xs.length (fun i => decide (atI xs i = atI ys i)) [.bool false], Bay hl.symm]
  ·(refine aF ?_; repeat' (refine aG ?_ ?_<;>intro _<;>try simp (disch := first|assumption|omega) only [S0,rA,rQ,rB,rT,rE, *]))
  ·intro i hi hp
   have hb : InB xs (i : Int) := aM.2 hi
   have hb' : InB ys (i : Int) := aM.2 (by omega)
   have h2 : decide ((i : Int) < xs.length) = true := by simp; omega
   have h3 : (atI xs i == atI ys i) = true := by simpa using hp
   (refine aF ?_; repeat' (refine aG ?_ ?_<;>intro _<;>try simp (disch := first|assumption|omega) only [S0,rA,rQ,rB,rT,rE,aS, *]))
  ·intro i hi hp
   have hb : InB xs (i : Int) := aM.2 hi
   have hb' : InB ys (i : Int) := aM.2 (by omega)
   have h2 : decide ((i : Int) < xs.length) = true := by simp; omega
   have h3 : (atI xs i == atI ys i) = false := by simpa using hp
   (refine aF ?_; repeat' (refine aG ?_ ?_<;>intro _<;>try simp (disch := first|assumption|omega) only [S0,rA,rQ,rB,rT,rE,aS, *]))
  ·have h2 : decide ((xs.length : Int) < xs.length) = false := by simp
   (refine aF ?_; repeat' (refine aG ?_ ?_<;>intro _<;>try simp (disch := first|assumption|omega) only [S0,rA,rQ,rB,rT,rE, *]))
 ·have hl' : ((xs.length : Int) == (ys.length : Int)) = false := by simp; omega
  have e := Ha8 (fun h => hl h.symm)
  (refine aF ?_; repeat' (refine aG ?_ ?_<;>intro _<;>try simp (disch := first|assumption|omega) only [S0,rA,rQ,rB,rT,rE, *]))
theorem slices_Equal_int (xs ys : List Int) (hx : xs.length <= 1099511627776) : Fun T 67 [rL xs, rL ys] = some [.bool (decide (xs = ys))] := by
 rw [aW (t := Fb8) rfl]; unfold Fb8
 by_cases hl : ys.length = xs.length
 ·simp (disch := first|assumption|omega) only [S0,rA,rQ,rB,rT,rE, *]
  rw [Oal 1 xs.length (fun i => decide (atI xs i = atI ys i)) [.bool false], Bay hl.symm]
  ·(refine aF ?_; repeat' (refine aG ?_ ?_<;>intro _<;>try simp (disch := first|assumption|omega) only [S0,rA,rQ,rB,rT,rE, *]))
  ·intro i hi hp
   have hb : InB xs (i : Int) := aM.2 hi
   have hb' : InB ys (i : Int) := aM.2 (by omega)
   have h2 : decide ((i : Int) < xs.length) = true := by simp; omega
   have h3 : (atI xs i == atI ys i) = true := by simpa using hp
   (refine aF ?_; repeat' (refine aG ?_ ?_<;>intro _<;>try simp (disch := first|assumption|omega) only [S0,rA,rQ,rB,rT,rE,aS, *]))
  ·intro i hi hp
   have hb : InB xs (i : Int) := aM.2 hi
   have hb' : InB ys (i : Int) := aM.2 (by omega)
   have h2 : decide ((i : Int) < xs.length) = true := by simp; omega
   have h3 : (atI xs i == atI ys i) = false := by simpa using hp
   (refine aF ?_; repeat' (refine aG ?_ ?_<;>intro _<;>try simp (disch := first|assumption|omega) only [S0,rA,rQ,rB,rT,rE,aS, *]))
  ·have h2 : decide ((xs.length : Int) < xs.length) = false := by simp
   (refine aF ?_; repeat' (refine aG ?_ ?_<;>intro _<;>try simp (disch := first|assumption|omega) only [S0,rA,rQ,rB,rT,rE, *]))
 ·have hl' : ((xs.length : Int) == (ys.length : Int)) = false := by simp; omega
  have e := Ha8 (fun h => hl h.symm)
  (refine aF ?_; repeat' (refine aG ?_ ?_<;>intro _<;>try simp (disch := first|assumption|omega) only [S0,rA,rQ,rB,rT,rE, *]))
theorem Iax (s s' : Int) (xs ys : List Int) (hx : xs.length <= 1099511627776) : Fun T 20 [i64 s, rL xs, i64 s', rL ys] = some [.bool (decide ((⟨s, xs⟩ : lG) = ⟨s', ys⟩))] := by
 rw [aW (t := Hbj) rfl]; unfold Hbj
 have e : decide ((⟨s, xs⟩ : lG) = ⟨s', ys⟩) = (s == s' && decide (xs = ys)) := by simp [lG.mk.injEq, Pba]
 (refine aF ?_; repeat' (refine aG ?_ ?_<;>intro _<;>try simp (disch := first|assumption|omega) only [S0,rA,rQ,rB,rT,rE,xE,e, *]))
theorem Jat (s s' : Int) (xs ys : List Int) (hx : xs.length <= 1099511627776) : Fun T 66 [i64 s, rL xs, i64 s', rL ys] = some [.bool (decide ((⟨s, xs⟩ : lG) = ⟨s', ys⟩))] := by
 rw [aW (t := Fb9) rfl]; unfold Fb9
 have e : decide ((⟨s, xs⟩ : lG) = ⟨s', ys⟩) = (s == s' && decide (xs = ys)) := by simp [lG.mk.injEq, Pba]
 (refine aF ?_; repeat' (refine aG ?_ ?_<;>intro _<;>try simp (disch := first|assumption|omega) only [S0,rA,rQ,rB,rT,rE,slices_Equal_int,e, *]))
theorem xD (n : Int) (hg : gN n = true) : Fun T 19 [i64 n] = some [i64 (none0 n).seq, rL (none0 n).deps] := by
 rw [aW (t := Hbk) rfl]; unfold Hbk; unfold none0
 have hn := bL hg
 (refine aF ?_; repeat' (refine aG ?_ ?_<;>intro _<;>try simp (disch := first|assumption|omega) only [S0,rA,rQ,rB,rT,rE,Fa4, *]))
theorem qU (n : Int) (hg : gN n = true) : Fun T 65 [i64 n] = some [i64 (none0 n).seq, rL (none0 n).deps] := by
 rw [aW (t := Gba) rfl]; unfold Gba; unfold none0
 have hn := bL hg
 (refine aF ?_; repeat' (refine aG ?_ ?_<;>intro _<;>try simp (disch := first|assumption|omega) only [S0,rA,rQ,rB,rT,rE,Fa4, *]))
theorem Ra5 (n bal vot sta k i f t a sq : Int) (xs : List Int) (hg : gN n = true) (hx : xs.length <= 1099511627776) :
  Fun T 17 [i64 n, i64 bal, i64 vot, i64 sta, i64 k, i64 i, i64 f, i64 t, i64 a, i64 sq, rL xs] = some [.bool (rowOk n ⟨bal, vot, sta, ⟨k, i, f, t, a⟩, ⟨sq, xs⟩⟩)] := by
 rw [aW (t := Hbm) rfl]; unfold Hbm; unfold rowOk
 (refine aF ?_; repeat' (refine aG ?_ ?_<;>intro _<;>try simp (disch := first|assumption|omega) only [S0,rA,rQ,rB,rT,rE,oP,Za9,xD,Iax,Lae,Oab, *]))
theorem Mai (n bal vot sta k i f t a sq : Int) (xs : List Int) (hg : gN n = true) (hx : xs.length <= 1099511627776) :
  Fun T 57 [i64 n, i64 bal, i64 vot, i64 sta, i64 k, i64 i, i64 f, i64 t, i64 a, i64 sq, rL xs] = some [.bool (rowOk n ⟨bal, vot, sta, ⟨k, i, f, t, a⟩, ⟨sq, xs⟩⟩)] := by
 rw [aW (t := Gbi) rfl]; unfold Gbi; unfold rowOk
 have h1 := @Cbs ⟨k, i, f, t, a⟩
 have h2 := Jab hg
 have h3 : decide ((⟨sq, xs⟩ : lG) = none0 n) = true -> sJ n ⟨sq, xs⟩ = true := fun h => by rw [of_decide_eq_true h]; exact h2
 (refine aF ?_; repeat' (refine aG ?_ ?_<;>intro _<;>try simp (disch := first|assumption|omega) only [S0,rA,rQ,rB,rT,rE,mR,Za9,qU,Jat,Mak,Jau, *]))
 all_goals (refine Rag ?_; simp only [Mby, Oba, Nbp, Bool.not_eq_false', Bool.and_eq_false_iff, Bool.or_eq_false_iff, Mb6, beq_iff_eq, beq_eq_false_iff_ne, decide_eq_true_eq, decide_eq_false_iff_not, ne_eq] at *; grind)
theorem slices_Clone_int (xs : List Int) (hx : xs.length <= 10000000000) : Fun T 81 [rL xs] = some [rL xs] := by
 rw [Kah (e := Lbr) rfl]
 cases xs with
 | nil => rfl
 | cons x xs =>
  show Fun (Ma7 [(81, .tm Dbh)]) 81 [rL (x :: xs)] = _
  rw [aW (t := Dbh) rfl]
  unfold Dbh
  have hx' : (x :: xs).length <= 100000000000 := by omega
  have h0 : (aO.mk 1 0).run [] = some [.rows 1 []] := rfl
  have h1 : (x :: xs).isEmpty = false := rfl
  simp (disch := first | assumption | omega) only [SA, SB, SC, SP, SQ, SZ, reduceIte, reduceCtorEq, Nat.reduceAdd, Nat.reduceEqDiff, Ibg, Ebg, h0, h1, fT]
theorem Ca7 (s : Int) (xs : List Int) (hx : xs.length <= 10000000000) : Fun T 80 [i64 s, rL xs] = some [i64 s, rL xs] := by
 rw [aW (t := Fbv) rfl]; unfold Fbv
 (refine aF ?_; repeat' (refine aG ?_ ?_<;>intro _<;>try simp (disch := first|assumption|omega) only [S0,rA,rQ,rB,rT,rE,slices_Clone_int, *]))
theorem wN (n : Int) (rows : List (List bH)) (hs : mG rows) : Fun T 15 [i64 n, rL rows] = some [.bool (bI ⟨n, rows⟩)] := by
 rw [aW (t := Hbo) rfl]; unfold Hbo; unfold bI
 obtain ⟨hs1, hs2⟩ := hs
 cases hg : gN n
 ·(refine aF ?_; repeat' (refine aG ?_ ?_<;>intro _<;>try simp (disch := first|assumption|omega) only [S0,rA,rQ,rB,rT,rE,sW, *]))
 cases hl : (rows.length : Int) == n
 ·(refine aF ?_; repeat' (refine aG ?_ ?_<;>intro _<;>try simp (disch := first|assumption|omega) only [S0,rA,rQ,rB,rT,rE,sW, *]))
 simp (disch := first|assumption|omega) only [S0,rA,rQ,rB,rT,rE, sW, *]
 rw [Lbt 1 rows (fun l => l.all (fun r => rowOk n r) && decide ((l.length : Int) <= 6)) [.bool false]]
 ·(refine aF ?_; repeat' (refine aG ?_ ?_<;>intro _<;>try simp (disch := first|assumption|omega) only [S0,rA,rQ,rB,rT,rE, *]))
 ·intro i hi hb hlt hm
  obtain ⟨hq1, hq2⟩ := hs2 _ hm
  simp (disch := first|assumption|omega) only [S0,rA,rQ,rB,rT,rE, aS, *]
  rw [Lbt 3 (atI rows i) (fun r => rowOk n r) [.bool false]]
  ·have e : decide (6 < ((atI rows (i : Int)).length : Int)) = !decide (((atI rows (i : Int)).length : Int) <= 6) := by
    by_cases h : ((atI rows (i : Int)).length : Int) <= 6
    ·simp [h]
    ·simp [h]; omega
   (refine aF ?_; repeat' (refine aG ?_ ?_<;>intro _<;>try simp (disch := first|assumption|omega) only [S0,rA,rQ,rB,rT,rE,e, *]))
  ·intro j hj hb2 hlt2 hm2
   have hq3 := hq2 _ hm2
   have hq4 : (atI (atI rows (i : Int)) (j : Int)).attr.deps.length <= 1099511627776 := by omega
   (refine aF ?_; repeat' (refine aG ?_ ?_<;>intro _<;>try simp (disch := first|assumption|omega) only [S0,rA,rQ,rB,rT,rE,aS,Ra5, *]))
  ·intro hl2
   (refine aF ?_; repeat' (refine aG ?_ ?_<;>intro _<;>try simp (disch := first|assumption|omega) only [S0,rA,rQ,rB,rT,rE, *]))
 ·intro hl2
  (refine aF ?_; repeat' (refine aG ?_ ?_<;>intro _<;>try simp (disch := first|assumption|omega) only [S0,rA,rQ,rB,rT,rE, *]))
theorem nV (r_ballot r_vote r_state r_cmd_kind r_cmd_id r_cmd_src r_cmd_dst r_cmd_amt r_attr_seq : Int) (r_attr_deps : (List Int)) (n : Int) (rows : List (List bH)) (hg : gN n = true) (hx : r_attr_deps.length <= 1099511627776) : Fun T 56 [i64 r_ballot, i64 r_vote, i64 r_state, i64 r_cmd_kind, i64 r_cmd_id, i64 r_cmd_src, i64 r_cmd_dst, i64 r_cmd_amt, i64 r_attr_seq, rL r_attr_deps, i64 n, rL rows] = some [.bool (!rowOk n ⟨r_ballot, r_vote, r_state, ⟨r_cmd_kind, r_cmd_id, r_cmd_src, r_cmd_dst, r_cmd_amt⟩, ⟨r_attr_seq, r_attr_deps⟩⟩)] := by
 rw [aW (t := Gbj) rfl]; unfold Gbj
 (refine aF ?_; repeat' (refine aG ?_ ?_<;>intro _<;>try simp (disch := first|assumption|omega) only [S0,rA,rQ,rB,rT,rE,Mai, *]))
theorem Ca3 (n : Int) (rows : List (List bH)) (hg : gN n = true) (xs : List bH) (hx : xs.length <= 1099511627776) (hq : ∀ x ∈ xs, x.attr.deps.length <= 1099511627776) : Fun T 55 [rL xs, i64 n, rL rows] = some [i64 (ixF (fun r => !rowOk n r) xs)] := by
 rw [aW (t := Gbk) rfl]; unfold Gbk
 simp (disch := first|assumption|omega) only [S0,rA,rQ,rB,rT,rE, aS, *]
 rw [Gar 1 xs (fun r => !rowOk n r) (fun i => [i64 i])]
 ·cases h : xs.any (fun r => !rowOk n r)
  ·have e : ixF (fun r => !rowOk n r) xs = -1 := by
    have h2 := fO (fun r => !rowOk n r) xs
    rw [h] at h2
    unfold ixF at h2 ⊢
    split at h2 <;> simp_all
   rw [e]; simp (disch := first|assumption|omega) only [S0,rA,rQ,rB,rT,rE]
  ·simp (disch := first|assumption|omega) only [S0,rA,rQ,rB,rT,rE]
 ·intro i hi hb hl hp
  have hq' := hq _ (at_mem hi)
  try simp only at hq' hp
  (refine aF ?_; repeat' (refine aG ?_ ?_<;>intro _<;>try simp (disch := first|assumption|omega) only [S0,rA,rQ,rB,rT,rE,aS,nV, *]))
 ·intro i hi hb hl hp
  have hq' := hq _ (at_mem hi)
  try simp only at hq' hp
  (refine aF ?_; repeat' (refine aG ?_ ?_<;>intro _<;>try simp (disch := first|assumption|omega) only [S0,rA,rQ,rB,rT,rE,aS,nV, *]))
 ·intro hl
  (refine aF ?_; repeat' (refine aG ?_ ?_<;>intro _<;>try simp (disch := first|assumption|omega) only [S0,rA,rQ,rB,rT,rE, *]))
theorem Ca9 (n : Int) (rows : List (List bH)) (hg : gN n = true) (xs : List bH) (hx : xs.length <= 1099511627776) (hq : ∀ x ∈ xs, x.attr.deps.length <= 1099511627776) : Fun T 54 [rL xs, i64 n, rL rows] = some [.bool (xs.any (fun r => !rowOk n r))] := by
 rw [aW (t := Gbl) rfl]; unfold Gbl
 (refine aF ?_; repeat' (refine aG ?_ ?_<;>intro _<;>try simp (disch := first|assumption|omega) only [S0,rA,rQ,rB,rT,rE,Ca3,fO, *]))
theorem sG (l : List bH) (n : Int) (rows : List (List bH)) (hg : gN n = true) (hx : l.length <= 1099511627776) (hq : ∀ x ∈ l, x.attr.deps.length <= 1099511627776) : Fun T 53 [rL l, i64 n, rL rows] = some [.bool (decide (6 < (l.length : Int)) || l.any fun r => !rowOk n r)] := by
 rw [aW (t := Gbm) rfl]; unfold Gbm
 (refine aF ?_; repeat' (refine aG ?_ ?_<;>intro _<;>try simp (disch := first|assumption|omega) only [S0,rA,rQ,rB,rT,rE,Ca9, *]))
theorem Gam (n : Int) (rows : List (List bH)) (hg : gN n = true) (xs : List (List bH)) (hx : xs.length <= 1099511627776) (hq : ∀ x ∈ xs, x.length <= 1099511627776 /\ ∀ y ∈ x, y.attr.deps.length <= 1099511627776) : Fun T 52 [rL xs, i64 n, rL rows] = some [i64 (ixF (fun l => decide (6 < (l.length : Int)) || l.any fun r => !rowOk n r) xs)] := by
 rw [aW (t := Gbn) rfl]; unfold Gbn
 simp (disch := first|assumption|omega) only [S0,rA,rQ,rB,rT,rE, aS, *]
 rw [Gar 1 xs (fun l => decide (6 < (l.length : Int)) || l.any fun r => !rowOk n r) (fun i => [i64 i])]
 ·cases h : xs.any (fun l => decide (6 < (l.length : Int)) || l.any fun r => !rowOk n r)
  ·have e : ixF (fun l => decide (6 < (l.length : Int)) || l.any fun r => !rowOk n r) xs = -1 := by
    have h2 := fO (fun l => decide (6 < (l.length : Int)) || l.any fun r => !rowOk n r) xs
    rw [h] at h2
    unfold ixF at h2 ⊢
    split at h2 <;> simp_all
   rw [e]; simp (disch := first|assumption|omega) only [S0,rA,rQ,rB,rT,rE]
  ·simp (disch := first|assumption|omega) only [S0,rA,rQ,rB,rT,rE]
 ·intro i hi hb hl hp
  have hq' := hq _ (at_mem hi)
  try simp only at hq' hp
  obtain ⟨hq1, hq2⟩ := hq'
  (refine aF ?_; repeat' (refine aG ?_ ?_<;>intro _<;>try simp (disch := first|assumption|omega) only [S0,rA,rQ,rB,rT,rE,aS,sG, *]))
 ·intro i hi hb hl hp
  have hq' := hq _ (at_mem hi)
  try simp only at hq' hp
  obtain ⟨hq1, hq2⟩ := hq'
  (refine aF ?_; repeat' (refine aG ?_ ?_<;>intro _<;>try simp (disch := first|assumption|omega) only [S0,rA,rQ,rB,rT,rE,aS,sG, *]))
 ·intro hl
  (refine aF ?_; repeat' (refine aG ?_ ?_<;>intro _<;>try simp (disch := first|assumption|omega) only [S0,rA,rQ,rB,rT,rE, *]))
theorem Gau (n : Int) (rows : List (List bH)) (hg : gN n = true) (xs : List (List bH)) (hx : xs.length <= 1099511627776) (hq : ∀ x ∈ xs, x.length <= 1099511627776 /\ ∀ y ∈ x, y.attr.deps.length <= 1099511627776) : Fun T 51 [rL xs, i64 n, rL rows] = some [.bool (xs.any (fun l => decide (6 < (l.length : Int)) || l.any fun r => !rowOk n r))] := by
 rw [aW (t := Gbo) rfl]; unfold Gbo
 (refine aF ?_; repeat' (refine aG ?_ ?_<;>intro _<;>try simp (disch := first|assumption|omega) only [S0,rA,rQ,rB,rT,rE,Gam,fO, *]))
theorem wU (n : Int) (rows : List (List bH)) (hs : mG rows) : Fun T 49 [i64 n, rL rows] = some [.bool (bI ⟨n, rows⟩)] := by
 rw [aW (t := Gbq) rfl]; unfold Gbq; unfold bI
 obtain ⟨hs1, hs2⟩ := hs
 have hs3 : ∀ x ∈ rows, x.length <= 1099511627776 /\ ∀ y ∈ x, y.attr.deps.length <= 1099511627776 := fun x hx => ⟨by have := (hs2 x hx).1; omega, fun y hy => by have := (hs2 x hx).2 y hy; omega⟩
 have e : (rows.any fun l => decide (6 < (l.length : Int)) || l.any fun r => !rowOk n r) = !rows.all fun l => l.all (fun r => rowOk n r) && decide ((l.length : Int) <= 6) := by
  rw [List.not_all_eq_any_not]
  congr 1
  funext l
  rw [<- List.not_all_eq_any_not, Bool.not_and, Bool.or_comm]
  congr 1
  by_cases h : (l.length : Int) <= 6
  ·simp [h]
  ·simp [h]; omega
 (refine aF ?_; repeat' (refine aG ?_ ?_<;>intro _<;>try simp (disch := first|assumption|omega) only [S0,rA,rQ,rB,rT,rE,Cai,Gau,e,Bool.not_not, *]))
theorem Ga9 (xs : List Int) (hx : xs.length <= 10000000000) : Fun T 35 [rL xs] = some [rL xs] := by
 rw [aW (t := Gb4) rfl]; unfold Gb4
 have h0 : (aO.mk 1 0).run [] = some [.rows 1 []] := rfl
 (refine aF ?_; repeat' (refine aG ?_ ?_<;>intro _<;>try simp (disch := first|assumption|omega) only [S0,rA,rQ,rB,rT,rE,h0,fT, *]))
theorem Gae (s : Int) (xs : List Int) (hx : xs.length <= 10000000000) : Fun T 34 [i64 s, rL xs] = some [i64 s, rL xs] := by
 rw [aW (t := Gb5) rfl]; unfold Gb5
 (refine aF ?_; repeat' (refine aG ?_ ?_<;>intro _<;>try simp (disch := first|assumption|omega) only [S0,rA,rQ,rB,rT,rE,Ga9, *]))
theorem yO (r_ballot r_vote r_state r_cmd_kind r_cmd_id r_cmd_src r_cmd_dst r_cmd_amt r_attr_seq : Int) (r_attr_deps : (List Int)) (hx : r_attr_deps.length <= 10000000000) : Fun T 33 [i64 r_ballot, i64 r_vote, i64 r_state, i64 r_cmd_kind, i64 r_cmd_id, i64 r_cmd_src, i64 r_cmd_dst, i64 r_cmd_amt, i64 r_attr_seq, rL r_attr_deps] = some [i64 r_ballot, i64 r_vote, i64 r_state, i64 r_cmd_kind, i64 r_cmd_id, i64 r_cmd_src, i64 r_cmd_dst, i64 r_cmd_amt, i64 r_attr_seq, rL r_attr_deps] := by
 rw [aW (t := Gb6) rfl]; unfold Gb6
 (refine aF ?_; repeat' (refine aG ?_ ?_<;>intro _<;>try simp (disch := first|assumption|omega) only [S0,rA,rQ,rB,rT,rE,Gae, *]))
theorem uH (r_ballot r_vote r_state r_cmd_kind r_cmd_id r_cmd_src r_cmd_dst r_cmd_amt r_attr_seq : Int) (r_attr_deps : (List Int)) (hx : r_attr_deps.length <= 10000000000) : Fun T 79 [i64 r_ballot, i64 r_vote, i64 r_state, i64 r_cmd_kind, i64 r_cmd_id, i64 r_cmd_src, i64 r_cmd_dst, i64 r_cmd_amt, i64 r_attr_seq, rL r_attr_deps] = some [i64 r_ballot, i64 r_vote, i64 r_state, i64 r_cmd_kind, i64 r_cmd_id, i64 r_cmd_src, i64 r_cmd_dst, i64 r_cmd_amt, i64 r_attr_seq, rL r_attr_deps] := by
 rw [aW (t := Fbw) rfl]; unfold Fbw
 (refine aF ?_; repeat' (refine aG ?_ ?_<;>intro _<;>try simp (disch := first|assumption|omega) only [S0,rA,rQ,rB,rT,rE,Ca7, *]))
theorem yP (n : Int) (rows : List (List bH)) (rep no : Int) (hg : gN n = true) (hs : mG rows) (hb : InB rows rep) (h1 : 1 <= no) (h2 : no <= 1000) : Fun T 32 [i64 n, rL rows, i64 rep, i64 no] = some [i64 (gU ⟨n, rows⟩ rep no).ballot, i64 (gU ⟨n, rows⟩ rep no).vote, i64 (gU ⟨n, rows⟩ rep no).state, i64 (gU ⟨n, rows⟩ rep no).cmd.kind, i64 (gU ⟨n, rows⟩ rep no).cmd.id, i64 (gU ⟨n, rows⟩ rep no).cmd.src, i64 (gU ⟨n, rows⟩ rep no).cmd.dst, i64 (gU ⟨n, rows⟩ rep no).cmd.amt, i64 (gU ⟨n, rows⟩ rep no).attr.seq, rL (gU ⟨n, rows⟩ rep no).attr.deps] := by
 rw [aW (t := Gb7) rfl]; unfold Gb7; unfold gU row0
 have hq := hs.2 _ (fQ hb)
 by_cases h : no <= (atI rows rep).length
 ·have h3 : decide (((atI rows rep).length : Int) < no) = false := by simp; omega
  have hb2 : InB (atI rows rep) (no - 1) := by unfold InB; omega
  have hq2 := hq.2 _ (fQ hb2)
  (refine aF ?_; repeat' (refine aG ?_ ?_<;>intro _<;>try simp (disch := first|assumption|omega) only [S0,rA,rQ,rB,rT,rE,aS,yO, *]))
 ·have h3 : decide (((atI rows rep).length : Int) < no) = true := by simp; omega
  (refine aF ?_; repeat' (refine aG ?_ ?_<;>intro _<;>try simp (disch := first|assumption|omega) only [S0,rA,rQ,rB,rT,rE,aS,xD, *]))
theorem gQ (n : Int) (rows : List (List bH)) (rep no : Int) (hg : gN n = true) (hs : mG rows) (hb : InB rows rep) (h1 : 1 <= no) (h2 : no <= 1000) : Fun T 78 [i64 n, rL rows, i64 rep, i64 no] = some [i64 (gU ⟨n, rows⟩ rep no).ballot, i64 (gU ⟨n, rows⟩ rep no).vote, i64 (gU ⟨n, rows⟩ rep no).state, i64 (gU ⟨n, rows⟩ rep no).cmd.kind, i64 (gU ⟨n, rows⟩ rep no).cmd.id, i64 (gU ⟨n, rows⟩ rep no).cmd.src, i64 (gU ⟨n, rows⟩ rep no).cmd.dst, i64 (gU ⟨n, rows⟩ rep no).cmd.amt, i64 (gU ⟨n, rows⟩ rep no).attr.seq, rL (gU ⟨n, rows⟩ rep no).attr.deps] := by
 rw [aW (t := Fbx) rfl]; unfold Fbx; unfold gU row0
 have hq := hs.2 _ (fQ hb)
 by_cases h : no <= (atI rows rep).length
 ·have h3 : decide (no <= ((atI rows rep).length : Int)) = true := by simp; omega
  have hb2 : InB (atI rows rep) (no - 1) := by unfold InB; omega
  have hq2 := hq.2 _ (fQ hb2)
  (refine aF ?_; repeat' (refine aG ?_ ?_<;>intro _<;>try simp (disch := first|assumption|omega) only [S0,rA,rQ,rB,rT,rE,aS,uH, *]))
 ·have h3 : decide (no <= ((atI rows rep).length : Int)) = false := by simp; omega
  (refine aF ?_; repeat' (refine aG ?_ ?_<;>intro _<;>try simp (disch := first|assumption|omega) only [S0,rA,rQ,rB,rT,rE,aS,qU, *]))
theorem Ra7 (n : Int) (hg : gN n = true) : Fun T 39 [i64 n] = some [i64 n, rL (Nbg n.toNat ([] : List bH))] := by
 rw [aW (t := Gb0) rfl]; unfold Gb0
 have hn := bL hg
 (refine aF ?_; repeat' (refine aG ?_ ?_<;>intro _<;>try simp (disch := first|assumption|omega) only [S0,rA,rQ,rB,rT,rE,Fa4, *]))
theorem Ra6 (n : Int) (rows : List (List bH)) (hg : gN n = true) (hl : (rows.length : Int) = n) (hs : mG rows) : Fun T 38 [i64 n, rL rows] = some [i64 n, rL rows] := by
 rw [aW (t := Gb1) rfl]; unfold Gb1
 obtain ⟨hs1, hs2⟩ := hs
 have hn := bL hg
 have e0 : Nbg n.toNat ([] : List bH) = upto [] rows 0 := by rw [Kat]; congr 1; omega
 simp (disch := first | assumption | omega) only [SA, SB, SC, SP, SQ, SZ, reduceIte, reduceCtorEq, Nat.reduceAdd, Nat.reduceEqDiff, Ra7]
 rw [iE rows.length (fun i => [i64 i, rL (upto [] rows i)]) (.yield 1, [rL rows]) (by rw [e0]; rfl) (by simp)]
 ·(refine aF ?_; repeat' (refine aG ?_ ?_<;>intro _<;>try simp (disch := first|assumption|omega) only [S0,rA,rQ,rB,rT,rE, *]))
 ·intro i hi hlt
  have hb : InB rows (i : Int) := aM.2 hi
  have hq := hs2 _ (at_mem hi)
  have hu : (upto [] rows i).length = rows.length := Pay [] rows (Nat.le_of_lt hi)
  have hbu : InB (upto [] rows i) (i : Int) := aM.2 (by rw [hu]; exact hi)
  have hu0 : upto [] rows i = fI (upto [] rows i) i ((atI rows (i : Int)).take 0) := by
   have : atI (upto [] rows i) (i : Int) = [] := by
    unfold upto
    rw [uW, List.getD_eq_getElem?_getD, List.getElem?_append_right (by rw [Nbr]; omega), List.getElem?_replicate]
    split <;> rfl
   have h3 := Uae hbu
   rw [this] at h3
   rw [List.take_zero]; exact h3.symm
  have hu1 : fI (upto [] rows i) i (atI rows (i : Int)) = upto [] rows (i + 1) := by
   rw [fI]
   exact Pax [] rows (by rw [aY hi]; exact List.getElem?_eq_getElem hi)
  obtain ⟨hq1, hq2⟩ := hq
  have hr : rows.length <= 10 := by omega
  simp (disch := first|assumption|omega) only [S0,rA,rQ,rB,rT,rE, aS, hlt]
  rw [iE (atI rows (i : Int)).length (fun j => [i64 j, rL (fI (upto [] rows i) i ((atI rows (i : Int)).take j))]) (.yield 3, [rL (upto [] rows (i + 1))]) (by rw [<- hu0]; rfl) (by simp)]
  ·clear hu hu0 hu1
   simp (disch := first|assumption|omega) only [S0,rA,rQ,rB,rT,rE]
  ·intro j hj hlt2
   have hb2 : InB (atI rows (i : Int)) (j : Int) := aM.2 hj
   have hq3 := hq2 _ (at_mem hj)
   have ha : atI (fI (upto [] rows i) (i : Int) ((atI rows (i : Int)).take j)) (i : Int) = (atI rows (i : Int)).take j := by
    have := sO
    exact this.1 hbu
   have hbs : InB (fI (upto [] rows i) (i : Int) ((atI rows (i : Int)).take j)) (i : Int) := aM.2 (by rw [fI, Pbe, hu]; exact hi)
   have hta := take_at hj
   have hll : ((atI rows (i : Int)).take j).length + 1 <= 100000000000 := by rw [Nbr]; omega
   have hll2 : ((atI rows (i : Int)).take j).length + ([atI (atI rows (i : Int)) (j : Int)] : List bH).length <= 100000000000 := hll
   clear hu hu0 hu1
   simp (disch := first|assumption|omega) only [S0,rA,rQ,rB,rT,rE, aS, Daa, oL, fT, Rak, sO, yO, hlt2, ha, hta]
  ·intro hlt2
   rw [Nb0]
   clear hu hu0
   (refine aF ?_; repeat' (refine aG ?_ ?_<;>intro _<;>try simp (disch := first|assumption|omega) only [S0,rA,rQ,rB,rT,rE, *]))
 ·intro hlt
  rw [Paz]
  simp (disch := first|assumption|omega) only [S0,rA,rQ,rB,rT,rE, hlt]
theorem Gap (n : Int) (rows : List (List bH)) (rep no : Int) (r_ballot r_vote r_state r_cmd_kind r_cmd_id r_cmd_src r_cmd_dst r_cmd_amt r_attr_seq : Int) (r_attr_deps : (List Int)) (hg : gN n = true) (hs : mG rows) (hb : InB rows rep) (h1 : 1 <= no) (h2 : no <= 1000) (hx : r_attr_deps.length <= 10000000000) :
  Fun T 88 [i64 rep, i64 no, i64 r_ballot, i64 r_vote, i64 r_state, i64 r_cmd_kind, i64 r_cmd_id, i64 r_cmd_src, i64 r_cmd_dst, i64 r_cmd_amt, i64 r_attr_seq, rL r_attr_deps, i64 n, rL rows] = some [i64 (Pa0 ⟨n, rows⟩ rep no ⟨r_ballot, r_vote, r_state, ⟨r_cmd_kind, r_cmd_id, r_cmd_src, r_cmd_dst, r_cmd_amt⟩, ⟨r_attr_seq, r_attr_deps⟩⟩).n, rL (Pa0 ⟨n, rows⟩ rep no ⟨r_ballot, r_vote, r_state, ⟨r_cmd_kind, r_cmd_id, r_cmd_src, r_cmd_dst, r_cmd_amt⟩, ⟨r_attr_seq, r_attr_deps⟩⟩).rows] := by
 rw [aW (t := Fbp) rfl]; unfold Fbp; unfold Pa0
 have hq := hs.2 _ (fQ hb)
 have hq1 := hq.1
 simp (disch := first|assumption|omega) only [S0,rA,rQ,rB,rT,rE]
 rw [Kar (T := T) (.yield 1, [rL (fI rows rep (ext n (atI rows rep) no))]) (fun j : Nat => (no - (atI rows rep).length).toNat - j) (fun j => j <= (no - (atI rows rep).length).toNat) (fun j => [rL (fI rows rep (atI rows rep ++ Nbg j (row0 n)))]) 0 (by rw [List.replicate_zero, Nbo, Uae hb]; rfl) (by omega) (by simp)]
 ·have hb2 : InB (fI rows rep (ext n (atI rows rep) no)) rep := by unfold InB; rw [fI, Pbe]; exact hb
  have ha : atI (fI rows rep (ext n (atI rows rep) no)) rep = ext n (atI rows rep) no := sO.1 hb
  have hb3 : InB (ext n (atI rows rep) no) (no - 1) := by unfold InB; rw [Paa (by omega)]; omega
  simp (disch := first|assumption|omega) only [S0,rA,rQ,rB,rT,rE, aS, Daa, sO, uH, ha]
 ·intro j hj
  have hb2 : InB (fI rows rep (atI rows rep ++ Nbg j (row0 n))) rep := by unfold InB; rw [fI, Pbe]; exact hb
  have ha : atI (fI rows rep (atI rows rep ++ Nbg j (row0 n))) rep = atI rows rep ++ Nbg j (row0 n) := sO.1 hb
  have hlen : ((atI rows rep ++ Nbg j (row0 n)).length : Int) = (atI rows rep).length + j := by simp
  have hrep : (atI rows rep ++ Nbg j (row0 n)) ++ [row0 n] = atI rows rep ++ Nbg (j + 1) (row0 n) := by rw [Mb7, <- List.replicate_succ']
  have hll : (atI rows rep ++ Nbg j (row0 n)).length + ([row0 n] : List bH).length <= 100000000000 := by simp only [Mb2, Obh, Nbc, Nbj]; omega
  unfold row0 at hrep hll ha hb2 hlen ⊢
  by_cases hc : (atI rows rep).length + j < no
  ·have hc' : decide (((atI rows rep).length : Int) + j < no) = true := by simpa using hc
   refine .inl ⟨j + 1, ?_, by omega, by omega⟩
   simp (disch := first|assumption|omega) only [S0,rA,rQ,rB,rT,rE, aS, Daa, oL, fT, Rak, sO, qU, ha, hlen, hc', hrep]
  ·have hc' : decide (((atI rows rep).length : Int) + j < no) = false := by simpa using hc
   have hj2 : j = (no - (atI rows rep).length).toNat := by omega
   refine .inr ?_
   simp (disch := first|assumption|omega) only [S0,rA,rQ,rB,rT,rE, aS, Daa, oL, fT, Rak, sO, ha, hlen, hc']
   rw [hj2]; rfl
theorem oQ (xs : List Int) (n : Int) (hx : xs.length <= 1099511627776) : Fun T 46 [rL xs, i64 n] = some [.bool (lT xs n)] := by
 rw [aW (t := Gbt) rfl]; unfold Gbt; unfold lT
 simp (disch := first|assumption|omega) only [S0,rA,rQ,rB,rT,rE]
 rw [Gar 1 xs (fun x => x == n) (fun _ => [.bool true])]
 ·(refine aF ?_; repeat' (refine aG ?_ ?_<;>intro _<;>try simp (disch := first|assumption|omega) only [S0,rA,rQ,rB,rT,rE, *]))
 ·intro i hi hb hl hp
  (refine aF ?_; repeat' (refine aG ?_ ?_<;>intro _<;>try simp (disch := first|assumption|omega) only [S0,rA,rQ,rB,rT,rE,aS, *]))
 ·intro i hi hb hl hp
  (refine aF ?_; repeat' (refine aG ?_ ?_<;>intro _<;>try simp (disch := first|assumption|omega) only [S0,rA,rQ,rB,rT,rE,aS, *]))
 ·intro hl
  simp (disch := first|assumption|omega) only [S0,rA,rQ,rB,rT,rE, hl]
theorem slices_Index_int (xs : List Int) (n : Int) (hx : xs.length <= 1099511627776) : Fun T 94 [rL xs, i64 n] = some [i64 (ixF (fun x => n == x) xs)] := by
 rw [aW (t := Fbj) rfl]; unfold Fbj
 simp (disch := first|assumption|omega) only [S0,rA,rQ,rB,rT,rE]
 rw [Gar 1 xs (fun x => n == x) (fun i => [i64 i])]
 ·cases h : xs.any (fun x => n == x)
  ·have e : ixF (fun x => n == x) xs = -1 := by
    have h2 := fO (fun x => n == x) xs
    rw [h] at h2
    unfold ixF at h2 ⊢
    split at h2 <;> simp_all
   rw [e]; simp (disch := first|assumption|omega) only [S0,rA,rQ,rB,rT,rE]
  ·simp (disch := first|assumption|omega) only [S0,rA,rQ,rB,rT,rE]
 ·intro i hi hb hl hp
  (refine aF ?_; repeat' (refine aG ?_ ?_<;>intro _<;>try simp (disch := first|assumption|omega) only [S0,rA,rQ,rB,rT,rE,aS, *]))
 ·intro i hi hb hl hp
  (refine aF ?_; repeat' (refine aG ?_ ?_<;>intro _<;>try simp (disch := first|assumption|omega) only [S0,rA,rQ,rB,rT,rE,aS, *]))
 ·intro hl
  simp (disch := first|assumption|omega) only [S0,rA,rQ,rB,rT,rE, hl]
theorem slices_Contains_int (xs : List Int) (n : Int) (hx : xs.length <= 1099511627776) : Fun T 93 [rL xs, i64 n] = some [.bool (lT xs n)] := by
 rw [aW (t := Fbk) rfl]; unfold Fbk
 have e : lT xs n = xs.any fun x => n == x := by
  unfold lT
  congr 1
  funext x
  rw [Pb3, beq_iff_eq, beq_iff_eq]
  exact eq_comm
 simp (disch := first|assumption|omega) only [S0,rA,rQ,rB,rT,rE, slices_Index_int, fO, e]
theorem Ga8 (xs : List Int) (n : Int) (hx : xs.length <= 10000000000) : Fun T 41 [rL xs, i64 n] = some [rL (Oar xs n)] := by
 rw [aW (t := Gby) rfl]; unfold Gby; unfold Oar
 have hk := Bbt xs n
 have h0 : (aO.mk 1 0).run [] = some [.rows 1 []] := rfl
 simp (disch := first|assumption|omega) only [S0,rA,rQ,rB,rT,rE]
 rw [Kar (T := T) (.yield 1, [i64 (oH xs n : Nat)]) (fun k : Nat => oH xs n - k) (fun k => k <= oH xs n) (fun k => [i64 k]) 0 rfl (by omega) (by simp)]
 ·have l1 : (xs.take (oH xs n)).length <= 10000000000 := by rw [Nbr]; omega
  have l2 : (xs.take (oH xs n)).length + ([n] : List Int).length <= 100000000000 := by simp only [Nbc, Nbj]; omega
  have l3 : (xs.take (oH xs n) ++ [n]).length + (xs.drop (oH xs n)).length <= 100000000000 := by simp only [Mb2, Nbc, Nbj, Obc]; omega
  by_cases h : oH xs n < xs.length
  ·have hb : InB xs (oH xs n : Nat) := aM.2 h
   have h2 : decide ((oH xs n : Int) < xs.length) = true := by simp; omega
   cases h3 : atI xs (oH xs n : Nat) == n
   ·simp (disch := first|assumption|omega) only [S0,rA,rQ,rB,rT,rE, aS, oL, fT, Nas, h0, h2, h3, hb, Obb, Int.toNat_zero, List.drop_zero, Nb0]
   ·simp (disch := first|assumption|omega) only [S0,rA,rQ,rB,rT,rE, aS, oL, fT, Nas, h0, h2, h3, hb]
  ·have h2 : decide ((oH xs n : Int) < xs.length) = false := by simp; omega
   simp (disch := first|assumption|omega) only [S0,rA,rQ,rB,rT,rE, aS, oL, fT, Nas, h0, h2, Obb, Int.toNat_zero, List.drop_zero, Nb0]
 ·intro k hk2
  by_cases h : k < oH xs n
  ·have hb : InB xs (k : Int) := aM.2 (by omega)
   have h2 : decide ((k : Int) < xs.length) = true := by simp; omega
   have h3 : decide (atI xs (k : Int) < n) = true := by simpa using Uao h
   refine .inl ⟨k + 1, ?_, by omega, by omega⟩
   simp (disch := first|assumption|omega) only [S0,rA,rQ,rB,rT,rE, aS, h2, h3, hb]
  ·obtain rfl : k = oH xs n := by omega
   refine .inr ?_
   by_cases h4 : oH xs n < xs.length
   ·have hb : InB xs (oH xs n : Nat) := aM.2 h4
    have h2 : decide ((oH xs n : Int) < xs.length) = true := by simp; omega
    have h3 : decide (atI xs (oH xs n : Nat) < n) = false := by simpa using Uap h4
    simp (disch := first|assumption|omega) only [S0,rA,rQ,rB,rT,rE, aS, h2, h3, hb]
   ·have h2 : decide ((oH xs n : Int) < xs.length) = false := by simp; omega
    simp (disch := first|assumption|omega) only [S0,rA,rQ,rB,rT,rE, aS, h2]
theorem rW (n : Int) (rows : List (List bH)) (hs : ∀ l ∈ rows, l.length <= 6) (hl : rows.length <= 100) : Fun T 29 [i64 n, rL rows] = some [rL (cZ rows)] := by
 rw [aW (t := Hba) rfl]; unfold Hba; unfold cZ
 simp (disch := first|assumption|omega) only [S0,rA,rQ,rB,rT,rE]
 rw [iE rows.length (fun k => [rL (Dap rows k), i64 k]) (.yield 1, [rL (Dap rows rows.length)]) rfl (by simp)]
 ·simp (disch := first|assumption|omega) only [S0,rA,rQ,rB,rT,rE]
 ·intro k hk hlt
  have hb : InB rows (k : Int) := aM.2 hk
  have h6 := hs _ (at_mem hk)
  have hln := Aam hs (m := k) (by omega)
  simp (disch := first|assumption|omega) only [S0,rA,rQ,rB,rT,rE, aS, hlt]
  rw [iE (atI rows (k : Int)).length (fun i => [rL (Dap rows k ++ fD (atI rows (k : Int)) k i), i64 i]) (.yield 3, [rL (Dap rows (k + 1))]) (by show [rL (Dap rows k), _] = _; simp [fD, aJ.val]) (by simp)]
  ·simp (disch := first|assumption|omega) only [S0,rA,rQ,rB,rT,rE]
  ·intro i hi hlt2
   have hb2 : InB (atI rows (k : Int)) (i : Int) := aM.2 hi
   have hlc := rG (atI rows (k : Int)) k i
   have hll : (Dap rows k ++ fD (atI rows (k : Int)) k i).length + ([[(k : Int), (i : Int) + 1]] : List (List Int)).length <= 100000000000 := by
    rw [Mb2]; simp only [Nbc, Nbj]; omega
   have e := oC (atI rows (k : Int)) k i
   cases hst : (atI (atI rows (k : Int)) (i : Int)).state == 3
   ·rw [hst] at e
    simp only [Mb6, if_false, Nbo] at e
    simp (disch := first|assumption|omega) only [S0,rA,rQ,rB,rT,rE, aS, hlt2, hst, e]
   ·rw [hst] at e
    simp only [if_true] at e
    simp (disch := first|assumption|omega) only [S0,rA,rQ,rB,rT,rE, aS, oL, fT, hlt2, hst, e, <- Mb7]
  ·intro hlt2
   rw [<- Aal]
   simp (disch := first|assumption|omega) only [S0,rA,rQ,rB,rT,rE, hlt2]
 ·intro hlt
  simp (disch := first|assumption|omega) only [S0,rA,rQ,rB,rT,rE, hlt]
theorem sM (k m : Int) (r_ballot r_vote r_state r_cmd_kind r_cmd_id r_cmd_src r_cmd_dst r_cmd_amt r_attr_seq : Int) (r_attr_deps : (List Int)) (out : List (List Int)) (hl : out.length <= 10000000000) : Fun T 73 [i64 k, i64 m, i64 r_ballot, i64 r_vote, i64 r_state, i64 r_cmd_kind, i64 r_cmd_id, i64 r_cmd_src, i64 r_cmd_dst, i64 r_cmd_amt, i64 r_attr_seq, rL r_attr_deps, rL out] = some [rL (out ++ if r_state == 3 then [[k, m]] else [])] := by
 rw [aW (t := Fb2) rfl]; unfold Fb2
 have hll : out.length + ([[k, m]] : List (List Int)).length <= 100000000000 := by simp only [Nbc, Nbj]; omega
 cases hst : r_state == 3
 ·simp (disch := first|assumption|omega) only [S0,rA,rQ,rB,rT,rE, hst, Nbo, Mb6]
 ·simp (disch := first|assumption|omega) only [S0,rA,rQ,rB,rT,rE, oL, fT, hst]
theorem Gas (n : Int) (rows : List (List bH)) (hs : ∀ l ∈ rows, l.length <= 6) (hl : rows.length <= 100) : Fun T 72 [i64 n, rL rows, .rows 1 []] = some [rL (cZ rows)] := by
 rw [aW (t := Fb3) rfl]; unfold Fb3; unfold cZ
 simp (disch := first|assumption|omega) only [S0,rA,rQ,rB,rT,rE]
 rw [iE rows.length (fun k => [i64 k, rL (Dap rows k)]) (.yield 1, [rL (Dap rows rows.length)]) rfl (by simp)]
 ·simp (disch := first|assumption|omega) only [S0,rA,rQ,rB,rT,rE]
 ·intro k hk hlt
  have hb : InB rows (k : Int) := aM.2 hk
  have h6 := hs _ (at_mem hk)
  have hln := Aam hs (m := k) (by omega)
  simp (disch := first|assumption|omega) only [S0,rA,rQ,rB,rT,rE, aS, hlt]
  rw [iE (atI rows (k : Int)).length (fun i => [i64 i, rL (Dap rows k ++ fD (atI rows (k : Int)) k i)]) (.yield 3, [rL (Dap rows (k + 1))]) (by show [_, rL (Dap rows k)] = _; simp [fD, aJ.val]) (by simp)]
  ·simp (disch := first|assumption|omega) only [S0,rA,rQ,rB,rT,rE]
  ·intro i hi hlt2
   have hb2 : InB (atI rows (k : Int)) (i : Int) := aM.2 hi
   have hlc := rG (atI rows (k : Int)) k i
   have hll : (Dap rows k ++ fD (atI rows (k : Int)) k i).length <= 10000000000 := by
    rw [Mb2]; omega
   have e := oC (atI rows (k : Int)) k i
   simp (disch := first|assumption|omega) only [S0,rA,rQ,rB,rT,rE, aS, sM, hlt2, e, Mb7]
  ·intro hlt2
   rw [<- Aal]
   simp (disch := first|assumption|omega) only [S0,rA,rQ,rB,rT,rE, hlt2]
 ·intro hlt
  simp (disch := first|assumption|omega) only [S0,rA,rQ,rB,rT,rE, hlt]
theorem lJ (n : Int) (rows : List (List bH)) (hs : ∀ l ∈ rows, l.length <= 6) (hl : rows.length <= 100) : Fun T 71 [i64 n, rL rows] = some [rL (cZ rows)] := by
 rw [aW (t := Fb4) rfl]; unfold Fb4
 have h0 : (aO.mk 1 0).run [] = some [.rows 1 []] := rfl
 simp (disch := first|assumption|omega) only [S0,rA,rQ,rB,rT,rE, h0, Gas]
theorem iB (l : List (List Int)) (x : List Int) (hl : l.length <= 1099511627776) (hx : x.length <= 1099511627776) : Fun T 36 [rL l, rL x] = some [i64 (jJ l x)] := by
 rw [aW (t := Gb3) rfl]; unfold Gb3; unfold jJ
 simp (disch := first|assumption|omega) only [S0,rA,rQ,rB,rT,rE]
 rw [Gar 1 l (fun y => decide (x = y)) (fun i => [i64 i])]
 ·cases h : l.any (fun y => decide (x = y))
  ·have e : ixF (fun y => decide (x = y)) l = -1 := by
    have h2 := fO (fun y => decide (x = y)) l
    rw [h] at h2
    unfold ixF at h2 ⊢
    split at h2 <;> simp_all
   rw [e]; simp (disch := first|assumption|omega) only [S0,rA,rQ,rB,rT,rE]
  ·simp (disch := first|assumption|omega) only [S0,rA,rQ,rB,rT,rE]
 ·intro i hi hb hlt hp
  simp (disch := first|assumption|omega) only [S0,rA,rQ,rB,rT,rE, aS, xE, hlt, hp]
 ·intro i hi hb hlt hp
  simp (disch := first|assumption|omega) only [S0,rA,rQ,rB,rT,rE, aS, xE, hlt, hp]
 ·intro hlt
  simp (disch := first|assumption|omega) only [S0,rA,rQ,rB,rT,rE, hlt]
theorem nU (y x : List Int) (hx : x.length <= 1099511627776) : Fun T 86 [rL y, rL x] = some [.bool (decide (x = y))] := by
 rw [aW (t := Fbq) rfl]; unfold Fbq
 simp (disch := first|assumption|omega) only [S0,rA,rQ,rB,rT,rE, slices_Equal_int]
theorem Ca2 (x : List Int) (hx2 : x.length <= 1099511627776) (xs : List (List Int)) (hx : xs.length <= 1099511627776) : Fun T 85 [rL xs, rL x] = some [i64 (ixF (fun y => decide (x = y)) xs)] := by
 rw [aW (t := Fbr) rfl]; unfold Fbr
 simp (disch := first|assumption|omega) only [S0,rA,rQ,rB,rT,rE, aS, *]
 rw [Gar 1 xs (fun y => decide (x = y)) (fun i => [i64 i])]
 ·cases h : xs.any (fun y => decide (x = y))
  ·have e : ixF (fun y => decide (x = y)) xs = -1 := by
    have h2 := fO (fun y => decide (x = y)) xs
    rw [h] at h2
    unfold ixF at h2 ⊢
    split at h2 <;> simp_all
   rw [e]; simp (disch := first|assumption|omega) only [S0,rA,rQ,rB,rT,rE]
  ·simp (disch := first|assumption|omega) only [S0,rA,rQ,rB,rT,rE]
 ·intro i hi hb hl hp
  (refine aF ?_; repeat' (refine aG ?_ ?_<;>intro _<;>try simp (disch := first|assumption|omega) only [S0,rA,rQ,rB,rT,rE,aS,nU, *]))
 ·intro i hi hb hl hp
  (refine aF ?_; repeat' (refine aG ?_ ?_<;>intro _<;>try simp (disch := first|assumption|omega) only [S0,rA,rQ,rB,rT,rE,aS,nU, *]))
 ·intro hl
  (refine aF ?_; repeat' (refine aG ?_ ?_<;>intro _<;>try simp (disch := first|assumption|omega) only [S0,rA,rQ,rB,rT,rE, *]))
theorem Ca8 (x : List Int) (hx2 : x.length <= 1099511627776) (xs : List (List Int)) (hx : xs.length <= 1099511627776) : Fun T 84 [rL xs, rL x] = some [.bool (xs.any (fun y => decide (x = y)))] := by
 rw [aW (t := Fbs) rfl]; unfold Fbs
 (refine aF ?_; repeat' (refine aG ?_ ?_<;>intro _<;>try simp (disch := first|assumption|omega) only [S0,rA,rQ,rB,rT,rE,Ca2,fO, *]))
theorem lC (l : List (List Int)) (x : List Int) (hl : l.length <= 1099511627776) (hx : x.length <= 1099511627776) : Fun T 83 [rL l, rL x] = some [.bool (l.any fun y => decide (x = y))] := by
 rw [aW (t := Fbt) rfl]; unfold Fbt
 simp (disch := first|assumption|omega) only [S0,rA,rQ,rB,rT,rE, Ca8]
theorem Da7 (n : Int) (rows : List (List bH)) (rep no : Int) (ht : bI ⟨n, rows⟩ = true) (hi : inst n rep no = true) (hs : mG rows) : Fun T 31 [i64 n, rL rows, i64 rep, i64 no] = some [rL (Gat ⟨n, rows⟩ rep no)] := by
 rw [aW (t := Gb8) rfl]; unfold Gb8; unfold Gat
 have hg : gN n = true := aZ ht
 have hn := bL hg
 have hb : InB rows rep := gV ht hi
 have hr := bW hi
 have hd := iW ht hi
 have h6 := lX (pY ht hi) hg
 simp only at hd
 simp (disch := first|assumption|omega) only [S0,rA,rQ,rB,rT,rE, yP]
 generalize (gU ⟨n, rows⟩ rep no).attr.deps = deps at hd h6 ⊢
 have hdl : deps.length <= 5 := by omega
 rw [iE deps.length (fun k => [rL (Rab deps rep no k), i64 k]) (.yield 1, [rL (Rab deps rep no deps.length)]) rfl (by simp)]
 ·simp (disch := first|assumption|omega) only [S0,rA,rQ,rB,rT,rE]
 ·intro k hk hlt
  have hbk : InB deps (k : Int) := aM.2 hk
  have hq := h6 _ (at_mem hk)
  have hln := Dao (deps := deps) (rep := rep) (no := no) (fun d hd => (h6 d hd).2) (m := k) (by omega)
  simp (disch := first|assumption|omega) only [S0,rA,rQ,rB,rT,rE, aS, hlt]
  rw [iE (atI deps (k : Int)).toNat (fun i => [rL (Rab deps rep no k ++ uQ k rep no i), i64 ((i : Int) + 1)]) (.yield 3, [rL (Rab deps rep no (k + 1))]) (by show [rL (Rab deps rep no k), _] = _; simp [uQ, aJ.val]) (by simp)]
  ·simp (disch := first|assumption|omega) only [S0,rA,rQ,rB,rT,rE]
  ·intro i hi2 hlt2
   have hlc := Bao (k : Int) rep no i
   have hll : (Rab deps rep no k ++ uQ (k : Int) rep no i).length + ([[(k : Int), (i : Int) + 1]] : List (List Int)).length <= 100000000000 := by
    rw [Mb2]; simp only [Nbc, Nbj]; omega
   have hle : decide ((i : Int) + 1 <= atI deps (k : Int)) = true := by simp; omega
   have e := Fap (k : Int) rep no i
   cases h1 : (k : Int) == rep
   ·rw [h1] at e
    simp only [Bool.not_false, Bool.true_or, if_true] at e
    simp (disch := first|assumption|omega) only [S0,rA,rQ,rB,rT,rE, oL, fT, hle, h1, e, <- Mb7]
   ·cases h2 : (i : Int) + 1 == no
    ·rw [h1, h2] at e
     simp only [Bool.not_false, Pbl, Pb6, if_true] at e
     simp (disch := first|assumption|omega) only [S0,rA,rQ,rB,rT,rE, oL, fT, hle, h1, h2, e, <- Mb7]
    ·rw [h1, h2] at e
     simp only [Pbl, Pbn, Mb6, if_false, Nbo] at e
     simp (disch := first|assumption|omega) only [S0,rA,rQ,rB,rT,rE, oL, fT, hle, h1, h2, e]
  ·intro hlt2
   have hle : decide ((((atI deps (k : Int)).toNat : Nat) : Int) + 1 <= atI deps (k : Int)) = false := by simp; omega
   rw [<- Nac]
   simp (disch := first|assumption|omega) only [S0,rA,rQ,rB,rT,rE, hle]
 ·intro hlt
  simp (disch := first|assumption|omega) only [S0,rA,rQ,rB,rT,rE, hlt]
theorem Laa (n : Int) (rows : List (List bH)) (ht : bI ⟨n, rows⟩ = true) (hs : mG rows) : Fun T 40 [i64 n, rL rows] = some [rL (cZ rows), rL (Ha5 ⟨n, rows⟩)] := by
 rw [aW (t := Gbz) rfl]; unfold Gbz; unfold Ha5
 have hg : gN n = true := aZ ht
 have hn := bL hg
 have hl : (rows.length : Int) = n := dY ht
 have h6 : ∀ l ∈ rows, l.length <= 6 := fun l hl => (fG ht hl).1
 have hl2 : rows.length <= 100 := by omega
 have hcl : (cZ rows).length <= 6 * rows.length := Aam h6 (Nbd _)
 have hcl2 : (cZ rows).length <= 1099511627776 := by omega
 simp (disch := first|assumption|omega) only [S0,rA,rQ,rB,rT,rE, rW]
 rw [iE (cZ rows).length (fun k => [rL (mW ⟨n, rows⟩ k), i64 k]) (.yield 1, [rL (mW ⟨n, rows⟩ (cZ rows).length)]) rfl (by simp)]
 ·simp (disch := first|assumption|omega) only [S0,rA,rQ,rB,rT,rE]
 ·intro k hk hlt
  have hb : InB (cZ rows) (k : Int) := aM.2 hk
  have hmem := at_mem hk
  obtain ⟨x0, x1, hx2, xi, -⟩ := nC ht hmem
  simp only at xi
  have hgr := Va3 ht hmem
  simp only at hgr
  have hgs := Ea7 ⟨n, rows⟩ k
  simp only at hgs
  rw [<- hgr] at hgs
  have hd6 := lX (pY ht xi) hg
  have hdl := iW ht xi
  simp only at hdl
  have hdep : (Gat ⟨n, rows⟩ (atI (atI (cZ rows) (k : Int)) 0) (atI (atI (cZ rows) (k : Int)) 1)).length <= 30 := by
   have := Dao (rep := atI (atI (cZ rows) (k : Int)) 0) (no := atI (atI (cZ rows) (k : Int)) 1) (fun d hd => (hd6 d hd).2) (Nbd _)
   unfold Gat
   omega
  have hll : (mW ⟨n, rows⟩ k).length + 1 <= 100000000000 := by rw [Ha4]; omega
  simp (disch := first|assumption|omega) only [S0,rA,rQ,rB,rT,rE, aS, Da7, hlt]
  have hys : ∀ y ∈ Gat ⟨n, rows⟩ (atI (atI (cZ rows) (k : Int)) 0) (atI (atI (cZ rows) (k : Int)) 1), y.length <= 1099511627776 := fun y hy => by
   obtain ⟨_, _, _, _, _, rfl⟩ := Dan.1 hy
   simp
  generalize Gat ⟨n, rows⟩ (atI (atI (cZ rows) (k : Int)) 0) (atI (atI (cZ rows) (k : Int)) 1) = ys at hdep hgs hgr hys ⊢
  rw [iE ys.length (fun i => [rL (Naw (cZ rows) ys i), i64 i]) (.yield 3, [rL (Naw (cZ rows) ys ys.length)]) rfl (by simp)]
  ·have hll2 : (mW ⟨n, rows⟩ k).length + ([Naw (cZ rows) ys ys.length] : List (List Int)).length <= 100000000000 := hll
   simp (disch := first|assumption|omega) only [S0,rA,rQ,rB,rT,rE, oL, fT, hgs]
  ·intro i hi hlt2
   have hby : InB ys (i : Int) := aM.2 hi
   have hyl := hys _ (at_mem hi)
   have hpl := Qak (cZ rows) ys i
   have hpl2 : (Naw (cZ rows) ys i).length <= 10000000000 := by omega
   rw [zI]
   cases hf : decide (0 <= jJ (cZ rows) (atI ys (i : Int)))
   ·simp (disch := first|assumption|omega) only [S0,rA,rQ,rB,rT,rE, aS, iB, hlt2, hf, Mb6]
   ·simp (disch := first|assumption|omega) only [S0,rA,rQ,rB,rT,rE, aS, iB, Ga8, hlt2, hf]
  ·intro hlt2
   simp (disch := first|assumption|omega) only [S0,rA,rQ,rB,rT,rE, hlt2]
 ·intro hlt
  simp (disch := first|assumption|omega) only [S0,rA,rQ,rB,rT,rE, hlt]
theorem Ca6 (n : Int) (rows : List (List bH)) (ht : bI ⟨n, rows⟩ = true) (hs : mG rows) : Fun T 89 [i64 n, rL rows] = some [rL (cZ rows), rL (Ha5 ⟨n, rows⟩)] := by
 rw [aW (t := Fbo) rfl]; unfold Fbo; unfold Ha5
 have hg : gN n = true := aZ ht
 have hn := bL hg
 have hl : (rows.length : Int) = n := dY ht
 have h6 : ∀ l ∈ rows, l.length <= 6 := fun l hl => (fG ht hl).1
 have hl2 : rows.length <= 100 := by omega
 have hcl : (cZ rows).length <= 6 * rows.length := Aam h6 (Nbd _)
 have h0 : (aO.mk 1 0).run [] = some [.rows 1 []] := rfl
 simp (disch := first|assumption|omega) only [S0,rA,rQ,rB,rT,rE, lJ, h0]
 rw [iE (cZ rows).length (fun k => [rL (mW ⟨n, rows⟩ k), i64 k]) (.yield 1, [rL (mW ⟨n, rows⟩ (cZ rows).length)]) rfl (by simp)]
 ·simp (disch := first|assumption|omega) only [S0,rA,rQ,rB,rT,rE]
 ·intro k hk hlt
  have hb : InB (cZ rows) (k : Int) := aM.2 hk
  have hmem := at_mem hk
  obtain ⟨x0, x1, hx2, xi, -⟩ := nC ht hmem
  simp only at xi
  have xr := bW xi
  have xb := gV ht xi
  simp only at xb
  have hxl : (atI (cZ rows) (k : Int)).length <= 1099511627776 := by omega
  have hgs := Ea7 ⟨n, rows⟩ k
  simp only at hgs
  have hd := iW ht xi
  simp only at hd
  simp (disch := first|assumption|omega) only [S0,rA,rQ,rB,rT,rE, aS, gQ, hlt, h0]
  rw [iE (cZ rows).length (fun i => [rL (uJ (cZ rows) (gU ⟨n, rows⟩ (atI (atI (cZ rows) (k : Int)) 0) (atI (atI (cZ rows) (k : Int)) 1)).attr.deps (atI (cZ rows) (k : Int)) i), i64 i]) (.yield 3, [rL (uJ (cZ rows) (gU ⟨n, rows⟩ (atI (atI (cZ rows) (k : Int)) 0) (atI (atI (cZ rows) (k : Int)) 1)).attr.deps (atI (cZ rows) (k : Int)) (cZ rows).length)]) rfl (by simp)]
  ·have hll : (mW ⟨n, rows⟩ k).length + 1 <= 100000000000 := by rw [Ha4]; omega
   have hll2 : (mW ⟨n, rows⟩ k).length + ([uJ (cZ rows) (gU ⟨n, rows⟩ (atI (atI (cZ rows) (k : Int)) 0) (atI (atI (cZ rows) (k : Int)) 1)).attr.deps (atI (cZ rows) (k : Int)) (cZ rows).length] : List (List Int)).length <= 100000000000 := hll
   simp (disch := first|assumption|omega) only [S0,rA,rQ,rB,rT,rE, oL, fT, hgs]
  ·intro i hi hlt2
   have hbi : InB (cZ rows) (i : Int) := aM.2 hi
   obtain ⟨y0, y1, -, yi, -⟩ := nC ht (at_mem hi)
   simp only at yi
   have yr := bW yi
   have hbd := Ab9 ht xi yi
   rw [Bai]
   unfold Sax
   generalize (gU ⟨n, rows⟩ (atI (atI (cZ rows) (k : Int)) 0) (atI (atI (cZ rows) (k : Int)) 1)).attr.deps = deps at hbd ⊢
   have hhl := Ea5 (cZ rows) deps (atI (cZ rows) (k : Int)) i
   have hll : (uJ (cZ rows) deps (atI (cZ rows) (k : Int)) i).length + ([(i : Int)] : List Int).length <= 100000000000 := by simp only [Nbc, Nbj]; omega
   cases h1 : decide (atI (cZ rows) (k : Int) = atI (cZ rows) (i : Int))
   ·cases h2 : decide (atI (atI (cZ rows) (i : Int)) 1 <= atI deps (atI (atI (cZ rows) (i : Int)) 0))
    ·simp (disch := first|assumption|omega) only [S0,rA,rQ,rB,rT,rE, aS, slices_Equal_int, hlt2, h1, h2, Mb6, Nbo]
    ·simp (disch := first|assumption|omega) only [S0,rA,rQ,rB,rT,rE, aS, oL, fT, slices_Equal_int, hlt2, h1, h2]
   ·simp (disch := first|assumption|omega) only [S0,rA,rQ,rB,rT,rE, aS, slices_Equal_int, hlt2, h1, Mb6, Nbo]
  ·intro hlt2
   simp (disch := first|assumption|omega) only [S0,rA,rQ,rB,rT,rE, hlt2]
 ·intro hlt
  simp (disch := first|assumption|omega) only [S0,rA,rQ,rB,rT,rE, hlt]
theorem Jas (n : Int) (hg : gN n = true) : Fun T 69 [i64 n] = some [i64 n, rL (Nbg n.toNat ([] : List bH))] := by
 rw [aW (t := Fb6) rfl]; unfold Fb6
 have hn := bL hg
 simp (disch := first|assumption|omega) only [S0,rA,rQ,rB,rT,rE, Fa4]
theorem yN (l : List (List Int)) (x : List Int) (hl : l.length <= 1000) (h2 : ∀ y ∈ l, y.length = 2) (hx : x.length = 2) : Fun T 37 [rL l, rL x] = some [rL (Cbb l x)] := by
 rw [aW (t := Gb2) rfl]; unfold Gb2
 have x0 : InB x 0 := by unfold InB; omega
 have x1 : InB x 1 := by unfold InB; omega
 have hk := Oa2 l x l.length
 have hkl : ((nK l x l.length : Nat) : Int) <= l.length := by omega
 simp (disch := first|assumption|omega) only [S0,rA,rQ,rB,rT,rE]
 rw [Kar (γ := Nat) (.yield 1, [i64 ((nK l x l.length : Nat) : Int)]) (fun k => k) (fun k => k <= l.length /\ nK l x k = nK l x l.length) (fun k => [i64 (k : Int)]) l.length rfl ⟨Nbd _, rfl⟩ (by simp)]
 ·have e0 : (l.take (nK l x l.length)).drop 0 = l.take (nK l x l.length) := rfl
  have e1 : (l.take l.length).drop (nK l x l.length) = l.drop (nK l x l.length) := by rw [Nb0]
  have t1 : (l.take (nK l x l.length)).length <= 1000 := by rw [Nbr]; omega
  have t2 : (l.drop (nK l x l.length)).length <= 1000 := by rw [Obc]; omega
  have t3 : ((l.take (nK l x l.length)) ++ [x]).length <= 1001 := by rw [Mb2]; simp only [Nbc, Nbj]; omega
  have a1 : ([] : List (List Int)).length + (l.drop (nK l x l.length)).length <= 100000000000 := by simp only [Nbj]; omega
  have a2 : ([] : List (List Int)).length + (l.take (nK l x l.length)).length <= 100000000000 := by simp only [Nbj]; omega
  have a3 : (l.take (nK l x l.length)).length + ([x] : List (List Int)).length <= 100000000000 := by simp only [Nbc, Nbj]; omega
  have a4 : ((l.take (nK l x l.length)) ++ [x]).length + (l.drop (nK l x l.length)).length <= 100000000000 := by omega
  have h0 : (aO.mk 1 0).run [] = some [rL ([] : List (List Int))] := rfl
  have b1 : (0 : Int) <= ((nK l x l.length : Nat) : Int) := by omega
  unfold Cbb
  simp (disch := first|assumption|omega) only [S0,rA,rQ,rB,rT,rE, oL, fT, Nas, h0, e0, e1, Obb, Int.toNat_zero, Nb5]
 ·intro k ⟨hkle, hki⟩
  cases k with
  | zero =>
   refine .inr ?_
   have e : nK l x l.length = 0 := by rw [<- hki]; rfl
   have hd0 : decide ((0 : Int) < ((0 : Nat) : Int)) = false := by decide
   rw [e]
   simp (disch := first|assumption|omega) only [S0,rA,rQ,rB,rT,rE, aS, hd0]
  | succ k =>
   have hb : InB l (k : Int) := aM.2 (by omega)
   have hy := h2 _ (at_mem (show k < l.length by omega))
   have y0 : InB (atI l (k : Int)) 0 := by unfold InB; omega
   have y1 : InB (atI l (k : Int)) 1 := by unfold InB; omega
   have hgt : decide (0 < (k : Int) + 1) = true := decide_eq_true (by omega)
   have hsub : (aO.bin .sub).run [i64 ((k : Int) + 1), i64 1] = some [i64 (k : Int)] := by
    have h := Oan (a := (k : Int) + 1) (b := 1) (by omega) (by omega)
    rw [show (k : Int) + 1 - 1 = k by omega] at h
    exact h
   cases hg : gtL (atI l (k : Int)) x
   ·refine .inr ?_
    have e : nK l x l.length = k + 1 := by rw [<- hki]; unfold nK; rw [hg]; simp
    rw [e]
    have hg2 := hg
    unfold gtL at hg2
    cases c1 : decide (atI x 0 < atI (atI l (k : Int)) 0) <;> cases c2 : (atI (atI l (k : Int)) 0 == atI x 0) <;> cases c3 : decide (atI x 1 < atI (atI l (k : Int)) 1) <;> rw [c1, c2, c3] at hg2 <;> first | (cases hg2; done) | skip
    all_goals simp (disch := first|assumption|omega) only [S0,rA,rQ,rB,rT,rE, aS, hgt, hsub, c1, c2, c3]
   ·refine .inl ⟨k, ?_, ⟨by omega, by rw [<- hki]; conv => rhs; unfold nK; rw [hg]; simp⟩, by omega⟩
    have hg2 := hg
    unfold gtL at hg2
    cases c1 : decide (atI x 0 < atI (atI l (k : Int)) 0) <;> cases c2 : (atI (atI l (k : Int)) 0 == atI x 0) <;> cases c3 : decide (atI x 1 < atI (atI l (k : Int)) 1) <;> rw [c1, c2, c3] at hg2 <;> first | (cases hg2; done) | skip
    all_goals simp (disch := first|assumption|omega) only [S0,rA,rQ,rB,rT,rE, aS, hgt, hsub, c1, c2, c3]
theorem Vav (q : Int) (deps : List Int) (hl : deps.length <= 5) (h6 : ∀ d ∈ deps, 0 <= d /\ d <= 6) : Fun T 82 [i64 q, rL deps] = some [rL (wF deps deps.length)] := by
 rw [aW (t := Fbu) rfl]; unfold Fbu
 have h0 : (aO.mk 1 0).run [] = some [rL ([] : List (List Int))] := rfl
 simp (disch := first|assumption|omega) only [S0,rA,rQ,rB,rT,rE, h0]
 rw [iE deps.length (fun k => [rL (wF deps k), i64 k]) (.yield 1, [rL (wF deps deps.length)]) rfl (by simp)]
 ·simp (disch := first|assumption|omega) only [S0,rA,rQ,rB,rT,rE]
 ·intro k hk hlt
  have hbk : InB deps (k : Int) := aM.2 hk
  have hq := h6 _ (at_mem hk)
  have hln := Ea3 (deps := deps) (fun d hd => (h6 d hd).2) (m := k) (by omega)
  simp (disch := first|assumption|omega) only [S0,rA,rQ,rB,rT,rE, aS, hlt]
  rw [iE (atI deps (k : Int)).toNat (fun i => [rL (wF deps k ++ mV k i), i64 ((i : Int) + 1)]) (.yield 3, [rL (wF deps (k + 1))]) (by show [rL (wF deps k), _] = _; simp [mV, aJ.val]) (by simp)]
  ·simp (disch := first|assumption|omega) only [S0,rA,rQ,rB,rT,rE]
  ·intro i hi2 hlt2
   have hlc := Ea2 (k : Int) i
   have hll : (wF deps k ++ mV (k : Int) i).length + ([[(k : Int), (i : Int) + 1]] : List (List Int)).length <= 100000000000 := by
    rw [Mb2]; simp only [Nbc, Nbj]; omega
   have hle : decide ((i : Int) + 1 <= atI deps (k : Int)) = true := by simp; omega
   have e := Man (k : Int) i
   simp (disch := first|assumption|omega) only [S0,rA,rQ,rB,rT,rE, oL, fT, hle, e, <- Mb7]
  ·intro hlt2
   have hle : decide ((((atI deps (k : Int)).toNat : Nat) : Int) + 1 <= atI deps (k : Int)) = false := by simp; omega
   rw [Ha3]
   simp (disch := first|assumption|omega) only [S0,rA,rQ,rB,rT,rE, hle]
 ·intro hlt
  simp (disch := first|assumption|omega) only [S0,rA,rQ,rB,rT,rE, hlt]
theorem sV (n : Int) (rows : List (List bH)) (rep no : Int) (ht : bI ⟨n, rows⟩ = true) (hi : inst n rep no = true) (hc : wG ⟨n, rows⟩ [rep, no] = true) (hs : mG rows) : Fun T 30 [i64 n, rL rows, i64 rep, i64 no] = some [rL (sI ⟨n, rows⟩ [rep, no])] := by
 rw [aW (t := Gb9) rfl]; unfold Gb9
 have hx : eZ n [rep, no] := ⟨rfl, hi⟩
 simp (disch := first|assumption|omega) only [S0,rA,rQ,rB,rT,rE, oL]
 generalize hE : Er T (Tm.loop _ _) _ = E
 obtain ⟨r, h1, s, h2, h3⟩ : ∃ r, E = some r /\ ∃ s, Xag ⟨n, rows⟩ [rep, no] s.met.length s /\ r = (.yield 1, [rL s.out]) := by
  rw [<- hE]
  refine Eat (γ := Nat × SSt) (fun c => 31 - c.1) (fun c => Xag ⟨n, rows⟩ [rep, no] c.1 c.2) (fun c => [rL c.2.met, rL c.2.out, i64 (c.1 : Int)]) (fun r => ∃ s, Xag ⟨n, rows⟩ [rep, no] s.met.length s /\ r = (.yield 1, [rL s.out])) (0, ⟨[[rep, no]], []⟩) ?_ (Xag.start hc) ?_
  ·rfl
  rintro ⟨i, s⟩ hinv
  dsimp only at hinv ⊢
  have hlen := hinv.toSPre.len ht hx
  rcases Nbk i s.met.length with hlt | hge
  ·refine .inl ⟨(i + 1, Hbw ⟨n, rows⟩ s i), ?_, hinv.step ht hx hlt, by dsimp only; omega⟩
   dsimp only
   have hb : InB s.met (i : Int) := aM.2 hlt
   have hd : decide ((i : Int) < s.met.length) = true := by simp; omega
   obtain ⟨hzr, hzc⟩ := hinv.rch _ (at_mem hlt)
   obtain ⟨hz2, hzi⟩ := hzr.inst ht hx
   have z0 : InB (atI s.met (i : Int)) 0 := by unfold InB; omega
   have z1 : InB (atI s.met (i : Int)) 1 := by unfold InB; omega
   have hys : ∀ y ∈ Gat ⟨n, rows⟩ (atI (atI s.met (i : Int)) 0) (atI (atI s.met (i : Int)) 1), Iaj ⟨n, rows⟩ [rep, no] y := fun y hy => .step hzr hzc ((Faq hz2).1 hy).1
   have hyl : (Gat ⟨n, rows⟩ (atI (atI s.met (i : Int)) 0) (atI (atI s.met (i : Int)) 1)).length <= 30 := by
    have hd6 := lX (pY ht hzi) (aZ ht)
    have hdl := iW ht hzi
    have hn := bL (aZ ht)
    simp only at hdl hn
    have := Dao (rep := atI (atI s.met (i : Int)) 0) (no := atI (atI s.met (i : Int)) 1) (fun d hd => (hd6 d hd).2) (Nbd _)
    unfold Gat
    omega
   simp (disch := first|assumption|omega) only [S0,rA,rQ,rB,rT,rE, aS, Da7, hd]
   unfold Hbw
   generalize Gat ⟨n, rows⟩ (atI (atI s.met (i : Int)) 0) (atI (atI s.met (i : Int)) 1) = ys at hys hyl ⊢
   rw [(Waa 3 ys (fun i (s : SSt) => [rL s.met, rL s.out, rL ys, i64 i]) s (Qaa ⟨n, rows⟩) (fun _ s => SPre ⟨n, rows⟩ [rep, no] s) (fun s => [rL s.met, rL s.out]) rfl hinv.toSPre ?_ ?_).1]
   ·simp (disch := first|assumption|omega) only [S0,rA,rQ,rB,rT,rE]
   ·intro j u hj hbj hlt2 hu
    have hul := hu.len ht hx
    have hyr := hys _ (at_mem hj)
    obtain ⟨hy2, hyi⟩ := hyr.inst ht hx
    obtain ⟨k2, -⟩ := Laf ht hx hu hyr
    refine ⟨?_, k2⟩
    have y0 : InB (atI ys (j : Int)) 0 := by unfold InB; omega
    have y1 : InB (atI ys (j : Int)) 1 := by unfold InB; omega
    have hg : gN n = true := aZ ht
    have yb : InB rows (atI (atI ys (j : Int)) 0) := gV ht hyi
    have yr := bW hyi
    have ho2 : ∀ y ∈ u.out, y.length = 2 := fun y hy => ((hu.och y hy).1.inst ht hx).1
    have e1 : u.met.any (fun z => decide (atI ys (j : Int) = z)) = decide (0 <= jJ u.met (atI ys (j : Int))) := (fO _ _).symm
    have e2 : u.out.any (fun z => decide (atI ys (j : Int) = z)) = decide (0 <= jJ u.out (atI ys (j : Int))) := (fO _ _).symm
    have a1 : u.met.length + ([atI ys (j : Int)] : List (List Int)).length <= 100000000000 := by simp only [Nbc, Nbj]; omega
    have b1 : u.met.length <= 1099511627776 := by omega
    have b2 : u.out.length <= 1099511627776 := by omega
    have b3 : (atI ys (j : Int)).length <= 1099511627776 := by omega
    have b4 : u.out.length <= 1000 := by omega
    have hcd : ((gU ⟨n, rows⟩ (atI (atI ys (j : Int)) 0) (atI (atI ys (j : Int)) 1)).state == 3) = wG ⟨n, rows⟩ (atI ys (j : Int)) := rfl
    unfold Qaa
    rw [e1, e2]
    cases c1 : decide (0 <= jJ u.met (atI ys (j : Int)))
    ·cases c2 : decide (0 <= jJ u.out (atI ys (j : Int)))
     ·cases c3 : wG ⟨n, rows⟩ (atI ys (j : Int))
      ·simp (disch := first|assumption|omega) only [S0,rA,rQ,rB,rT,rE, aS, oL, fT, iB, yP, yN, hlt2, c1, c2, hcd, c3, Pbn, Mb6]
      ·simp (disch := first|assumption|omega) only [S0,rA,rQ,rB,rT,rE, aS, oL, fT, iB, yP, yN, hlt2, c1, c2, hcd, c3, Pbn, Mb6]
     ·simp (disch := first|assumption|omega) only [S0,rA,rQ,rB,rT,rE, aS, iB, hlt2, c1, c2, Pb6]
    ·simp (disch := first|assumption|omega) only [S0,rA,rQ,rB,rT,rE, aS, iB, hlt2, c1, Bool.true_or]
   ·intro u hlt2 hu
    simp (disch := first|assumption|omega) only [S0,rA,rQ,rB,rT,rE, hlt2]
  ·obtain rfl : i = s.met.length := by have := hinv.le; omega
   have hd : decide (((s.met.length : Nat) : Int) < s.met.length) = false := by simp
   exact .inr ⟨(.yield 1, [rL s.out]), by simp (disch := first|assumption|omega) only [S0,rA,rQ,rB,rT,rE, hd], by simp, s, hinv, rfl⟩
 subst h3
 rw [h1, <- h2.done ht hx]
 simp (disch := first|assumption|omega) only [S0,rA,rQ,rB,rT,rE]
theorem Ia0 (l : List (List Int)) (h2 : ∀ y ∈ l, y.length = 2) (hl : l.length <= 1000000) : Fun T 87 [rL l] = some [rL ((kG id (l.map prL)).map toL)] := by
 rw [Kah (e := Ead) rfl]
 exact Cb1 h2 hl
theorem xM (n : Int) (rows : List (List bH)) (x : List Int) (ht : bI ⟨n, rows⟩ = true) (hx : eZ n x) (hc : wG ⟨n, rows⟩ x = true) (hs : mG rows) : Fun T 77 [i64 n, rL rows, rL x] = some [rL (sI ⟨n, rows⟩ x)] := by
 rw [aW (t := Fby) rfl]; unfold Fby
 have h0 : (aO.mk 1 0).run [] = some [rL ([] : List (List Int))] := rfl
 simp (disch := first|assumption|omega) only [S0,rA,rQ,rB,rT,rE, oL, h0]
 generalize hE : Er T (Tm.loop _ _) _ = E
 obtain ⟨r, h1, s, h2, h3, h4⟩ : ∃ r, E = some r /\ ∃ s, BInv ⟨n, rows⟩ x s /\ s.wait = [] /\ r = (.yield 1, [rL s.out]) := by
  rw [<- hE]
  refine Eat (γ := BSt) (fun s => 31 + s.wait.length - s.met.length) (fun s => BInv ⟨n, rows⟩ x s /\ s.wait.length <= s.met.length) (fun s => [rL s.met, rL s.out, rL s.wait]) (fun r => ∃ s, BInv ⟨n, rows⟩ x s /\ s.wait = [] /\ r = (.yield 1, [rL s.out])) ⟨[x], [], [x]⟩ ?_ ⟨BInv.start hc, by simp⟩ ?_
  ·rfl
  rintro s ⟨hinv, hwl⟩
  have hlen := hinv.toBPre.len ht hx
  by_cases hw : s.wait = []
  ·have hd : decide ((0 : Int) < (s.wait.length : Nat)) = false := by rw [hw]; rfl
   exact .inr ⟨(.yield 1, [rL s.out]), by simp (disch := first|assumption|omega) only [S0,rA,rQ,rB,rT,rE, hd], by simp, s, hinv, hw, rfl⟩
  ·have hpos : 0 < s.wait.length := List.length_pos_iff.2 hw
   obtain ⟨hst, hms⟩ := hinv.step hw
   have hlen2 := hst.toBPre.len ht hx
   refine .inl ⟨Dbj ⟨n, rows⟩ s, ?_, ⟨hst, by omega⟩, by omega⟩
   have hd : decide ((0 : Int) < (s.wait.length : Nat)) = true := decide_eq_true (by omega)
   have hb : InB s.wait 0 := by unfold InB; omega
   have hzw : atI s.wait 0 ∈ s.wait := fQ hb
   obtain ⟨hzm, hzc⟩ := hinv.wm _ hzw
   have hzr := hinv.rch _ hzm
   obtain ⟨hz2, hzi⟩ := hzr.inst ht hx
   have hzi' : inst n (atI (atI s.wait 0) 0) (atI (atI s.wait 0) 1) = true := hzi
   have z0 : InB (atI s.wait 0) 0 := by unfold InB; omega
   have z1 : InB (atI s.wait 0) 1 := by unfold InB; omega
   have hg : gN n = true := aZ ht
   have zr := bW hzi'
   have zb : InB rows (atI (atI s.wait 0) 0) := gV ht hzi
   have hys : ∀ y ∈ sN ⟨n, rows⟩ (atI s.wait 0), Iaj ⟨n, rows⟩ x y := fun y hy => .step hzr hzc hy
   have hyl := Vaw ht (hzr.inst ht hx)
   have hd6 := lX (pY ht hzi) hg
   have hdl := iW ht hzi
   have hn := bL hg
   simp only at hdl hd6
   have hdl5 : (gU ⟨n, rows⟩ (atI (atI s.wait 0) 0) (atI (atI s.wait 0) 1)).attr.deps.length <= 5 := by omega
   simp (disch := first|assumption|omega) only [S0,rA,rQ,rB,rT,rE, aS, gQ, Vav, hd]
   unfold Dbj
   change _ = some (Kind.cont, _)
   have eh : wF (gU ⟨n, rows⟩ (atI (atI s.wait 0) 0) (atI (atI s.wait 0) 1)).attr.deps (gU ⟨n, rows⟩ (atI (atI s.wait 0) 0) (atI (atI s.wait 0) 1)).attr.deps.length = sN ⟨n, rows⟩ (atI s.wait 0) := rfl
   rw [eh]
   have hfin := Faz (ys := sN ⟨n, rows⟩ (atI s.wait 0)) hinv.toBPre hys
   generalize sN ⟨n, rows⟩ (atI s.wait 0) = ys at hys hyl hfin ⊢
   simp (disch := first|assumption|omega) only [S0,rA,rQ,rB,rT,rE]
   rw [(Waa 3 ys (fun i (s : BSt) => [rL s.met, rL s.out, rL s.wait, rL ys, i64 i]) s (Fay ⟨n, rows⟩) (fun _ u => BPre ⟨n, rows⟩ x u /\ u.wait.length <= u.met.length) (fun s => [rL s.met, rL s.out, rL s.wait]) rfl ⟨hinv.toBPre, hwl⟩ ?_ ?_).1]
   ·obtain ⟨f1, -, -, ⟨w', f4⟩, -⟩ := hfin
    generalize ys.foldl (Fay ⟨n, rows⟩) s = u at f1 f4 ⊢
    have e1 : (u.wait.take u.wait.length).drop 1 = u.wait.drop 1 := by rw [Nb0]
    have hp : 1 <= u.wait.length := by rw [f4, Mb2]; omega
    have hp2 : (1 : Int) <= (u.wait.length : Nat) := by omega
    simp (disch := first|assumption|omega) only [S0,rA,rQ,rB,rT,rE, Nas, e1, Obb, Int.toNat_one]
   ·rintro j u hj hbj hlt2 ⟨hu, huw⟩
    have hul := hu.len ht hx
    have hyr := hys _ (at_mem hj)
    obtain ⟨hy2, hyi⟩ := hyr.inst ht hx
    obtain ⟨k2, -, -, -, -, k6⟩ := Nap hu hyr
    refine ⟨?_, k2, by omega⟩
    have y0 : InB (atI ys (j : Int)) 0 := by unfold InB; omega
    have y1 : InB (atI ys (j : Int)) 1 := by unfold InB; omega
    have yb : InB rows (atI (atI ys (j : Int)) 0) := gV ht hyi
    have yr := bW hyi
    have a1 : u.met.length + ([atI ys (j : Int)] : List (List Int)).length <= 100000000000 := by simp only [Nbc, Nbj]; omega
    have a2 : u.out.length + ([atI ys (j : Int)] : List (List Int)).length <= 100000000000 := by simp only [Nbc, Nbj]; omega
    have a3 : u.wait.length + ([atI ys (j : Int)] : List (List Int)).length <= 100000000000 := by simp only [Nbc, Nbj]; omega
    have b1 : u.met.length <= 1099511627776 := by omega
    have b3 : (atI ys (j : Int)).length <= 1099511627776 := by omega
    have hcd : ((gU ⟨n, rows⟩ (atI (atI ys (j : Int)) 0) (atI (atI ys (j : Int)) 1)).state == 3) = wG ⟨n, rows⟩ (atI ys (j : Int)) := rfl
    unfold Fay
    cases c1 : u.met.any (fun z => decide (atI ys (j : Int) = z))
    ·cases c3 : wG ⟨n, rows⟩ (atI ys (j : Int))
     ·simp (disch := first|assumption|omega) only [S0,rA,rQ,rB,rT,rE, aS, oL, fT, lC, gQ, hlt2, c1, hcd, c3, Mb6]
     ·simp (disch := first|assumption|omega) only [S0,rA,rQ,rB,rT,rE, aS, oL, fT, lC, gQ, hlt2, c1, hcd, c3, Mb6]
    ·simp (disch := first|assumption|omega) only [S0,rA,rQ,rB,rT,rE, aS, lC, hlt2, c1]
   ·intro u hlt2 hu
    simp (disch := first|assumption|omega) only [S0,rA,rQ,rB,rT,rE, hlt2]
 subst h4
 have hol := h2.toBPre.len ht hx
 have ho2 : ∀ y ∈ s.out, y.length = 2 := fun y hy => ((h2.rch y ((h2.out y).1 hy).1).inst ht hx).1
 have hol2 : s.out.length <= 1000000 := by omega
 rw [h1, <- h2.done ht hx h3]
 simp (disch := first|assumption|omega) only [S0,rA,rQ,rB,rT,rE, Ia0]
theorem nT (x : List Int) (n : Int) (rows : List (List bH)) (ht : bI ⟨n, rows⟩ = true) (hs : mG rows) (hx : eZ n x) (hc : wG ⟨n, rows⟩ x = true) : Fun T 76 [rL x, i64 n, rL rows] = some [.bool (wI ⟨n, rows⟩ x)] := by
 rw [aW (t := Fbz) rfl]; unfold Fbz
 simp (disch := first|assumption|omega) only [S0,rA,rQ,rB,rT,rE, xM]
 rfl
theorem Sar (l : List (List Int)) (n : Int) (rows : List (List bH)) (ht : bI ⟨n, rows⟩ = true) (hs : mG rows) (hl : l.length <= 1000) (hx : ∀ x ∈ l, eZ n x /\ wG ⟨n, rows⟩ x = true) : Fun T 75 [rL l, i64 n, rL rows] = some [i64 (ixF (wI ⟨n, rows⟩) l)] := by
 rw [aW (t := Fb0) rfl]; unfold Fb0
 simp (disch := first|assumption|omega) only [S0,rA,rQ,rB,rT,rE]
 rw [Gar 1 l (wI ⟨n, rows⟩) (fun i => [i64 i])]
 ·cases h : l.any (wI ⟨n, rows⟩)
  ·have e : ixF (wI ⟨n, rows⟩) l = -1 := by
    have h2 := fO (wI ⟨n, rows⟩) l
    rw [h] at h2
    unfold ixF at h2 ⊢
    split at h2 <;> simp_all
   rw [e]; simp (disch := first|assumption|omega) only [S0,rA,rQ,rB,rT,rE]
  ·simp (disch := first|assumption|omega) only [S0,rA,rQ,rB,rT,rE]
 ·intro i hi hb hlt hp
  obtain ⟨q1, q2⟩ := hx _ (at_mem hi)
  simp (disch := first|assumption|omega) only [S0,rA,rQ,rB,rT,rE, aS, nT, hlt, hp]
 ·intro i hi hb hlt hp
  obtain ⟨q1, q2⟩ := hx _ (at_mem hi)
  simp (disch := first|assumption|omega) only [S0,rA,rQ,rB,rT,rE, aS, nT, hlt, hp]
 ·intro hlt
  simp (disch := first|assumption|omega) only [S0,rA,rQ,rB,rT,rE, hlt]
theorem Paf (l : List (List Int)) (n : Int) (rows : List (List bH)) (ht : bI ⟨n, rows⟩ = true) (hs : mG rows) (hl : l.length <= 1000) (hx : ∀ x ∈ l, eZ n x /\ wG ⟨n, rows⟩ x = true) : Fun T 74 [rL l, i64 n, rL rows] = some [rL (l.filter fun x => !wI ⟨n, rows⟩ x)] := by
 rw [aW (t := Fb1) rfl]; unfold Fb1
 simp (disch := first|assumption|omega) only [S0,rA,rQ,rB,rT,rE, Sar]
 by_cases h : 0 <= ixF (wI ⟨n, rows⟩) l
 rotate_left
 ·have e : ixF (wI ⟨n, rows⟩) l = -1 := by
   unfold ixF at h ⊢
   split
   ·rename_i i hi; rw [hi] at h; simp at h
   ·rfl
  have e2 : l.filter (fun x => !wI ⟨n, rows⟩ x) = l := by
   rw [List.filter_eq_self]
   intro x hxm
   cases hb : wI ⟨n, rows⟩ x with
   | false => rfl
   | true =>
    obtain ⟨k, hk, rfl⟩ := List.mem_iff_getElem.1 hxm
    exact absurd (Van hk (by rw [aY hk]; exact hb)) h
  rw [e, e2]
  simp (disch := first|assumption|omega) only [S0,rA,rQ,rB,rT,rE]
 ·obtain ⟨h1, h2, h3⟩ := Jan h
  generalize hI : ixF (wI ⟨n, rows⟩) l = I at h h1 h2 h3 ⊢
  obtain ⟨i, rfl⟩ : ∃ i : Nat, I = (i : Int) := ⟨I.toNat, by omega⟩
  have hil : i < l.length := aM.1 h1
  have hne : ((i : Int) == -1) = false := by simp
  have hkeep : (l.take (i + 1)).filter (fun x => !wI ⟨n, rows⟩ x) = l.take i := by
   rw [<- take_at hil, Obr, Ob2 (by rw [h2]; simp), Ob0, Nbo, List.filter_eq_self]
   intro x hxm
   obtain ⟨k, hk, rfl⟩ := List.mem_iff_getElem.1 hxm
   rw [Nbr] at hk
   have h4 := h3 k (by omega)
   rw [aY (by omega)] at h4
   rw [List.getElem_take, h4]
   rfl
  simp (disch := first|assumption|omega) only [S0,rA,rQ,rB,rT,rE, hne]
  generalize hE : Er T (Tm.loop _ _) _ = E
  obtain ⟨r, e1, kept, J, e2, e3, e4⟩ : ∃ r, E = some r /\ ∃ (kept : List (List Int)) (J : List (List D)), kept = l.filter (fun x => !wI ⟨n, rows⟩ x) /\ kept.length + J.length = l.length /\ r = (.yield 1, [nA kept J [], i64 ((kept.length : Nat) : Int)]) := by
   rw [<- hE]
   refine Eat (γ := Nat × List (List D)) (fun c => l.length - c.1) (fun c => i < c.1 /\ c.1 <= l.length /\ ((l.take c.1).filter fun x => !wI ⟨n, rows⟩ x).length + c.2.length = c.1 /\ 0 < c.2.length /\ ∀ r ∈ c.2, r.length = 1)
    (fun c => [nA ((l.take c.1).filter fun x => !wI ⟨n, rows⟩ x) c.2 (l.drop c.1), i64 ((((l.take c.1).filter fun x => !wI ⟨n, rows⟩ x).length : Nat) : Int), i64 (c.1 : Int)])
    (fun r => ∃ (kept : List (List Int)) (J : List (List D)), kept = l.filter (fun x => !wI ⟨n, rows⟩ x) /\ kept.length + J.length = l.length /\ r = (.yield 1, [nA kept J [], i64 ((kept.length : Nat) : Int)])) (i + 1, [Enc.enc (atI l (i : Int))]) ?_ ?_ ?_
   ·dsimp only
    have e : rL l = nA (l.take i) [Enc.enc (atI l (i : Int))] (l.drop (i + 1)) := by
     rw [Wav l (i := i) (by omega), Obs hil, Nad, aY hil]
     rfl
    rw [hkeep, <- e]
    have hti : ((l.take i).length : Int) = (i : Int) := by rw [Nbr]; omega
    rw [hti]
    rfl
   ·dsimp only
    rw [hkeep, Nbr]
    refine ⟨by omega, by omega, by simp only [Nbc, Nbj]; omega, by simp, ?_⟩
    intro r hr
    rw [Mb9] at hr
    rw [hr]
    rfl
   ·rintro ⟨j, J⟩ ⟨k1, k2, k3, k4, k5⟩
    dsimp only at k1 k2 k3 k4 k5 ⊢
    rcases Nbk j l.length with hlt | hge
    ·refine .inl ?_
     have hjm := hx _ (at_mem hlt)
     have hjm1 := hjm.1
     have hjm2 := hjm.2
     have ht1 : (l.take (j + 1)) = l.take j ++ [atI l (j : Int)] := (take_at hlt).symm
     have hd1 : l.drop j = atI l (j : Int) :: l.drop (j + 1) := by rw [Obs hlt, aY hlt]
     have hkl : (l.take j).filter (fun x => !wI ⟨n, rows⟩ x) = (l.take j).filter (fun x => !wI ⟨n, rows⟩ x) := rfl
     generalize hK : (l.take j).filter (fun x => !wI ⟨n, rows⟩ x) = K at k3 hkl ⊢
     have hdl : (l.drop (j + 1)).length + (j + 1) = l.length := by rw [Obc]; omega
     have q1 : aO.len.run [nA K J (l.drop j)] = some [i64 (l.length : Int)] := Ja1 (by rw [hd1, Nbc]; omega)
     have q2 : aO.inb.run [nA K J (l.drop j), i64 (j : Int)] = some [] := Ja2 (by omega) (by rw [hd1]; simp only [Nbc]; omega)
     have q3 : (aO.row 1 0 [false]).run [nA K J (l.drop j), i64 (j : Int)] = some [rL (atI l (j : Int))] := by rw [hd1]; exact Rac (by omega)
     have q4 : aO.inb.run [nA K J (l.drop j), i64 (K.length : Int)] = some [] := Ja2 (by omega) (by rw [hd1]; simp only [Nbc]; omega)
     have q5 : (aO.set 1 0 1).run [nA K J (l.drop j), i64 (j : Int), .hole] = some [nA K (J ++ [[.hole]]) (l.drop (j + 1))] := by rw [hd1]; exact Nae (by omega)
     have hdlt : decide ((j : Int) < (l.length : Nat)) = true := decide_eq_true (by omega)
     obtain ⟨r0, J0, rfl⟩ : ∃ r0 J0, J = r0 :: J0 := by
      match J, k4 with
      | r0 :: J0, _ => exact ⟨r0, J0, rfl⟩
     have q6 : (aO.set 1 0 1).run [nA K (r0 :: J0 ++ [[.hole]]) (l.drop (j + 1)), i64 (K.length : Int), rL (atI l (j : Int))] = some [nA (K ++ [atI l (j : Int)]) (J0 ++ [[.hole]]) (l.drop (j + 1))] := Zan rfl (k5 r0 List.mem_cons_self)
     have q7 : nA K (r0 :: J0) (l.drop j) = nA K (r0 :: J0 ++ [Enc.enc (atI l (j : Int))]) (l.drop (j + 1)) := by rw [hd1, Nad]
     have k3' : K.length + (J0.length + 1) = j := k3
     have hkj : (K.length : Int) <= 1000 := by omega
     cases hb : wI ⟨n, rows⟩ (atI l (j : Int))
     ·refine ⟨(j + 1, J0 ++ [[.hole]]), ?_, ?_, by dsimp only; omega⟩
      ·dsimp only
       rw [ht1, Obr, hK, Pbf (by rw [hb]; rfl), Ob0]
       have hlen : (((K ++ [atI l (j : Int)]).length : Nat) : Int) = (K.length : Int) + 1 := by simp
       rw [hlen]
       simp (disch := first|assumption|omega) only [S0,rA,rQ,rB,rT,rE, q1, q2, q3, q4, q5, q6, hdlt, nT, hb]
      ·dsimp only
       rw [ht1, Obr, hK, Pbf (by rw [hb]; rfl), Ob0]
       refine ⟨by omega, by omega, ?_, ?_, ?_⟩
       ·simp only [Mb2, Nbc, Nbj]; omega
       ·simp only [Mb2, Nbc, Nbj]; omega
       ·intro r hr
        rcases List.mem_append.1 hr with hr | hr
        ·exact k5 r (List.mem_cons_of_mem _ hr)
        ·rw [Mb9] at hr
         rw [hr]
         rfl
     ·refine ⟨(j + 1, r0 :: J0 ++ [Enc.enc (atI l (j : Int))]), ?_, ?_, by dsimp only; omega⟩
      ·dsimp only
       rw [ht1, Obr, hK, Ob2 (by rw [hb]; simp), Ob0, Nbo, <- q7]
       simp (disch := first|assumption|omega) only [S0,rA,rQ,rB,rT,rE, q1, q2, q3, hdlt, nT, hb]
      ·dsimp only
       rw [ht1, Obr, hK, Ob2 (by rw [hb]; simp), Ob0, Nbo]
       refine ⟨by omega, by omega, ?_, ?_, ?_⟩
       ·simp only [Mb2, Nbc, Nbj]; omega
       ·simp only [Mb2, Nbc, Nbj]; omega
       ·intro r hr
        rcases List.mem_append.1 hr with hr | hr
        ·exact k5 r hr
        ·rw [Mb9] at hr
         rw [hr]
         rfl
    ·obtain rfl : j = l.length := by omega
     rw [Nb0] at k3
     refine .inr ⟨(.yield 1, [nA (l.filter fun x => !wI ⟨n, rows⟩ x) J [], i64 (((l.filter fun x => !wI ⟨n, rows⟩ x).length : Nat) : Int)]), ?_, by simp, _, J, rfl, k3, rfl⟩
     rw [Nb0, List.drop_length]
     have q1 : aO.len.run [nA (l.filter fun x => !wI ⟨n, rows⟩ x) J []] = some [i64 (l.length : Int)] := Ja1 (by simp only [Nbj]; omega)
     have hdlt : decide (((l.length : Nat) : Int) < (l.length : Nat)) = false := by simp
     simp (disch := first|assumption|omega) only [S0,rA,rQ,rB,rT,rE, q1, hdlt]
  subst e4
  rw [e1]
  have q1 : aO.len.run [nA kept J []] = some [i64 (l.length : Int)] := Ja1 (by simp only [Nbj]; omega)
  obtain ⟨d, q2⟩ := Zam (kept := kept) (J := J) (n := (l.length : Int)) (k := (kept.length : Int)) rfl (by omega)
  have q3 := Zap (kept := kept) (J := J) (k := (kept.length : Int)) rfl
  have q4 := Zao (kept := kept) (J := J.map fun r => r.map fun _ => D.hole) (k := (kept.length : Int)) rfl
  simp (disch := first|assumption|omega) only [S0,rA,rQ,rB,rT,rE, q1, q2, q3, q4]
  rw [e2]
theorem Ca4 (n : Int) (rows : List (List bH)) (ht : bI ⟨n, rows⟩ = true) (hs : mG rows) : Fun T 70 [i64 n, rL rows] = some [rL (aH ⟨n, rows⟩)] := by
 rw [aW (t := Fb5) rfl]; unfold Fb5; unfold aH
 have hn := bL (aZ ht)
 simp only at hn
 have hl : (rows.length : Int) = n := dY ht
 have h6 : ∀ l ∈ rows, l.length <= 6 := fun l hl => (fG ht hl).1
 have hl2 : rows.length <= 100 := by omega
 have hcl := Bau ht
 simp only at hcl
 have hcl2 : (cZ rows).length <= 1000 := by omega
 have hci : ∀ x ∈ cZ rows, eZ n x /\ wG ⟨n, rows⟩ x = true := fun x hx => Aan ht hx
 simp (disch := first|assumption|omega) only [S0,rA,rQ,rB,rT,rE, lJ, Paf]
theorem Ka8 (n : Int) (rows : List (List bH)) (ht : bI ⟨n, rows⟩ = true) (hs : mG rows) : Fun T 28 [i64 n, rL rows] = some [rL (aH ⟨n, rows⟩)] := by
 rw [aW (t := Hbb) rfl]; unfold Hbb; unfold aH
 have hn := bL (aZ ht)
 simp only at hn
 have hl : (rows.length : Int) = n := dY ht
 have h6 : ∀ l ∈ rows, l.length <= 6 := fun l hl => (fG ht hl).1
 have hl2 : rows.length <= 100 := by omega
 have hcl := Bau ht
 simp only at hcl
 simp (disch := first|assumption|omega) only [S0,rA,rQ,rB,rT,rE, rW]
 rw [iE (cZ rows).length (fun k => [rL (((cZ rows).take k).filter fun x => !wI ⟨n, rows⟩ x), rL (cZ rows), i64 k]) (.yield 1, [rL ((cZ rows).filter fun x => !wI ⟨n, rows⟩ x)]) rfl (by simp)]
 ·simp (disch := first|assumption|omega) only [S0,rA,rQ,rB,rT,rE]
 ·intro k hk hlt
  have hb : InB (cZ rows) (k : Int) := aM.2 hk
  obtain ⟨x0, x1, hx2, xi, -⟩ := nC ht (at_mem hk)
  simp only at xi
  have xc := (Aan ht (at_mem hk)).2
  have hfl : (((cZ rows).take k).filter fun x => !wI ⟨n, rows⟩ x).length <= 30 := by
   have := Obq (fun x => !wI ⟨n, rows⟩ x) ((cZ rows).take k)
   rw [Nbr] at this
   omega
  have e : [atI (atI (cZ rows) (k : Int)) 0, atI (atI (cZ rows) (k : Int)) 1] = atI (cZ rows) (k : Int) := oF hx2
  have xc2 : wG ⟨n, rows⟩ [atI (atI (cZ rows) (k : Int)) 0, atI (atI (cZ rows) (k : Int)) 1] = true := by rw [e]; exact xc
  have a1 : (((cZ rows).take k).filter fun x => !wI ⟨n, rows⟩ x).length + ([atI (cZ rows) (k : Int)] : List (List Int)).length <= 100000000000 := by simp only [Nbc, Nbj]; omega
  rw [<- take_at hk, Obr]
  have eb : wI ⟨n, rows⟩ (atI (cZ rows) (k : Int)) = !(((sI ⟨n, rows⟩ (atI (cZ rows) (k : Int))).length : Int) == 0) := by
   unfold wI
   generalize (sI ⟨n, rows⟩ (atI (cZ rows) (k : Int))).length = L
   cases L with
   | zero => rfl
   | succ L =>
    have e1 : decide ((0 : Int) < ((L + 1 : Nat) : Int)) = true := decide_eq_true (by omega)
    have e2 : (((L + 1 : Nat) : Int) == 0) = false := beq_false_of_ne (by omega)
    rw [e1, e2]
    rfl
  cases hc : (((sI ⟨n, rows⟩ (atI (cZ rows) (k : Int))).length : Int) == 0)
  ·rw [Ob2 (by rw [eb, hc]; simp), Ob0, Nbo]
   simp (disch := first|assumption|omega) only [S0,rA,rQ,rB,rT,rE, aS, sV, hlt, e, hc, Mb6]
  ·rw [Pbf (by rw [eb, hc]; simp), Ob0]
   simp (disch := first|assumption|omega) only [S0,rA,rQ,rB,rT,rE, aS, oL, fT, sV, hlt, e, hc]
 ·intro hlt
  rw [Nb0]
  simp (disch := first|assumption|omega) only [S0,rA,rQ,rB,rT,rE, hlt]
theorem Gad (G : List (List Int)) (a : Int) (hg : GOk G) (ha : InB G a) (hl : G.length <= 1000) (hr : ∀ r ∈ G, r.length <= 1000) : Fun T 45 [rL G, i64 a] = some [rL (kW G a)] := by
 rw [aW (t := Gbu) rfl]; unfold Gbu
 simp (disch := first|assumption|omega) only [S0,rA,rQ,rB,rT,rE, oL]
 generalize hE : Er T (Tm.loop _ _) _ = E
 obtain ⟨r, h1, s, h2, h3⟩ : ∃ r, E = some r /\ ∃ s, Xak G a s.que.length s /\ r = (.yield 1, [rL s.met]) := by
  rw [<- hE]
  refine Eat (γ := Nat × HSt) (fun c => G.length + 1 - c.1) (fun c => Xak G a c.1 c.2) (fun c => [rL c.2.met, rL c.2.que, i64 (c.1 : Int)]) (fun r => ∃ s, Xak G a s.que.length s /\ r = (.yield 1, [rL s.met])) (0, ⟨[a], [a]⟩) ?_ (Xak.start ha) ?_
  ·rfl
  rintro ⟨i, s⟩ hinv
  dsimp only at hinv ⊢
  have hlen := hinv.toHPre.len hg
  rcases Nbk i s.que.length with hlt | hge
  ·refine .inl ⟨(i + 1, (atI G (atI s.que (i : Int))).foldl hI s), ?_, hinv.step hlt, by dsimp only; omega⟩
   dsimp only
   have hb : InB s.que (i : Int) := aM.2 hlt
   have hd : decide ((i : Int) < s.que.length) = true := by simp; omega
   have hzr := hinv.rch _ (at_mem hlt)
   have hzb := hzr.inb hg ha
   have hys : ∀ c ∈ atI G (atI s.que (i : Int)), Rch G a c := fun c hc => .step hzr hc
   have hyl := hr _ (fQ hzb)
   simp (disch := first|assumption|omega) only [S0,rA,rQ,rB,rT,rE, aS, hd]
   generalize atI G (atI s.que (i : Int)) = ys at hys hyl ⊢
   rw [(Waa 3 ys (fun i (s : HSt) => [rL s.met, rL s.que, i64 i]) s hI (fun _ u => HPre G a u) (fun s => [rL s.met, rL s.que]) rfl hinv.toHPre ?_ ?_).1]
   ·simp (disch := first|assumption|omega) only [S0,rA,rQ,rB,rT,rE]
   ·intro j u hj hbj hlt2 hu
    have hul := hu.len hg
    have hyr := hys _ (at_mem hj)
    refine ⟨?_, (Vaz hu hyr).1⟩
    have a1 : u.que.length + ([atI ys (j : Int)] : List Int).length <= 100000000000 := by simp only [Nbc, Nbj]; omega
    have b1 : u.que.length <= 1099511627776 := by omega
    have b2 : u.met.length <= 10000000000 := by omega
    unfold hI
    cases c1 : lT u.que (atI ys (j : Int))
    ·simp (disch := first|assumption|omega) only [S0,rA,rQ,rB,rT,rE, aS, oL, fT, oQ, Ga8, hlt2, c1, Mb6]
    ·simp (disch := first|assumption|omega) only [S0,rA,rQ,rB,rT,rE, aS, oQ, hlt2, c1]
   ·intro u hlt2 hu
    simp (disch := first|assumption|omega) only [S0,rA,rQ,rB,rT,rE, hlt2]
  ·obtain rfl : i = s.que.length := by have := hinv.le; omega
   have hd : decide (((s.que.length : Nat) : Int) < s.que.length) = false := by simp
   exact .inr ⟨(.yield 1, [rL s.met]), by simp (disch := first|assumption|omega) only [S0,rA,rQ,rB,rT,rE, hd], by simp, s, hinv, rfl⟩
 subst h3
 rw [h1, <- h2.done hg]
 simp (disch := first|assumption|omega) only [S0,rA,rQ,rB,rT,rE]
theorem Mah (G : List (List Int)) (a : Int) (hg : GOk G) (ha : InB G a) (hl : G.length <= 1000) (hr : ∀ r ∈ G, r.length <= 1000) : Fun T 92 [rL G, i64 a] = some [rL (kW G a)] := by
 rw [aW (t := Fbl) rfl]; unfold Fbl
 have hrep : InB (Nbg G.length false) a := by unfold InB at ha ⊢; rw [Obh]; exact ha
 have e0 : ((G.length : Nat) : Int).toNat = G.length := Obb _
 have h0 : (aO.mk 1 0).run [] = some [rL ([] : List Int)] := rfl
 simp (disch := first|assumption|omega) only [S0,rA,rQ,rB,rT,rE, oL, Aav, e0]
 generalize hE : Er T (Tm.loop _ _) _ = E
 obtain ⟨r, h1, s, h2, h4, h3⟩ : ∃ r, E = some r /\ ∃ s, GInv G a s /\ s.todo = [] /\ r = (.yield 1, [rL s.marks]) := by
  rw [<- hE]
  refine Eat (γ := GSt) (fun s => s.left) (fun s => GInv G a s) (fun s => [rL s.marks, rL s.todo]) (fun r => ∃ s, GInv G a s /\ s.todo = [] /\ r = (.yield 1, [rL s.marks])) ⟨fI (Nbg G.length false) a true, [a]⟩ ?_ (GInv.start ha) ?_
  ·rfl
  rintro s hinv
  have hcnt := hinv.cnt
  unfold GSt.left at hcnt
  by_cases hw : s.todo = []
  ·have hd : decide ((0 : Int) < (s.todo.length : Nat)) = false := by rw [hw]; rfl
   exact .inr ⟨(.yield 1, [rL s.marks]), by simp (disch := first|assumption|omega) only [S0,rA,rQ,rB,rT,rE, hd], by simp, s, hinv, hw, rfl⟩
  ·have hpos : 0 < s.todo.length := List.length_pos_iff.2 hw
   obtain ⟨hst, hms, hpre⟩ := hinv.step hg hw
   refine .inl ⟨gO G s, ?_, hst, by omega⟩
   have hd : decide ((0 : Int) < (s.todo.length : Nat)) = true := decide_eq_true (by omega)
   have hb : InB s.todo 0 := by unfold InB; omega
   obtain ⟨z1, z2⟩ := hinv.tm _ (fQ hb)
   have zr := hinv.rch _ z1 z2
   have hys : ∀ c ∈ atI G (atI s.todo 0), InB G c /\ Rch G a c := fun c hc => ⟨hg.out z1 hc, .step zr hc⟩
   have hyl := hr _ (fQ z1)
   have hfin := (Oa5 hinv.toGPre hys).2.2.2.1
   simp (disch := first|assumption|omega) only [S0,rA,rQ,rB,rT,rE, aS, hd]
   unfold gO
   generalize atI G (atI s.todo 0) = ys at hys hyl hpre hfin ⊢
   rw [(Waa 3 ys (fun i (s : GSt) => [rL s.marks, rL s.todo, i64 i]) s gI (fun _ u => GPre G a u) (fun s => [rL s.marks, rL s.todo]) rfl hinv.toGPre ?_ ?_).1]
   ·generalize ys.foldl gI s = u at hpre hfin ⊢
    have hcu := hpre.cnt
    unfold GSt.left at hcu
    obtain ⟨w, hw2⟩ := hfin
    have e1 : (u.todo.take u.todo.length).drop 1 = u.todo.drop 1 := by rw [Nb0]
    have hp : 1 <= u.todo.length := by rw [hw2, Mb2]; omega
    have hp2 : (1 : Int) <= (u.todo.length : Nat) := by omega
    simp (disch := first|assumption|omega) only [S0,rA,rQ,rB,rT,rE, Nas, e1, Obb, Int.toNat_one]
   ·intro j u hj hbj hlt2 hu
    have hcu := hu.cnt
    unfold GSt.left at hcu
    have hyr := hys _ (at_mem hj)
    have yb : InB u.marks (atI ys (j : Int)) := by have := hyr.1; unfold InB at this ⊢; rw [hu.len]; exact this
    refine ⟨?_, (Va5 hu hyr.1 hyr.2).1⟩
    have a1 : u.todo.length + ([atI ys (j : Int)] : List Int).length <= 100000000000 := by simp only [Nbc, Nbj]; omega
    unfold gI
    cases c1 : atI u.marks (atI ys (j : Int))
    ·simp (disch := first|assumption|omega) only [S0,rA,rQ,rB,rT,rE, aS, Aav, oL, fT, hlt2, c1, Mb6]
    ·simp (disch := first|assumption|omega) only [S0,rA,rQ,rB,rT,rE, aS, Aav, hlt2, c1]
   ·intro u hlt2 hu
    simp (disch := first|assumption|omega) only [S0,rA,rQ,rB,rT,rE, hlt2]
 subst h3
 rw [h1]
 have hml := h2.len
 have hm3 : s.marks.length <= 1099511627776 := by omega
 simp (disch := first|assumption|omega) only [S0,rA,rQ,rB,rT,rE, Aav, h0]
 rw [iE s.marks.length (fun k => [rL ((nums k).filter (Ca0 G a)), i64 k]) (.yield 5, [rL (kW G a)]) rfl (by simp)]
 ·simp (disch := first|assumption|omega) only [S0,rA,rQ,rB,rT,rE]
 ·intro k hk hlt
  have hb : InB s.marks (k : Int) := aM.2 hk
  have hkb : InB G (k : Int) := aM.2 (by omega)
  have hm := h2.done hg h4 hkb
  have hfl : ((nums k).filter (Ca0 G a)).length <= k := by
   have := Obq (Ca0 G a) (nums k)
   rw [bY] at this
   exact this
  have a1 : ((nums k).filter (Ca0 G a)).length + ([(k : Int)] : List Int).length <= 100000000000 := by simp only [Nbc, Nbj]; omega
  rw [tZ, Obr]
  cases c1 : Ca0 G a (k : Int)
  ·rw [Ob2 (by rw [c1]; simp), Ob0, Nbo]
   simp (disch := first|assumption|omega) only [S0,rA,rQ,rB,rT,rE, Aav, hlt, hm, c1, Mb6]
  ·rw [Pbf c1, Ob0]
   simp (disch := first|assumption|omega) only [S0,rA,rQ,rB,rT,rE, Aav, oL, fT, hlt, hm, c1]
 ·intro hlt
  unfold kW
  rw [hml] at hlt ⊢
  simp (disch := first|assumption|omega) only [S0,rA,rQ,rB,rT,rE, hlt]
theorem Iaw (G : List (List Int)) (hg : GOk G) (hl : G.length <= 1000) (hr : ∀ r ∈ G, r.length <= 1000) : Fun T 44 [rL G] = some [rL (jA G)] := by
 rw [aW (t := Gbv) rfl]; unfold Gbv
 simp (disch := first|assumption|omega) only [S0,rA,rQ,rB,rT,rE, Cb3]
 rw [iE G.length (fun k => [rL ((nums k).map (kW G)), i64 k]) (.yield 1, [rL (rsM G)]) rfl (by simp)]
 ·simp (disch := first|assumption|omega) only [S0,rA,rQ,rB,rT,rE]
  rw [iE G.length (fun k => [rL (Zav G k), i64 k]) (.yield 3, [rL (jA G)]) rfl (by simp)]
  ·simp (disch := first|assumption|omega) only [S0,rA,rQ,rB,rT,rE]
  ·intro k hk hlt
   have hb : InB G (k : Int) := aM.2 hk
   have hb2 := Eag hb
   have hat := Laq hb
   have hrl := vN G (k : Int)
   have hcl := Rae G k
   simp (disch := first|assumption|omega) only [S0,rA,rQ,rB,rT,rE, aS, hlt, hat]
   rw [iE (kW G (k : Int)).length (fun m => [rL (((kW G (k : Int)).take m).filter fun j => Ca0 G j (k : Int)), i64 m]) (.yield 5, [rL (wV G (k : Int))]) rfl (by simp)]
   ·have hs := uK hg hb
    have hgp := Pbh hs
    have hgb : InB (wV G (k : Int)) 0 := by unfold InB; omega
    have a1 : (Zav G k).length + ([wV G (k : Int)] : List (List Int)).length <= 100000000000 := by simp only [Nbc, Nbj]; omega
    rw [Nak]
    cases c1 : (atI (wV G (k : Int)) 0 == (k : Int))
    ·simp (disch := first|assumption|omega) only [S0,rA,rQ,rB,rT,rE, aS, c1, Mb6, Nbo]
    ·simp (disch := first|assumption|omega) only [S0,rA,rQ,rB,rT,rE, aS, oL, fT, c1]
   ·intro m hm hlt2
    have hbm : InB (kW G (k : Int)) (m : Int) := aM.2 hm
    have hj := Ia6 (at_mem hm)
    have hjb := Eag hj
    have hjat := Laq hj
    have hjl := vN G (atI (kW G (k : Int)) (m : Int))
    have hhas := Oa3 hg (j := (k : Int)) hj
    have hfl : (((kW G (k : Int)).take m).filter fun j => Ca0 G j (k : Int)).length <= m := by
     have := Obq (fun j => Ca0 G j (k : Int)) ((kW G (k : Int)).take m)
     rw [Nbr] at this
     omega
    have a1 : (((kW G (k : Int)).take m).filter fun j => Ca0 G j (k : Int)).length + ([atI (kW G (k : Int)) (m : Int)] : List Int).length <= 100000000000 := by simp only [Nbc, Nbj]; omega
    have b1 : (kW G (atI (kW G (k : Int)) (m : Int))).length <= 1099511627776 := by omega
    rw [Zaa hm]
    cases c1 : Ca0 G (atI (kW G (k : Int)) (m : Int)) (k : Int)
    ·simp (disch := first|assumption|omega) only [S0,rA,rQ,rB,rT,rE, aS, oQ, hlt2, hjat, hhas, c1, Mb6, Nbo]
    ·simp (disch := first|assumption|omega) only [S0,rA,rQ,rB,rT,rE, aS, oL, fT, oQ, hlt2, hjat, hhas, c1]
   ·intro hlt2
    rw [Nb0]
    simp (disch := first|assumption|omega) only [S0,rA,rQ,rB,rT,rE, hlt2]
    rfl
  ·intro hlt
   simp (disch := first|assumption|omega) only [S0,rA,rQ,rB,rT,rE, hlt]
   rfl
 ·intro k hk hlt
  have hb : InB G (k : Int) := aM.2 hk
  have hl2 : ((nums k).map (kW G)).length + ([kW G (k : Int)] : List (List Int)).length <= 100000000000 := by simp only [Nbb, bY, Nbc, Nbj]; omega
  have e : (nums (k + 1)).map (kW G) = (nums k).map (kW G) ++ [kW G (k : Int)] := by rw [tZ, Obo]; rfl
  rw [e]
  simp (disch := first|assumption|omega) only [S0,rA,rQ,rB,rT,rE, oL, fT, Gad, hlt]
 ·intro hlt
  simp (disch := first|assumption|omega) only [S0,rA,rQ,rB,rT,rE, hlt]
  rfl
theorem mU (G : List (List Int)) (out : List (List Int)) (C : List Int) (x : Int) (hx : InB G x) (hC : C.length <= 1000) : Fun T 99 [i64 x, rL (pQ G.length out), rL C] = some [.bool (!kV out x && !lT C x)] := by
 rw [aW (t := Fbe) rfl]; unfold Fbe
 have hb : InB (pQ G.length out) x := by unfold InB at hx ⊢; rw [Ma9]; exact hx
 have hat : atI (pQ G.length out) x = kV out x := Uax hx
 cases c1 : kV out x <;> cases c2 : lT C x <;> simp (disch := first|assumption|omega) only [S0,rA,rQ,rB,rT,rE, Aav, slices_Contains_int, hat, c1, c2]
theorem Bah (G : List (List Int)) (out : List (List Int)) (C xs : List Int) (hxs : xs.length <= 1000) (hx : ∀ x ∈ xs, InB G x) (hC : C.length <= 1000) : Fun T 98 [rL xs, rL (pQ G.length out), rL C] = some [i64 (ixF (fun x => !kV out x && !lT C x) xs)] := by
 rw [aW (t := Fbf) rfl]; unfold Fbf
 simp (disch := first|assumption|omega) only [S0,rA,rQ,rB,rT,rE]
 rw [Gar 1 xs (fun x => !kV out x && !lT C x) (fun i => [i64 i])]
 ·cases h : xs.any (fun x => !kV out x && !lT C x)
  ·have e : ixF (fun x => !kV out x && !lT C x) xs = -1 := by
    have h2 := fO (fun x => !kV out x && !lT C x) xs
    rw [h] at h2
    unfold ixF at h2 ⊢
    split at h2 <;> simp_all
   rw [e]; simp (disch := first|assumption|omega) only [S0,rA,rQ,rB,rT,rE]
  ·simp (disch := first|assumption|omega) only [S0,rA,rQ,rB,rT,rE]
 ·intro i hi hb hlt hp
  have q1 := hx _ (at_mem hi)
  simp (disch := first|assumption|omega) only [S0,rA,rQ,rB,rT,rE, aS, mU, hlt, hp]
 ·intro i hi hb hlt hp
  have q1 := hx _ (at_mem hi)
  simp (disch := first|assumption|omega) only [S0,rA,rQ,rB,rT,rE, aS, mU, hlt, hp]
 ·intro hlt
  simp (disch := first|assumption|omega) only [S0,rA,rQ,rB,rT,rE, hlt]
theorem Bap (G : List (List Int)) (out : List (List Int)) (C xs : List Int) (hxs : xs.length <= 1000) (hx : ∀ x ∈ xs, InB G x) (hC : C.length <= 1000) : Fun T 97 [rL xs, rL (pQ G.length out), rL C] = some [.bool (xs.any fun x => !kV out x && !lT C x)] := by
 rw [aW (t := Fbg) rfl]; unfold Fbg
 simp (disch := first|assumption|omega) only [S0,rA,rQ,rB,rT,rE, Bah, fO]
theorem pJ (G : List (List Int)) (out : List (List Int)) (C : List Int) (hl : G.length <= 1000) (hC : C.length <= 1000) (hC0 : InB C 0) (hG : InB G (atI C 0)) : Fun T 96 [rL C, rL (rsM G), rL (pQ G.length out)] = some [.bool (pK G out C)] := by
 rw [aW (t := Fbh) rfl]; unfold Fbh; unfold pK
 have hb2 := Eag hG
 have hat := Laq hG
 have hrl := vN G (atI C 0)
 have hin : ∀ x ∈ kW G (atI C 0), InB G x := fun x hx => Ia6 hx
 have e : ((kW G (atI C 0)).all fun j => kV out j || lT C j) = !((kW G (atI C 0)).any fun x => !kV out x && !lT C x) := by
  rw [List.not_any_eq_all_not]
  congr 1
  funext x
  cases kV out x <;> cases lT C x <;> rfl
 rw [e]
 simp (disch := first|assumption|omega) only [S0,rA,rQ,rB,rT,rE, aS, Bap, hat]
theorem Eax (G : List (List Int)) (out xs : List (List Int)) (hl : G.length <= 1000) (hxs : xs.length <= 1000) (hx : ∀ C ∈ xs, C.length <= 1000 /\ InB C 0 /\ InB G (atI C 0)) : Fun T 95 [rL xs, rL (rsM G), rL (pQ G.length out)] = some [i64 (ixF (pK G out) xs)] := by
 rw [aW (t := Fbi) rfl]; unfold Fbi
 simp (disch := first|assumption|omega) only [S0,rA,rQ,rB,rT,rE]
 rw [Gar 1 xs (pK G out) (fun i => [i64 i])]
 ·cases h : xs.any (pK G out)
  ·have e : ixF (pK G out) xs = -1 := by
    have h2 := fO (pK G out) xs
    rw [h] at h2
    unfold ixF at h2 ⊢
    split at h2 <;> simp_all
   rw [e]; simp (disch := first|assumption|omega) only [S0,rA,rQ,rB,rT,rE]
  ·simp (disch := first|assumption|omega) only [S0,rA,rQ,rB,rT,rE]
 ·intro i hi hb hlt hp
  obtain ⟨q1, q2, q3⟩ := hx _ (at_mem hi)
  simp (disch := first|assumption|omega) only [S0,rA,rQ,rB,rT,rE, aS, pJ, hlt, hp]
 ·intro i hi hb hlt hp
  obtain ⟨q1, q2, q3⟩ := hx _ (at_mem hi)
  simp (disch := first|assumption|omega) only [S0,rA,rQ,rB,rT,rE, aS, pJ, hlt, hp]
 ·intro hlt
  simp (disch := first|assumption|omega) only [S0,rA,rQ,rB,rT,rE, hlt]
theorem Aa5 (G : List (List Int)) (hg : GOk G) (hl : G.length <= 1000) (hr : ∀ r ∈ G, r.length <= 1000) : Fun T 43 [rL G] = some [rL (bK G)] := by
 rw [aW (t := Gbw) rfl]; unfold Gbw
 have h0 : (D.rows 1 []) = rL ([] : List (List Int)) := rfl
 simp (disch := first|assumption|omega) only [S0,rA,rQ,rB,rT,rE, Iaw]
 generalize hE : Er T (Tm.loop _ _) _ = E
 obtain ⟨r, h1, h3⟩ : ∃ r, E = some r /\ r = (.yield 1, [rL (bK G)]) := by
  rw [<- hE]
  refine Eat (γ := CSt) (fun s => s.rest.length) (fun s => Fa9 G s /\ cM G s.rest.length s = bK G) (fun s => [rL s.rest, rL s.out]) (fun r => r = (.yield 1, [rL (bK G)])) ⟨jA G, []⟩ ?_ ⟨Fa9.start G, rfl⟩ ?_
  ·rfl
  rintro s ⟨hinv, hfin⟩
  have hlen := hinv.len
  by_cases hw : s.rest = []
  ·have hd : decide ((0 : Int) < (s.rest.length : Nat)) = false := by rw [hw]; rfl
   refine .inr ⟨(.yield 1, [rL s.out]), by simp (disch := first|assumption|omega) only [S0,rA,rQ,rB,rT,rE, hd], by simp, ?_⟩
   rw [hw] at hfin
   rw [<- hfin]
   rfl
  ·have hpos : 0 < s.rest.length := List.length_pos_iff.2 hw
   obtain ⟨hst, hms⟩ := hinv.step hg hw
   obtain ⟨t1, t2, t3, t4⟩ := hinv.top hg hw
   have hfin2 : cM G (cO G s).rest.length (cO G s) = bK G := by
    rw [<- hfin, <- hms]
    rfl
   refine .inl ⟨cO G s, ?_, ⟨hst, hfin2⟩, by omega⟩
   have hd : decide ((0 : Int) < (s.rest.length : Nat)) = true := decide_eq_true (by omega)
   simp (disch := first|assumption|omega) only [S0,rA,rQ,rB,rT,rE, hd]
   rw [Kar (γ := Nat) (.yield 3, [rL (cO G s).rest, rL (cO G s).out]) (fun i => Gab G s - i) (fun i => i <= Gab G s) (fun i => [i64 (i : Int)]) 0 rfl (Obu _) (by simp)]
   ·simp (disch := first|assumption|omega) only [S0,rA,rQ,rB,rT,rE]
   ·intro i hi
    have hil : i < s.rest.length := by omega
    have hb : InB s.rest (i : Int) := aM.2 hil
    have hd2 : decide ((i : Int) < (s.rest.length : Nat)) = true := decide_eq_true (by omega)
    obtain ⟨g1, g2, g3, g4, g5⟩ := hinv.grp hg (at_mem hil)
    simp (disch := first|assumption|omega) only [S0,rA,rQ,rB,rT,rE, aS, hd2]
    rw [iE (atI s.rest (i : Int)).length (fun m => [.bool (Fad G s.rest i m), i64 m]) (.yield 5, [.bool (pK G s.out (atI s.rest (i : Int)))]) (by rw [Saz]; rfl) (by simp)]
    ·cases hf : pK G s.out (atI s.rest (i : Int))
     ·refine .inl ⟨i + 1, ?_, ?_, ?_⟩
      ·simp (disch := first|assumption|omega) only [S0,rA,rQ,rB,rT,rE, Mb6]
      ·rcases Nbk i (Gab G s) with h | h
       ·omega
       ·obtain rfl : i = Gab G s := by omega
        rw [hf] at t3; cases t3
      ·rcases Nbk i (Gab G s) with h | h
       ·omega
       ·obtain rfl : i = Gab G s := by omega
        rw [hf] at t3; cases t3
     ·refine .inr ?_
      have e : i = Gab G s := by
       rcases Nbk i (Gab G s) with h | h
       ·rw [t4 i h] at hf; cases hf
       ·omega
      unfold cO
      rw [<- e]
      have e1 : (s.rest.take ((i : Int)).toNat).drop (0 : Int).toNat = s.rest.take i := rfl
      have e2 : (s.rest.take ((s.rest.length : Nat) : Int).toNat).drop (((i : Int) + 1)).toNat = s.rest.drop (i + 1) := by
       rw [Obb, Nb0]
       rfl
      have a1 : s.out.length + ([atI s.rest (i : Int)] : List (List Int)).length <= 100000000000 := by simp only [Nbc, Nbj]; omega
      have a2 : ([] : List (List Int)).length + (s.rest.take i).length <= 100000000000 := by simp only [Nbj, Nbr]; omega
      have a3 : (s.rest.take i).length + (s.rest.drop (i + 1)).length <= 100000000000 := by simp only [Nbr, Obc]; omega
      have h0 : (aO.mk 1 0).run [] = some [rL ([] : List (List Int))] := rfl
      simp (disch := first|assumption|omega) only [S0,rA,rQ,rB,rT,rE, oL, fT, Nas, h0, e1, e2, Nb5]
    ·intro m hm hlt2
     have hbm : InB (atI s.rest (i : Int)) (m : Int) := aM.2 hm
     have hjG := g3 _ (at_mem hm)
     have hjl := hr _ (fQ hjG)
     rw [Sa0 hm]
     simp (disch := first|assumption|omega) only [S0,rA,rQ,rB,rT,rE, aS, hlt2]
     generalize atI (atI s.rest (i : Int)) (m : Int) = j at hjG hjl ⊢
     rw [iE s.rest.length (fun k => [.bool (Fad G s.rest i m && Gaq G s.rest i j k), i64 k]) (.yield 7, [.bool (Fad G s.rest i m && Gaq G s.rest i j s.rest.length)]) (by rw [Sa1, Pbr]; rfl) (by simp)]
     ·simp (disch := first|assumption|omega) only [S0,rA,rQ,rB,rT,rE]
     ·intro k hk hlt3
      have hbk : InB s.rest (k : Int) := aM.2 hk
      obtain ⟨k1, k2, k3, k4, k5⟩ := hinv.grp hg (at_mem hk)
      rw [Sa2, <- Pb8]
      generalize (Fad G s.rest i m && Gaq G s.rest i j k) = b0
      simp (disch := first|assumption|omega) only [S0,rA,rQ,rB,rT,rE, aS, hlt3]
      rw [iE (atI s.rest (k : Int)).length (fun q => [.bool (b0 && Fae G s.rest i j k q), i64 q]) (.yield 9, [.bool (b0 && Fae G s.rest i j k (atI s.rest (k : Int)).length)]) (by rw [Sa3, Pbr]; rfl) (by simp)]
      ·simp (disch := first|assumption|omega) only [S0,rA,rQ,rB,rT,rE]
      ·intro q hq hlt4
       have hbq : InB (atI s.rest (k : Int)) (q : Int) := aM.2 hq
       rw [Sa4 hq, <- Pb8]
       have ek : ((k : Int) == (i : Int)) = (k == i) := by
        rw [Pb3, beq_iff_eq, beq_iff_eq]
        omega
       generalize (b0 && Fae G s.rest i j k q) = b1
       have jl2 : (atI G j).length <= 1099511627776 := by omega
       cases b1 <;> cases c2 : (k == i) <;> cases c3 : lT (atI G j) (atI (atI s.rest (k : Int)) (q : Int)) <;> simp (disch := first|assumption|omega) only [S0,rA,rQ,rB,rT,rE, aS, oQ, hlt4, ek, c2, c3] <;> rfl
      ·intro hlt4
       simp (disch := first|assumption|omega) only [S0,rA,rQ,rB,rT,rE, hlt4]
     ·intro hlt3
      simp (disch := first|assumption|omega) only [S0,rA,rQ,rB,rT,rE, hlt3]
    ·intro hlt2
     rw [Va7, Ya8 hg hinv hil]
     simp (disch := first|assumption|omega) only [S0,rA,rQ,rB,rT,rE, hlt2]
 subst h3
 rw [h1]
 simp (disch := first|assumption|omega) only [S0,rA,rQ,rB,rT,rE]
theorem Zak (xs : List (List Int)) (i : Nat) (h : i < xs.length) (hl : xs.length <= 1000000) : Fun T 100 [Saw xs (i : Int), i64 (i : Int), i64 ((i : Int) + 1)] = some [rL (xs.take i ++ xs.drop (i + 1))] := by
 rw [Kah (e := Cbn 1) rfl]
 exact Wau h hl
theorem Ea1 (G : List (List Int)) (hg : GOk G) (hl : G.length <= 1000) (hr : ∀ r ∈ G, r.length <= 1000) : Fun T 91 [rL G] = some [rL (bK G)] := by
 rw [aW (t := Fbm) rfl]; unfold Fbm
 have h0 : (aO.mk 1 0).run [] = some [rL ([] : List (List Int))] := rfl
 have h0' : rL ([] : List (List Int)) = rL ([] : List Int) := rfl
 have e0 : ((G.length : Nat) : Int).toNat = G.length := Obb _
 simp (disch := first|assumption|omega) only [S0,rA,rQ,rB,rT,rE, h0]
 rw [iE G.length (fun k => [i64 k, rL ((nums k).map (kW G))]) (.yield 1, [rL (rsM G)]) rfl (by simp)]
 rotate_left
 ·intro k hk hlt
  have hb : InB G (k : Int) := aM.2 hk
  have hl2 : ((nums k).map (kW G)).length + ([kW G (k : Int)] : List (List Int)).length <= 100000000000 := by simp only [Nbb, bY, Nbc, Nbj]; omega
  have e : (nums (k + 1)).map (kW G) = (nums k).map (kW G) ++ [kW G (k : Int)] := by rw [tZ, Obo]; rfl
  rw [e]
  simp (disch := first|assumption|omega) only [S0,rA,rQ,rB,rT,rE, oL, fT, Mah, hlt]
 ·intro hlt
  simp (disch := first|assumption|omega) only [S0,rA,rQ,rB,rT,rE, hlt]
  rfl
 simp (disch := first|assumption|omega) only [S0,rA,rQ,rB,rT,rE, h0, Aav, e0]
 rw [iE G.length (fun k => [rL (Zav G k), i64 k]) (.yield 3, [rL (jA G)]) rfl (by simp)]
 rotate_left
 ·intro k hk hlt
  have hb : InB G (k : Int) := aM.2 hk
  have hb2 := Eag hb
  have hat := Laq hb
  have hrl := vN G (k : Int)
  have hcl := Rae G k
  simp (disch := first|assumption|omega) only [S0,rA,rQ,rB,rT,rE, hlt, h0]
  rw [iE G.length (fun m => [rL (Abt G (k : Int) m), i64 m]) (.yield 5, [rL (wV G (k : Int))]) rfl (by simp)]
  ·have hs := uK hg hb
   have hgp := Pbh hs
   have hgb : InB (wV G (k : Int)) 0 := by unfold InB; omega
   have a1 : (Zav G k).length + ([wV G (k : Int)] : List (List Int)).length <= 100000000000 := by simp only [Nbc, Nbj]; omega
   rw [Nak]
   cases c1 : (atI (wV G (k : Int)) 0 == (k : Int))
   ·simp (disch := first|assumption|omega) only [S0,rA,rQ,rB,rT,rE, aS, c1, Mb6, Nbo]
   ·simp (disch := first|assumption|omega) only [S0,rA,rQ,rB,rT,rE, aS, oL, fT, c1]
  ·intro m hm hlt2
   have hj : InB G (m : Int) := aM.2 hm
   have hjb := Eag hj
   have hjat := Laq hj
   have hjl := vN G (m : Int)
   have hhas := Oa3 hg (j := (k : Int)) hj
   have hhas2 := Oa3 hg (j := (m : Int)) hb
   have hfl := Ya5 G (k : Int) m
   have a1 : (Abt G (k : Int) m).length + ([(m : Int)] : List Int).length <= 100000000000 := by simp only [Nbc, Nbj]; omega
   have b1 : (kW G (m : Int)).length <= 1099511627776 := by omega
   rw [Va2]
   cases c1 : Ca0 G (k : Int) (m : Int)
   ·simp (disch := first|assumption|omega) only [S0,rA,rQ,rB,rT,rE, aS, slices_Contains_int, hlt2, hat, hhas2, c1, Bool.false_and, Mb6, Nbo]
   ·cases c2 : Ca0 G (m : Int) (k : Int)
    ·simp (disch := first|assumption|omega) only [S0,rA,rQ,rB,rT,rE, aS, slices_Contains_int, hlt2, hat, hjat, hhas, hhas2, c1, c2, Bool.true_and, Mb6, Nbo]
    ·simp (disch := first|assumption|omega) only [S0,rA,rQ,rB,rT,rE, aS, oL, fT, slices_Contains_int, hlt2, hat, hjat, hhas, hhas2, c1, c2, Bool.true_and]
  ·intro hlt2
   rw [Ya6]
   simp (disch := first|assumption|omega) only [S0,rA,rQ,rB,rT,rE, hlt2]
 ·intro hlt
  simp (disch := first|assumption|omega) only [S0,rA,rQ,rB,rT,rE, hlt]
  rfl
 simp (disch := first|assumption|omega) only [S0,rA,rQ,rB,rT,rE, h0]
 generalize hE : Er T (Tm.loop _ _) _ = E
 obtain ⟨r, h1, q, h3⟩ : ∃ r, E = some r /\ ∃ q, r = (.yield 7, [rL (bK G), q]) := by
  rw [<- hE]
  refine Eat (γ := CSt) (fun s => s.rest.length) (fun s => Fa9 G s /\ cM G s.rest.length s = bK G) (fun s => [rL s.rest, rL s.out, rL (pQ G.length s.out)]) (fun r => ∃ q, r = (.yield 7, [rL (bK G), q])) ⟨jA G, []⟩ ?_ ⟨Fa9.start G, rfl⟩ ?_
  ·rw [Wao]
   rfl
  rintro s ⟨hinv, hfin⟩
  have hlen := hinv.len
  by_cases hw : s.rest = []
  ·have hd : decide ((0 : Int) < (s.rest.length : Nat)) = false := by rw [hw]; rfl
   refine .inr ⟨(.yield 7, [rL s.out, rL (pQ G.length s.out)]), by simp (disch := first|assumption|omega) only [S0,rA,rQ,rB,rT,rE, hd], by simp, rL (pQ G.length s.out), ?_⟩
   rw [hw] at hfin
   rw [<- hfin]
   rfl
  ·have hpos : 0 < s.rest.length := List.length_pos_iff.2 hw
   obtain ⟨hst, hms⟩ := hinv.step hg hw
   obtain ⟨t1, t2, t3, t4⟩ := hinv.top hg hw
   have hfin2 : cM G (cO G s).rest.length (cO G s) = bK G := by
    rw [<- hfin, <- hms]
    rfl
   refine .inl ⟨cO G s, ?_, ⟨hst, hfin2⟩, by omega⟩
   have hd : decide ((0 : Int) < (s.rest.length : Nat)) = true := decide_eq_true (by omega)
   have hrl : 0 < (rsM G).length := by rw [Uaf]; omega
   have hdl : 0 < (pQ G.length s.out).length := by rw [Ma9]; omega
   have hx : ∀ C ∈ s.rest, C.length <= 1000 /\ InB C 0 /\ InB G (atI C 0) := fun C hC => by
    obtain ⟨k1, k2, k3, k4, k5⟩ := hinv.grp hg hC
    exact ⟨by omega, k4, k5⟩
   have hb : InB s.rest (Gab G s : Int) := aM.2 t1
   obtain ⟨g1, g2, g3, g4, g5⟩ := hinv.grp hg (at_mem t1)
   simp (disch := first|assumption|omega) only [S0,rA,rQ,rB,rT,rE, aS, Mbv, Eax, t2, hd]
   unfold cO
   generalize Gab G s = i at t1 t2 t3 t4 hb g1 g2 g3 g4 g5 ⊢
   rw [iE (atI s.rest (i : Int)).length (fun m => [i64 m, rL ((nums G.length).map fun j => kV s.out j || lT ((atI s.rest (i : Int)).take m) j)]) (.yield 9, [rL (pQ G.length (s.out ++ [atI s.rest (i : Int)]))]) (by rw [Pad]; rfl) (by simp)]
   ·have a1 : s.out.length + ([atI s.rest (i : Int)] : List (List Int)).length <= 100000000000 := by simp only [Nbc, Nbj]; omega
    simp (disch := first|assumption|omega) only [S0,rA,rQ,rB,rT,rE, aS, Rak, oL, fT, Zak]
   ·intro m hm hlt2
    have hbm : InB (atI s.rest (i : Int)) (m : Int) := aM.2 hm
    have hjG := g3 _ (at_mem hm)
    have hjb : InB ((nums G.length).map fun j => kV s.out j || lT ((atI s.rest (i : Int)).take m) j) (atI (atI s.rest (i : Int)) (m : Int)) := by unfold InB at hjG ⊢; rw [Nbb, bY]; exact hjG
    rw [<- Wan hm hjG]
    simp (disch := first|assumption|omega) only [S0,rA,rQ,rB,rT,rE, aS, Aav, hlt2]
   ·intro hlt2
    rw [Wap]
    simp (disch := first|assumption|omega) only [S0,rA,rQ,rB,rT,rE, hlt2]
 subst h3
 rw [h1]
 simp (disch := first|assumption|omega) only [S0,rA,rQ,rB,rT,rE]
theorem Lac (C ks : List Int) (hC : C.length <= 1000) (hin : ∀ x ∈ C, InB ks x) (hi : ∀ x ∈ C, ∀ y ∈ C, atI ks x = atI ks y -> x = y) : Fun T 47 [rL C, rL ks] = some [rL (kG (iA ks) C)] := by
 rw [aW (t := Gbs) rfl]; unfold Gbs
 simp (disch := first|assumption|omega) only [S0,rA,rQ,rB,rT,rE]
 rw [<- Vag hi]
 rw [(Waa 1 C (fun i (out : List Int) => [rL out, i64 i]) [] (Xaq ks) (fun i out => out.length = i /\ i <= C.length /\ ∀ x ∈ out, InB ks x) (fun out => [rL out]) rfl ⟨rfl, Obu _, fun x hx => by cases hx⟩ ?_ ?_).1]
 ·simp (disch := first|assumption|omega) only [S0,rA,rQ,rB,rT,rE]
 ·rintro i out hi2 hb hlt ⟨o1, o2, o3⟩
  have hxb := hin _ (at_mem hi2)
  have hpl := (Eaw ks out (atI C (i : Int))).length_eq
  refine ⟨?_, ?_⟩
  ·simp (disch := first|assumption|omega) only [S0,rA,rQ,rB,rT,rE, aS, hlt]
   generalize atI C (i : Int) = x at hxb hpl ⊢
   have hk := Oaz ks out x out.length
   rw [Kar (γ := Nat) (.yield 3, [i64 ((Caf ks out x out.length : Nat) : Int), .undef, .undef, .undef, .undef, .undef, .undef, .undef]) (fun k => k) (fun k => k <= out.length /\ Caf ks out x k = Caf ks out x out.length) (fun k => [i64 (k : Int)]) out.length rfl ⟨Nbd _, rfl⟩ (by simp)]
   ·unfold Xaq
    generalize Caf ks out x out.length = k at hk ⊢
    have e0 : (out.take ((k : Nat) : Int).toNat).drop (0 : Int).toNat = out.take k := rfl
    have e1 : (out.take ((out.length : Nat) : Int).toNat).drop ((k : Nat) : Int).toNat = out.drop k := by rw [Obb, Obb, Nb0]
    have t1 : (out.take k).length <= 1000 := by rw [Nbr]; omega
    have t2 : (out.drop k).length <= 1000 := by rw [Obc]; omega
    have a3 : (out.take k).length + ([x] : List Int).length <= 100000000000 := by simp only [Nbc, Nbj]; omega
    have a4 : ((out.take k) ++ [x]).length + (out.drop k).length <= 100000000000 := by simp only [Mb2, Nbc, Nbj]; omega
    have b1 : (0 : Int) <= ((k : Nat) : Int) := by omega
    have b2 : (out.drop k).length <= 10000000000 := by omega
    simp (disch := first|assumption|omega) only [S0,rA,rQ,rB,rT,rE, oL, fT, Nas, Ga9, e0, e1]
   ·rintro k ⟨hkle, hki⟩
    cases k with
    | zero =>
     refine .inr ?_
     have e : Caf ks out x out.length = 0 := by rw [<- hki]; rfl
     have hd0 : decide ((0 : Int) < ((0 : Nat) : Int)) = false := by decide
     rw [e]
     simp (disch := first|assumption|omega) only [S0,rA,rQ,rB,rT,rE, hd0]
    | succ k =>
     have hbk : InB out (k : Int) := aM.2 (by omega)
     have hyb := o3 _ (fQ hbk)
     have hgt : decide (0 < (k : Int) + 1) = true := decide_eq_true (by omega)
     have hsub : (aO.bin .sub).run [i64 ((k : Int) + 1), i64 1] = some [i64 (k : Int)] := by
      have h := Oan (a := (k : Int) + 1) (b := 1) (by omega) (by omega)
      rw [show (k : Int) + 1 - 1 = k by omega] at h
      exact h
     cases hg : decide (atI ks x < atI ks (atI out (k : Int)))
     ·refine .inr ?_
      have e : Caf ks out x out.length = k + 1 := by rw [<- hki]; unfold Caf; rw [hg]; simp
      rw [e]
      simp (disch := first|assumption|omega) only [S0,rA,rQ,rB,rT,rE, aS, hgt, hsub, hg, Mb6]
     ·refine .inl ⟨k, ?_, ⟨by omega, by rw [<- hki]; conv => rhs; unfold Caf; rw [hg]; simp⟩, by omega⟩
      simp (disch := first|assumption|omega) only [S0,rA,rQ,rB,rT,rE, aS, hgt, hsub, hg]
  ·refine ⟨by rw [hpl, Nbc]; omega, by omega, fun y hy => ?_⟩
   rcases List.mem_cons.1 ((Eaw ks out (atI C (i : Int))).mem_iff.1 hy) with h | h
   ·rw [h]; exact hxb
   ·exact o3 y h
 ·rintro out hlt -
  simp (disch := first|assumption|omega) only [S0,rA,rQ,rB,rT,rE, hlt]
theorem Lab (G : List (List Int)) (ks : List Int) (hg : GOk G) (hl : G.length <= 1000) (hr : ∀ r ∈ G, r.length <= 1000) (hk : ks.length = G.length) (hi : ∀ x y, InB G x -> InB G y -> atI ks x = atI ks y -> x = y) : Fun T 42 [rL G, rL ks] = some [rL (lI G ks)] := by
 rw [aW (t := Gbx) rfl]; unfold Gbx
 obtain ⟨c1, c2⟩ := mJ hg
 have hol : (bK G).length <= G.length := Nb4 (jY c1 fun C hC => (c2 C).1 hC) (Bar G)
 simp (disch := first|assumption|omega) only [S0,rA,rQ,rB,rT,rE, Aa5]
 rw [iE (bK G).length (fun m => [rL (sD G ks m), i64 m]) (.yield 1, [rL (lI G ks)]) rfl (by simp)]
 ·simp (disch := first|assumption|omega) only [S0,rA,rQ,rB,rT,rE]
 ·intro m hm hlt
  have hb : InB (bK G) (m : Int) := aM.2 hm
  obtain ⟨a, ha, he, -⟩ := iI ((c2 _).1 (at_mem hm))
  have g1 := Jav G a
  have g2 : ∀ x ∈ atI (bK G) (m : Int), InB G x := fun x hx => Oa4 (by rw [<- he]; exact hx)
  rw [<- he] at g1
  have hC : (atI (bK G) (m : Int)).length <= 1000 := by omega
  have hin : ∀ x ∈ atI (bK G) (m : Int), InB ks x := fun x hx => by have := g2 x hx; unfold InB at this ⊢; rw [hk]; exact this
  have hi2 : ∀ x ∈ atI (bK G) (m : Int), ∀ y ∈ atI (bK G) (m : Int), atI ks x = atI ks y -> x = y := fun x hx y hy => hi x y (g2 x hx) (g2 y hy)
  have o1 := Haq hg ks m
  have a1 : (sD G ks m).length + (kG (iA ks) (atI (bK G) (m : Int))).length <= 100000000000 := by rw [Lam]; omega
  rw [Ean hm]
  simp (disch := first|assumption|omega) only [S0,rA,rQ,rB,rT,rE, aS, fT, Lac, hlt]
 ·intro hlt
  rw [Eao]
  simp (disch := first|assumption|omega) only [S0,rA,rQ,rB,rT,rE, hlt]
theorem Sad (l ks : List Int) (h : Cag l ks = true) (hl : l.length <= 1000000) : Fun T 101 [rL l, rL ks] = some [rL (kG (iA ks) l)] := by
 rw [Kah (e := Hac) rfl]
 exact Cb2 h hl
theorem Sau (G : List (List Int)) (ks : List Int) (hg : GOk G) (hl : G.length <= 1000) (hr : ∀ r ∈ G, r.length <= 1000) (hk : ks.length = G.length) (hkb : ∀ k ∈ ks, 0 <= k /\ k <= 1000000000) (hi : ∀ x y, InB G x -> InB G y -> atI ks x = atI ks y -> x = y) : Fun T 90 [rL G, rL ks] = some [rL (lI G ks)] := by
 rw [aW (t := Fbn) rfl]; unfold Fbn
 obtain ⟨c1, c2⟩ := mJ hg
 have hol : (bK G).length <= G.length := Nb4 (jY c1 fun C hC => (c2 C).1 hC) (Bar G)
 have h0 : (aO.mk 1 0).run [] = some [rL ([] : List (List Int))] := rfl
 have est : rL (bK G) = nA [] (Nbg 0 [D.hole]) ((bK G).drop 0) := Wav (bK G) (Obu _)
 simp (disch := first|assumption|omega) only [S0,rA,rQ,rB,rT,rE, Ea1, h0]
 rw [iE (bK G).length (fun m => [rL (sD G ks m), nA [] (Nbg m [D.hole]) ((bK G).drop m), i64 m]) (.yield 1, [rL (lI G ks)]) (by rw [<- est]; rfl) (by simp)]
 ·simp (disch := first|assumption|omega) only [S0,rA,rQ,rB,rT,rE]
 ·intro m hm hlt
  have hb : InB (bK G) (m : Int) := aM.2 hm
  obtain ⟨a, ha, he, -⟩ := iI ((c2 _).1 (at_mem hm))
  have g1 := Jav G a
  have g2 : ∀ x ∈ atI (bK G) (m : Int), InB G x := fun x hx => Oa4 (by rw [<- he]; exact hx)
  rw [<- he] at g1
  have hC : (atI (bK G) (m : Int)).length <= 1000000 := by omega
  have hin : ∀ x ∈ atI (bK G) (m : Int), InB ks x := fun x hx => by have := g2 x hx; unfold InB at this ⊢; rw [hk]; exact this
  have hi2 : ∀ x ∈ atI (bK G) (m : Int), ∀ y ∈ atI (bK G) (m : Int), atI ks x = atI ks y -> x = y := fun x hx y hy => hi x y (g2 x hx) (g2 y hy)
  have hko := Vah hin hkb hi2
  have o1 := Haq hg ks m
  have a1 : (sD G ks m).length + (kG (iA ks) (atI (bK G) (m : Int))).length <= 100000000000 := by rw [Lam]; omega
  have hd1 : (bK G).drop m = atI (bK G) (m : Int) :: (bK G).drop (m + 1) := by rw [Obs hm, aY hm]
  have hJ : ((Nbg m [D.hole]).length : Int) = (m : Int) := by rw [Obh]
  have q1 : aO.inb.run [nA [] (Nbg m [D.hole]) ((bK G).drop m), i64 (m : Int)] = some [] := Ja2 (by omega) (by rw [hd1, Nbc, hJ, Nbj]; omega)
  have q2 : (aO.row 1 0 [false]).run [nA [] (Nbg m [D.hole]) ((bK G).drop m), i64 (m : Int)] = some [rL (atI (bK G) (m : Int))] := by rw [hd1]; exact Rac (by rw [hJ, Nbj]; omega)
  have q3 : (aO.set 1 0 1).run [nA [] (Nbg m [D.hole]) ((bK G).drop m), i64 (m : Int), .hole] = some [nA [] (Nbg (m + 1) [D.hole]) ((bK G).drop (m + 1))] := by rw [hd1, List.replicate_succ']; exact Nae (by rw [hJ, Nbj]; omega)
  rw [Ean hm]
  simp (disch := first|assumption|omega) only [S0,rA,rQ,rB,rT,rE, fT, Sad, q1, q2, q3, hlt]
 ·intro hlt
  rw [Eao]
  simp (disch := first|assumption|omega) only [S0,rA,rQ,rB,rT,rE, hlt]
theorem Ka9 (n : Int) (rows : List (List bH)) (ht : bI ⟨n, rows⟩ = true) (hs : mG rows) : Fun T 27 [i64 n, rL rows] = some [rL (Qao ⟨n, rows⟩)] := by
 rw [aW (t := Hbc) rfl]; unfold Hbc
 have hg : gN n = true := aZ ht
 have hn := bL hg
 have hl : (rows.length : Int) = n := dY ht
 have hl2 : rows.length <= 100 := by omega
 have hrl := Aa8 ht
 have hgo := Ya7 ⟨n, rows⟩
 have hgl := Ea9 ⟨n, rows⟩
 have hgr : ∀ r ∈ gM ⟨n, rows⟩, r.length <= 1000 := fun r hr => by have := (Va4 hr).1; omega
 have hkl : (wD ⟨n, rows⟩).length = (gM ⟨n, rows⟩).length := by rw [Maa, hgl]
 have hki := Mab ht
 have hrd : ∀ x ∈ aH ⟨n, rows⟩, x ∈ cZ rows := fun x hx => Aa9 hx
 simp (disch := first|assumption|omega) only [S0,rA,rQ,rB,rT,rE, Ka8, Ra6]
 rw [iE rows.length (fun k => [i64 k, rL (Nay (aH ⟨n, rows⟩) ⟨n, rows⟩ k).rows]) (.yield 1, [rL (Nay (aH ⟨n, rows⟩) ⟨n, rows⟩ rows.length).rows]) rfl (by simp)]
 rotate_left
 ·intro k hk hlt
  have hc := Rao.all ht hrd k (by simp only; omega)
  have hcl : (Nay (aH ⟨n, rows⟩) ⟨n, rows⟩ k).rows.length = rows.length := hc.rowsLen ht
  have hcb : InB (Nay (aH ⟨n, rows⟩) ⟨n, rows⟩ k).rows (k : Int) := aM.2 (by omega)
  have hck : (atI (Nay (aH ⟨n, rows⟩) ⟨n, rows⟩ k).rows (k : Int)).length = (atI rows (k : Int)).length := hc.len k
  have h6 : (atI rows (k : Int)).length <= 6 := (fG ht (at_mem hk)).1
  have hck2 : (atI (Nay (aH ⟨n, rows⟩) ⟨n, rows⟩ k).rows (k : Int)).length <= 1099511627776 := by omega
  simp (disch := first|assumption|omega) only [S0,rA,rQ,rB,rT,rE, aS, hlt]
  rw [hck]
  rw [iE (atI rows (k : Int)).length (fun m => [i64 m, rL (Abx (aH ⟨n, rows⟩) k m (Nay (aH ⟨n, rows⟩) ⟨n, rows⟩ k)).rows]) (.yield 3, [rL (Nay (aH ⟨n, rows⟩) ⟨n, rows⟩ (k + 1)).rows]) rfl (by simp)]
  ·simp (disch := first|assumption|omega) only [S0,rA,rQ,rB,rT,rE]
  ·intro m hm hlt2
   have hd := hc.stepN ht (by simp only; exact hk) m (by simp only; omega)
   have e : Abx (aH ⟨n, rows⟩) k (m + 1) (Nay (aH ⟨n, rows⟩) ⟨n, rows⟩ k) = Ebw (aH ⟨n, rows⟩) (Abx (aH ⟨n, rows⟩) k m (Nay (aH ⟨n, rows⟩) ⟨n, rows⟩ k)) k m := rfl
   rw [e]
   generalize Abx (aH ⟨n, rows⟩) k m (Nay (aH ⟨n, rows⟩) ⟨n, rows⟩ k) = u at hd ⊢
   obtain ⟨un, us⟩ := u
   obtain rfl : un = n := hd.n
   have hdl : us.length = rows.length := hd.rowsLen ht
   have hdb : InB us (k : Int) := aM.2 (by omega)
   have hdk : (atI us (k : Int)).length = (atI rows (k : Int)).length := hd.len k
   have hdm : InB (atI us (k : Int)) (m : Int) := aM.2 (by omega)
   have b1 : ([(k : Int), (m : Int) + 1] : List Int).length <= 1099511627776 := by simp
   have b2 : (aH ⟨un, rows⟩).length <= 1099511627776 := by omega
   unfold Ebw
   cases hf : decide (jJ (aH ⟨un, rows⟩) [(k : Int), (m : Int) + 1] < 0)
   ·simp (disch := first|assumption|omega) only [S0,rA,rQ,rB,rT,rE, oL, iB, hlt2, hf, Mb6]
   ·have e1 : ext un (atI us (k : Int)) ((m : Int) + 1) = atI us (k : Int) := Qa8 (by omega)
    have e2 : (m : Int) + 1 - 1 = (m : Int) := by omega
    unfold Pa0
    simp (disch := first|assumption|omega) only [S0,rA,rQ,rB,rT,rE, aS, oL, Daa, iB, xD, hlt2, hf, e1, e2]
    rfl
  ·intro hlt2
   simp (disch := first|assumption|omega) only [S0,rA,rQ,rB,rT,rE, hlt2]
   rfl
 ·intro hlt
  simp (disch := first|assumption|omega) only [S0,rA,rQ,rB,rT,rE, hlt]
 have hred := Zar ht
 simp only at hred
 generalize Nay (aH ⟨n, rows⟩) ⟨n, rows⟩ rows.length = u at hred ⊢
 obtain ⟨un, us⟩ := u
 obtain rfl : un = n := hred.n
 have hok : bI ⟨un, us⟩ = true := hred.ok
 have hus := Ia1 hok
 simp only at hus
 have hcom := hred.com ht
 have hgra := hred.graph ht
 simp only at hcom hgra
 simp (disch := first|assumption|omega) only [S0,rA,rQ,rB,rT,rE, Laa, hcom, hgra]
 rw [iE (aH ⟨un, rows⟩).length (fun m => [rL (((aH ⟨un, rows⟩).take m).map (Dam ⟨un, rows⟩)), i64 m]) (.yield 5, [rL (wD ⟨un, rows⟩)]) rfl (by simp)]
 rotate_left
 ·intro m hm hlt
  have hb : InB (aH ⟨un, rows⟩) (m : Int) := aM.2 hm
  obtain ⟨hi, hst, he, x0, x1⟩ := fA ht (at_mem hm)
  have hi2 : inst un (atI (atI (aH ⟨un, rows⟩) (m : Int)) 0) (atI (atI (aH ⟨un, rows⟩) (m : Int)) 1) = true := hi.2
  have hr := bW hi2
  have hrb : InB rows (atI (atI (aH ⟨un, rows⟩) (m : Int)) 0) := gV ht hi2
  have hsq := zV ht hi
  have hml : (((aH ⟨un, rows⟩).take m).map (Dam ⟨un, rows⟩)).length <= 30 := by rw [Nbb, Nbr]; omega
  have ek : ((aH ⟨un, rows⟩).take (m + 1)).map (Dam ⟨un, rows⟩) = ((aH ⟨un, rows⟩).take m).map (Dam ⟨un, rows⟩) ++ [Dam ⟨un, rows⟩ (atI (aH ⟨un, rows⟩) (m : Int))] := by rw [<- take_at hm, Obo]; rfl
  rw [ek]
  have a1 : (((aH ⟨un, rows⟩).take m).map (Dam ⟨un, rows⟩)).length + ([Dam ⟨un, rows⟩ (atI (aH ⟨un, rows⟩) (m : Int))] : List Int).length <= 100000000000 := by simp only [Nbc, Nbj]; omega
  have ek2 : 100 * (gU ⟨un, rows⟩ (atI (atI (aH ⟨un, rows⟩) (m : Int)) 0) (atI (atI (aH ⟨un, rows⟩) (m : Int)) 1)).attr.seq + 10 * atI (atI (aH ⟨un, rows⟩) (m : Int)) 0 + atI (atI (aH ⟨un, rows⟩) (m : Int)) 1 = Dam ⟨un, rows⟩ (atI (aH ⟨un, rows⟩) (m : Int)) := rfl
  simp (disch := first|assumption|omega) only [S0,rA,rQ,rB,rT,rE, aS, oL, fT, Qaf, yP, ek2, hlt]
 ·intro hlt
  rw [Nb0]
  simp (disch := first|assumption|omega) only [S0,rA,rQ,rB,rT,rE, hlt]
  rfl
 have hjl := Ia9 ⟨un, rows⟩
 simp (disch := first|assumption|omega) only [S0,rA,rQ,rB,rT,rE, Lab]
 have eJ : lI (gM ⟨un, rows⟩) (wD ⟨un, rows⟩) = qP ⟨un, rows⟩ := rfl
 rw [eJ]
 rw [iE (qP ⟨un, rows⟩).length (fun m => [rL (aH ⟨un, rows⟩), rL (((qP ⟨un, rows⟩).take m).map fun j => atI (aH ⟨un, rows⟩) j), i64 m]) (.yield 7, [rL (Qao ⟨un, rows⟩)]) rfl (by simp)]
 ·simp (disch := first|assumption|omega) only [S0,rA,rQ,rB,rT,rE]
 ·intro m hm hlt
  have hb : InB (qP ⟨un, rows⟩) (m : Int) := aM.2 hm
  have hjb := Oav (at_mem hm)
  have hml : (((qP ⟨un, rows⟩).take m).map fun j => atI (aH ⟨un, rows⟩) j).length <= 30 := by rw [Nbb, Nbr]; omega
  have ek : ((qP ⟨un, rows⟩).take (m + 1)).map (fun j => atI (aH ⟨un, rows⟩) j) = ((qP ⟨un, rows⟩).take m).map (fun j => atI (aH ⟨un, rows⟩) j) ++ [atI (aH ⟨un, rows⟩) (atI (qP ⟨un, rows⟩) (m : Int))] := by rw [<- take_at hm, Obo]; rfl
  have a1 : (((qP ⟨un, rows⟩).take m).map fun j => atI (aH ⟨un, rows⟩) j).length + ([atI (aH ⟨un, rows⟩) (atI (qP ⟨un, rows⟩) (m : Int))] : List (List Int)).length <= 100000000000 := by simp only [Nbc, Nbj]; omega
  rw [ek]
  simp (disch := first|assumption|omega) only [S0,rA,rQ,rB,rT,rE, aS, oL, fT, hlt]
 ·intro hlt
  rw [Nb0]
  simp (disch := first|assumption|omega) only [S0,rA,rQ,rB,rT,rE, hlt]
  rfl
theorem Ca5 (n : Int) (rows : List (List bH)) (ht : bI ⟨n, rows⟩ = true) (hs : mG rows) : Fun T 68 [i64 n, rL rows] = some [rL (Qao ⟨n, rows⟩)] := by
 rw [aW (t := Fb7) rfl]; unfold Fb7
 have hg : gN n = true := aZ ht
 have hn := bL hg
 have hl : (rows.length : Int) = n := dY ht
 have hl2 : rows.length <= 100 := by omega
 have hrl := Aa8 ht
 have hgo := Ya7 ⟨n, rows⟩
 have hgl := Ea9 ⟨n, rows⟩
 have hgr : ∀ r ∈ gM ⟨n, rows⟩, r.length <= 1000 := fun r hr => by have := (Va4 hr).1; omega
 have hkl : (wD ⟨n, rows⟩).length = (gM ⟨n, rows⟩).length := by rw [Maa, hgl]
 have hki := Mab ht
 have hkr := Vai ht
 have h0 : (aO.mk 1 0).run [] = some [rL ([] : List (List Int))] := rfl
 simp (disch := first|assumption|omega) only [S0,rA,rQ,rB,rT,rE, Jas, Ca4]
 rw [iE (aH ⟨n, rows⟩).length (fun m => [i64 m, i64 n, rL (Tan ⟨n, rows⟩ m).rows]) (.yield 1, [i64 n, rL (Tan ⟨n, rows⟩ (aH ⟨n, rows⟩).length).rows]) rfl (by simp)]
 rotate_left
 ·intro m hm hlt
  have hb : InB (aH ⟨n, rows⟩) (m : Int) := aM.2 hm
  obtain ⟨hi, hst, he, x0, x1⟩ := fA ht (at_mem hm)
  have hi2 : inst n (atI (atI (aH ⟨n, rows⟩) (m : Int)) 0) (atI (atI (aH ⟨n, rows⟩) (m : Int)) 1) = true := hi.2
  have hr := bW hi2
  have hrb : InB rows (atI (atI (aH ⟨n, rows⟩) (m : Int)) 0) := gV ht hi2
  have hred := Kaf ht m (by omega)
  have hdl := iW ht hi2
  simp only at hdl
  have e : Tan ⟨n, rows⟩ (m + 1) = Pa0 (Tan ⟨n, rows⟩ m) (atI (atI (aH ⟨n, rows⟩) (m : Int)) 0) (atI (atI (aH ⟨n, rows⟩) (m : Int)) 1) (gU ⟨n, rows⟩ (atI (atI (aH ⟨n, rows⟩) (m : Int)) 0) (atI (atI (aH ⟨n, rows⟩) (m : Int)) 1)) := rfl
  rw [e]
  generalize Tan ⟨n, rows⟩ m = u at hred ⊢
  obtain ⟨un, us⟩ := u
  obtain rfl : un = n := hred.n
  have hok : bI ⟨un, us⟩ = true := hred.ok
  have hus := Ia1 hok
  simp only at hus
  have hub : InB us (atI (atI (aH ⟨un, rows⟩) (m : Int)) 0) := gV hok hi2
  have hdl2 : (gU ⟨un, rows⟩ (atI (atI (aH ⟨un, rows⟩) (m : Int)) 0) (atI (atI (aH ⟨un, rows⟩) (m : Int)) 1)).attr.deps.length <= 10000000000 := by omega
  simp (disch := first|assumption|omega) only [S0,rA,rQ,rB,rT,rE, aS, gQ, Gap, hlt]
  rfl
 ·intro hlt
  simp (disch := first|assumption|omega) only [S0,rA,rQ,rB,rT,rE, hlt]
 have hred := Za8 ht
 generalize Tan ⟨n, rows⟩ (aH ⟨n, rows⟩).length = u at hred ⊢
 obtain ⟨un, us⟩ := u
 obtain rfl : un = n := hred.n
 have hok : bI ⟨un, us⟩ = true := hred.ok
 have hus := Ia1 hok
 simp only at hus
 have hcom := hred.com ht
 have hgra := hred.graph ht
 simp only at hcom hgra
 simp (disch := first|assumption|omega) only [S0,rA,rQ,rB,rT,rE, Ca6, hcom, hgra, h0]
 rw [iE (aH ⟨un, rows⟩).length (fun m => [rL (((aH ⟨un, rows⟩).take m).map (Dam ⟨un, rows⟩)), i64 m]) (.yield 3, [rL (wD ⟨un, rows⟩)]) rfl (by simp)]
 rotate_left
 ·intro m hm hlt
  have hb : InB (aH ⟨un, rows⟩) (m : Int) := aM.2 hm
  obtain ⟨hi, hst, he, x0, x1⟩ := fA ht (at_mem hm)
  have hi2 : inst un (atI (atI (aH ⟨un, rows⟩) (m : Int)) 0) (atI (atI (aH ⟨un, rows⟩) (m : Int)) 1) = true := hi.2
  have hr := bW hi2
  have hrb : InB us (atI (atI (aH ⟨un, rows⟩) (m : Int)) 0) := gV hok hi2
  have hsq := zV ht hi
  have htr : gU ⟨un, us⟩ (atI (atI (aH ⟨un, rows⟩) (m : Int)) 0) (atI (atI (aH ⟨un, rows⟩) (m : Int)) 1) = gU ⟨un, rows⟩ (atI (atI (aH ⟨un, rows⟩) (m : Int)) 0) (atI (atI (aH ⟨un, rows⟩) (m : Int)) 1) := by
   rw [hred.row _ _ hi2, if_pos (by rw [<- he]; exact at_mem hm)]
  have hml : (((aH ⟨un, rows⟩).take m).map (Dam ⟨un, rows⟩)).length <= 30 := by rw [Nbb, Nbr]; omega
  have ek : ((aH ⟨un, rows⟩).take (m + 1)).map (Dam ⟨un, rows⟩) = ((aH ⟨un, rows⟩).take m).map (Dam ⟨un, rows⟩) ++ [Dam ⟨un, rows⟩ (atI (aH ⟨un, rows⟩) (m : Int))] := by rw [<- take_at hm, Obo]; rfl
  rw [ek]
  have a1 : (((aH ⟨un, rows⟩).take m).map (Dam ⟨un, rows⟩)).length + ([Dam ⟨un, rows⟩ (atI (aH ⟨un, rows⟩) (m : Int))] : List Int).length <= 100000000000 := by simp only [Nbc, Nbj]; omega
  have ek2 : 100 * (gU ⟨un, rows⟩ (atI (atI (aH ⟨un, rows⟩) (m : Int)) 0) (atI (atI (aH ⟨un, rows⟩) (m : Int)) 1)).attr.seq + 10 * atI (atI (aH ⟨un, rows⟩) (m : Int)) 0 + atI (atI (aH ⟨un, rows⟩) (m : Int)) 1 = Dam ⟨un, rows⟩ (atI (aH ⟨un, rows⟩) (m : Int)) := rfl
  simp (disch := first|assumption|omega) only [S0,rA,rQ,rB,rT,rE, aS, oL, fT, Qaf, gQ, htr, ek2, hlt]
 ·intro hlt
  rw [Nb0]
  simp (disch := first|assumption|omega) only [S0,rA,rQ,rB,rT,rE, hlt]
  rfl
 have hjl := Ia9 ⟨un, rows⟩
 simp (disch := first|assumption|omega) only [S0,rA,rQ,rB,rT,rE, Sau, h0]
 have eJ : lI (gM ⟨un, rows⟩) (wD ⟨un, rows⟩) = qP ⟨un, rows⟩ := rfl
 have hnd : (qP ⟨un, rows⟩).Nodup := Cac hgo _
 have est : rL (aH ⟨un, rows⟩) = hsD (aH ⟨un, rows⟩) (fun j => lT ((qP ⟨un, rows⟩).take 0) j) := (Ebs _ fun j _ => rfl).symm
 rw [eJ]
 generalize hE : Er T (Tm.loop _ _) _ = E
 obtain ⟨r, h1, h3⟩ : ∃ r, E = some r /\ r = (.yield 5, [rL (Qao ⟨un, rows⟩)]) := by
  refine ⟨_, ?_, rfl⟩
  rw [<- hE]
  rw [iE (qP ⟨un, rows⟩).length (fun m => [hsD (aH ⟨un, rows⟩) (fun j => lT ((qP ⟨un, rows⟩).take m) j), rL (((qP ⟨un, rows⟩).take m).map fun j => atI (aH ⟨un, rows⟩) j), i64 m]) (.yield 5, [rL (Qao ⟨un, rows⟩)]) (by rw [<- est]; rfl) (by simp)]
  ·intro m hm hlt
   have hb : InB (qP ⟨un, rows⟩) (m : Int) := aM.2 hm
   have hjb := Oav (at_mem hm)
   have hml : (((qP ⟨un, rows⟩).take m).map fun j => atI (aH ⟨un, rows⟩) j).length <= 30 := by rw [Nbb, Nbr]; omega
   have ek : ((qP ⟨un, rows⟩).take (m + 1)).map (fun j => atI (aH ⟨un, rows⟩) j) = ((qP ⟨un, rows⟩).take m).map (fun j => atI (aH ⟨un, rows⟩) j) ++ [atI (aH ⟨un, rows⟩) (atI (qP ⟨un, rows⟩) (m : Int))] := by rw [<- take_at hm, Obo]; rfl
   have a1 : (((qP ⟨un, rows⟩).take m).map fun j => atI (aH ⟨un, rows⟩) j).length + ([atI (aH ⟨un, rows⟩) (atI (qP ⟨un, rows⟩) (m : Int))] : List (List Int)).length <= 100000000000 := by simp only [Nbc, Nbj]; omega
   have hnot : lT ((qP ⟨un, rows⟩).take m) (atI (qP ⟨un, rows⟩) (m : Int)) = false := by
    rw [<- Bool.not_eq_true, lS]
    intro hmem
    obtain ⟨i, hi, e⟩ := List.mem_iff_getElem.1 hmem
    rw [Nbr] at hi
    rw [List.getElem_take, aY hm] at e
    have := (List.getElem_inj hnd).1 e
    omega
   have ep : (fun j => lT ((qP ⟨un, rows⟩).take (m + 1)) j) = fun j => lT ((qP ⟨un, rows⟩).take m) j || j == atI (qP ⟨un, rows⟩) (m : Int) := funext fun j => Qa0 hm j
   have q1 : aO.inb.run [hsD (aH ⟨un, rows⟩) (fun j => lT ((qP ⟨un, rows⟩).take m) j), i64 (atI (qP ⟨un, rows⟩) (m : Int))] = some [] := Cbe hjb
   have q2 : (aO.row 1 0 [false]).run [hsD (aH ⟨un, rows⟩) (fun j => lT ((qP ⟨un, rows⟩).take m) j), i64 (atI (qP ⟨un, rows⟩) (m : Int))] = some [rL (atI (aH ⟨un, rows⟩) (atI (qP ⟨un, rows⟩) (m : Int)))] := Cbd hjb hnot
   have q3 : (aO.set 1 0 1).run [hsD (aH ⟨un, rows⟩) (fun j => lT ((qP ⟨un, rows⟩).take m) j), i64 (atI (qP ⟨un, rows⟩) (m : Int)), .hole] = some [hsD (aH ⟨un, rows⟩) (fun j => lT ((qP ⟨un, rows⟩).take (m + 1)) j)] := by rw [ep]; exact Ya3 hjb
   rw [ek]
   simp (disch := first|assumption|omega) only [S0,rA,rQ,rB,rT,rE, aS, oL, fT, q1, q2, q3, hlt]
  ·intro hlt
   rw [Nb0]
   simp (disch := first|assumption|omega) only [S0,rA,rQ,rB,rT,rE, hlt]
   rfl
 subst h3
 rw [h1]
 simp (disch := first|assumption|omega) only [S0,rA,rQ,rB,rT,rE]
theorem Lad (n : Int) (rows : List (List bH)) (hs : mG rows) : Fun T 14 [i64 n, rL rows] = some [rL (wR ⟨n, rows⟩).1, .bool (wR ⟨n, rows⟩).2] := by
 rw [aW (t := Hbp) rfl]; unfold Hbp; unfold wR
 cases ht : bI ⟨n, rows⟩
 ·simp (disch := first|assumption|omega) only [S0,rA,rQ,rB,rT,rE, wN, ht, Cb3, Mb6]
 ·simp (disch := first|assumption|omega) only [S0,rA,rQ,rB,rT,rE, wN, Ka9, ht]
theorem Maj (n : Int) (rows : List (List bH)) (hs : mG rows) : Fun T 48 [i64 n, rL rows] = some [rL (wR ⟨n, rows⟩).1, .bool (wR ⟨n, rows⟩).2] := by
 rw [aW (t := Gbr) rfl]; unfold Gbr; unfold wR
 cases ht : bI ⟨n, rows⟩
 ·simp (disch := first|assumption|omega) only [S0,rA,rQ,rB,rT,rE, wU, ht, Cb3, Mb6]
 ·simp (disch := first|assumption|omega) only [S0,rA,rQ,rB,rT,rE, wU, Ca5, ht]
theorem law (t_n : Int) (t_rows : (List (List bH))) (hw_t : yE ⟨t_n, t_rows⟩) : Fun T 0 [i64 t_n, rL t_rows] = some [.bool true] := by
 rw [aW (t := tm0) rfl]; unfold tm0
 by_cases c_t : ((dI ⟨t_n, t_rows⟩ : Nat) : Int) <= 1048576
 rotate_left
 ·have e : szR (1048576) (dI ⟨t_n, t_rows⟩) = -1 := if_neg c_t
  (refine aF ?_; repeat' (refine aG ?_ ?_<;>intro _<;>try simp (disch := first|assumption|omega) only [S0,rA,rQ,rB,rT,rE,Haw,lt0,Lbo, *]))
 have e_t : szR (1048576) (dI ⟨t_n, t_rows⟩) = 1048576 - ((dI ⟨t_n, t_rows⟩ : Nat) : Int) := if_pos c_t
 have s1_t : dI ⟨t_n, t_rows⟩ <= 1048576 := by omega
 have s2_t : dI ⟨t_n, t_rows⟩ <= 1099511627776 := by omega
 have szu_t := s1_t
 rw [Ra0] at szu_t
 simp only at szu_t
 have m1_t_rows : szL (szL aN) t_rows <= 1099511627776 := by first | omega | (have h := s2_t; rw [nP] at h; exact h)
 have m2_t_rows : ctL (ctL fC) t_rows <= 1125899906842624 := by have := Iaa (c := (ctL fC)) (f := (szL aN)) (m := 16) (by omega) (fun xs => Nb4 (Iaa (c := fC) (f := aN) (m := 16) (by omega) Zat xs) (Nat.le_add_left _ _)) t_rows; omega
 have s3 : mG t_rows := Yac s1_t
 have z1 := Uau ⟨t_n, t_rows⟩
 have r1 : szL (szL fun _ => 0) (wR ⟨t_n, t_rows⟩).1 <= 1099511627776 := by omega
 have r3 : ctL (ctL fun _ => 1) (wR ⟨t_n, t_rows⟩).1 <= 1125899906842624 := Cbp (by omega)
 (refine aF ?_; repeat' (refine aG ?_ ?_<;>intro _<;>try simp (disch := first|assumption|omega) only [S0,rA,rQ,rB,rT,rE,Haw,Sah,Lad,Maj,Bb4,Sal,Saj,Bb2,Bb3,lt0,Lbo, *]))
theorem hpure : ∀ ds, WTs [.int .i64, .sl 24 [.sl 96 [.int .i64, .int .i64, .int .i64, .int .i64, .int .i64, .int .i64, .int .i64, .int .i64, .int .i64, .sl 8 [.int .i64]]]] ds -> ∃ n, iV T n 0 ds = some [.bool true] := by
 intro ds h
 simp only [WTs] at h
 obtain ⟨d0, r0, rfl, w0, d1, r1, rfl, w1, rfl⟩ := h
 obtain ⟨t, e_t, hw_t⟩ := Tah [d0, d1] (by simp only [WTs]; exact ⟨_, _, rfl, w0, _, _, rfl, w1, rfl⟩)
 simp only [Enc.enc, List.cons.injEq, and_true] at e_t
 obtain ⟨rfl, rfl⟩ := e_t
 exact Bbu (law (t.n) (t.rows) hw_t)
end FnExactOrderIn
end Go.Proofs.YtpgnlmfmlffjcaaGreat
