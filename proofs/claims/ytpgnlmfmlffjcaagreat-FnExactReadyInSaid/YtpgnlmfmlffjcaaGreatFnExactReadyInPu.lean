/- What the terms of FnExactReadyIn come to. -/
import Derived.Test.YtpgnlmfmlffjcaaGreatFnExactReadyInTab
namespace Go.Proofs.YtpgnlmfmlffjcaaGreat
namespace FnExactReadyIn
open Go Go.Proofs.YtpgnlmfmlffjcaaGreat.Rf
open Nat renaming reduceAdd → rA, reduceEqDiff → rQ
open Int renaming reduceBEq → rB, reduceLT → rT, reduceLE → rE
set_option linter.unusedSimpArgs false
set_option linter.unusedVariables false
set_option linter.unnecessarySimpa false
set_option maxHeartbeats 4000000
set_option maxRecDepth 10000
theorem lto_TCmd (x_kind x_id x_src x_dst x_amt : Int) : Fun T 11 [i64 x_kind, i64 x_id, i64 x_src, i64 x_dst, i64 x_amt] = some [i64 x_kind, i64 x_id, i64 x_src, i64 x_dst, i64 x_amt] := by
 rw [Fun_k (t := tm11) rfl]; unfold tm11
 (refine fork_in ?_; repeat' (refine fork_eq ?_ ?_<;>intro _<;>try simp (disch := first|assumption|omega) only [S0,rA,rQ,rB,rT,rE, *]))
theorem leq_TCmd (x_kind x_id x_src x_dst x_amt : Int) (y_kind y_id y_src y_dst y_amt : Int) : Fun T 81 [i64 x_kind, i64 x_id, i64 x_src, i64 x_dst, i64 x_amt, i64 y_kind, i64 y_id, i64 y_src, i64 y_dst, i64 y_amt] = some [.bool (decide ((⟨x_kind, x_id, x_src, x_dst, x_amt⟩ : TCmd) = ⟨y_kind, y_id, y_src, y_dst, y_amt⟩))] := by
 rw [Fun_k (t := tm81) rfl]; unfold tm81
 have e : decide ((⟨x_kind, x_id, x_src, x_dst, x_amt⟩ : TCmd) = ⟨y_kind, y_id, y_src, y_dst, y_amt⟩) = ((x_kind == y_kind) && (x_id == y_id) && (x_src == y_src) && (x_dst == y_dst) && (x_amt == y_amt)) := by
  simp only [TCmd.mk.injEq, Bool.beq_eq_decide_eq, Bool.decide_and, Bool.and_assoc]
 rw [e]
 (refine fork_in ?_; repeat' (refine fork_eq ?_ ?_<;>intro _<;>try simp (disch := first|assumption|omega) only [S0,rA,rQ,rB,rT,rE, *]))
theorem lsz_LI (xs : (List Int)) (l : Int) (h0 : 0 <= l) (h1 : l <= 1048576) (hw : xs.length <= 140737488351232) : Fun T 6 [rL xs, i64 l] = some [i64 (szR l (szL (fun _ => 0) xs))] := by
 rw [Fun_k (t := tm6) rfl]; unfold tm6
 have es : szL (fun _ => 0) xs = xs.length := szL_zero
 rw [es]
 by_cases c : (xs.length : Int) <= l
 ·have e : szR l xs.length = l - xs.length := if_pos c
  have d : decide (l - (xs.length : Int) < 0) = false := by simp; omega
  (refine fork_in ?_; repeat' (refine fork_eq ?_ ?_<;>intro _<;>try simp (disch := first|assumption|omega) only [S0,rA,rQ,rB,rT,rE, *]))
 ·have e : szR l xs.length = -1 := if_neg c
  have d : decide (l - (xs.length : Int) < 0) = true := by simp; omega
  (refine fork_in ?_; repeat' (refine fork_eq ?_ ?_<;>intro _<;>try simp (disch := first|assumption|omega) only [S0,rA,rQ,rB,rT,rE, *]))
theorem lto_LI (xs : (List Int)) (hs : szL (fun _ => 0) xs <= 1048576) : Fun T 13 [rL xs] = some [rL xs] := by
 rw [Fun_k (t := tm13) rfl]; unfold tm13
 have hl : xs.length <= 1048576 := Nat.le_trans szL_len hs
 simp (disch := first|assumption|omega) only [S0,rA,rQ,rB,rT,rE, S_make, Int.toNat_natCast, *]
 rw [toLoop xs rfl]
 ·(refine fork_in ?_; repeat' (refine fork_eq ?_ ?_<;>intro _<;>try simp (disch := first|assumption|omega) only [S0,rA,rQ,rB,rT,rE, *]))
 ·intro i ys hi hb hb' hl'
  (refine fork_in ?_; repeat' (refine fork_eq ?_ ?_<;>intro _<;>try simp (disch := first|assumption|omega) only [S0,rA,rQ,rB,rT,rE,S_row,S_set, *]))
 ·intro ys hl'
  (refine fork_in ?_; repeat' (refine fork_eq ?_ ?_<;>intro _<;>try simp (disch := first|assumption|omega) only [S0,rA,rQ,rB,rT,rE, *]))
theorem leq_LI (xs ys : (List Int)) (hs : szL (fun _ => 0) xs <= 1099511627776) : Fun T 76 [rL xs, rL ys] = some [.bool (decide (xs = ys))] := by
 rw [Fun_k (t := tm76) rfl]; unfold tm76
 have hx : xs.length <= 1099511627776 := Nat.le_trans szL_len hs
 by_cases hl : ys.length = xs.length
 ·simp (disch := first|assumption|omega) only [S0,rA,rQ,rB,rT,rE, *]
  rw [scanX 1 xs.length (fun i => decide (atI xs i = atI ys i)) [.bool false], allB_eq hl.symm]
  ·(refine fork_in ?_; repeat' (refine fork_eq ?_ ?_<;>intro _<;>try simp (disch := first|assumption|omega) only [S0,rA,rQ,rB,rT,rE, *]))
  ·intro i hi hp
   have hb : InB xs (i : Int) := InB_nat.2 hi
   have hb' : InB ys (i : Int) := InB_nat.2 (by omega)
   have h2 : decide ((i : Int) < xs.length) = true := by simp; omega
   have h3 : (atI xs i == atI ys i) = true := by simpa using hp
   (refine fork_in ?_; repeat' (refine fork_eq ?_ ?_<;>intro _<;>try simp (disch := first|assumption|omega) only [S0,rA,rQ,rB,rT,rE,S_row, *]))
  ·intro i hi hp
   have hb : InB xs (i : Int) := InB_nat.2 hi
   have hb' : InB ys (i : Int) := InB_nat.2 (by omega)
   have h2 : decide ((i : Int) < xs.length) = true := by simp; omega
   have h3 : (atI xs i == atI ys i) = false := by simpa using hp
   (refine fork_in ?_; repeat' (refine fork_eq ?_ ?_<;>intro _<;>try simp (disch := first|assumption|omega) only [S0,rA,rQ,rB,rT,rE,S_row, *]))
  ·have h2 : decide ((xs.length : Int) < xs.length) = false := by simp
   (refine fork_in ?_; repeat' (refine fork_eq ?_ ?_<;>intro _<;>try simp (disch := first|assumption|omega) only [S0,rA,rQ,rB,rT,rE, *]))
 ·have hl' : ((xs.length : Int) == (ys.length : Int)) = false := by simp; omega
  have e := eq_len (fun h => hl h.symm)
  (refine fork_in ?_; repeat' (refine fork_eq ?_ ?_<;>intro _<;>try simp (disch := first|assumption|omega) only [S0,rA,rQ,rB,rT,rE, *]))
theorem lmk_LI (xs : (List Int)) (k : Int) (hk : 0 <= k) (hb : k + (ctL (fun _ => 1) xs : Nat) <= 1152921504606846976) (hl : xs.length <= 1099511627776) : Fun T 86 [rL xs, i64 k] = some [i64 (k + (ctL (fun _ => 1) xs : Nat)), rL (mkL (fun _ => 1) (fun _ k => k) xs k)] := by
 rw [Fun_k (t := tm86) rfl]; unfold tm86
 have hx : xs.length <= 1099511627776 := hl
 simp (disch := first|assumption|omega) only [S0,rA,rQ,rB,rT,rE, *]
 rw [markLoop xs (fun _ => 1) (fun _ k => k) k rfl rfl rfl hk hb ?_ ?_ (by omega)]
 ·(refine fork_in ?_; repeat' (refine fork_eq ?_ ?_<;>intro _<;>try simp (disch := first|assumption|omega) only [S0,rA,rQ,rB,rT,rE, *]))
 ·intro i ys m hi hy hb hlt hat hm hc hlen
  have hc' : m + 1 <= 1152921504606846976 := hc
  (refine fork_in ?_; repeat' (refine fork_eq ?_ ?_<;>intro _<;>try simp (disch := first|assumption|omega|(simp only [S_upd]; assumption)) only [S0,rA,rQ,rB,rT,rE,S_row,S_set,S_upd, *]))
  rfl
 ·intro ys m hy hlt
  (refine fork_in ?_; repeat' (refine fork_eq ?_ ?_<;>intro _<;>try simp (disch := first|assumption|omega) only [S0,rA,rQ,rB,rT,rE, *]))
theorem lhd_LI (xs : (List Int)) (k : Int) (hk : 0 <= k) (hb : k + (ctL (fun _ => 1) xs : Nat) <= 1152921504606846976) (hl : xs.length <= 1099511627776) : Fun T 89 [rL (mkL (fun _ => 1) (fun _ k => k) xs k), i64 k] = some [i64 (k + (ctL (fun _ => 1) xs : Nat))] := by
 rw [Fun_k (t := tm89) rfl]; unfold tm89
 have hx : xs.length <= 1099511627776 := hl
 simp (disch := first|assumption|omega) only [S0,rA,rQ,rB,rT,rE, *]
 rw [heldLoop xs (fun _ => 1) (fun _ k => k) k rfl hk hb (by omega)]
 ·(refine fork_in ?_; repeat' (refine fork_eq ?_ ?_<;>intro _<;>try simp (disch := first|assumption|omega) only [S0,rA,rQ,rB,rT,rE, *]))
 ·intro i m hi hb hy hlt hat hm hc hlen
  have hc' : m + 1 <= 1152921504606846976 := hc
  (refine fork_in ?_; repeat' (refine fork_eq ?_ ?_<;>intro _<;>try simp (disch := first|assumption|omega) only [S0,rA,rQ,rB,rT,rE,S_row, *]))
  rfl
 ·intro m hy hlt
  (refine fork_in ?_; repeat' (refine fork_eq ?_ ?_<;>intro _<;>try simp (disch := first|assumption|omega) only [S0,rA,rQ,rB,rT,rE, *]))
theorem lsz_TAttr (x_seq : Int) (x_deps : (List Int)) (l : Int) (h0 : 0 <= l) (h1 : l <= 1048576) (hw : wf_TAttr ⟨x_seq, x_deps⟩) : Fun T 5 [i64 x_seq, rL x_deps, i64 l] = some [i64 (szR l (sz_TAttr ⟨x_seq, x_deps⟩))] := by
 rw [Fun_k (t := tm5) rfl]; unfold tm5
 unfold wf_TAttr at hw
 simp only at hw
 have w0 := hw
 by_cases c0 : ((szL (fun _ => 0) x_deps : Nat) : Int) <= l
 rotate_left
 ·have e0 : szR (l) (szL (fun _ => 0) x_deps) = -1 := if_neg c0
  have d0 : decide ((-1 : Int) < 0) = true := rfl
  have e : szR l (sz_TAttr ⟨x_seq, x_deps⟩) = -1 := by unfold szR sz_TAttr; simp only []; split <;> omega
  (refine fork_in ?_; repeat' (refine fork_eq ?_ ?_<;>intro _<;>try simp (disch := first|assumption|omega) only [S0,rA,rQ,rB,rT,rE,lsz_LI, *]))
 have e0 : szR (l) (szL (fun _ => 0) x_deps) = l - (szL (fun _ => 0) x_deps : Nat) := if_pos c0
 have d0 : decide (l - ((szL (fun _ => 0) x_deps : Nat) : Int) < 0) = false := by simp; omega
 have e : szR l (sz_TAttr ⟨x_seq, x_deps⟩) = l - ((szL (fun _ => 0) x_deps : Nat) : Int) := by unfold szR sz_TAttr; simp only []; split <;> omega
 (refine fork_in ?_; repeat' (refine fork_eq ?_ ?_<;>intro _<;>try simp (disch := first|assumption|omega) only [S0,rA,rQ,rB,rT,rE,lsz_LI, *]))
theorem lto_TAttr (x_seq : Int) (x_deps : (List Int)) (hs : sz_TAttr ⟨x_seq, x_deps⟩ <= 1048576) : Fun T 12 [i64 x_seq, rL x_deps] = some [i64 x_seq, rL x_deps] := by
 rw [Fun_k (t := tm12) rfl]; unfold tm12
 unfold sz_TAttr at hs
 simp only at hs
 have s0 : szL (fun _ => 0) x_deps <= 1048576 := by omega
 (refine fork_in ?_; repeat' (refine fork_eq ?_ ?_<;>intro _<;>try simp (disch := first|assumption|omega) only [S0,rA,rQ,rB,rT,rE,lto_LI, *]))
theorem leq_TAttr (x_seq : Int) (x_deps : (List Int)) (y_seq : Int) (y_deps : (List Int)) (hs : sz_TAttr ⟨x_seq, x_deps⟩ <= 1099511627776) : Fun T 82 [i64 x_seq, rL x_deps, i64 y_seq, rL y_deps] = some [.bool (decide ((⟨x_seq, x_deps⟩ : TAttr) = ⟨y_seq, y_deps⟩))] := by
 rw [Fun_k (t := tm82) rfl]; unfold tm82
 unfold sz_TAttr at hs
 simp only at hs
 have s0 : szL (fun _ => 0) x_deps <= 1099511627776 := by omega
 have e : decide ((⟨x_seq, x_deps⟩ : TAttr) = ⟨y_seq, y_deps⟩) = ((x_seq == y_seq) && decide ((x_deps : (List Int)) = y_deps)) := by
  simp only [TAttr.mk.injEq, Bool.beq_eq_decide_eq, Bool.decide_and, Bool.and_assoc]
 rw [e]
 (refine fork_in ?_; repeat' (refine fork_eq ?_ ?_<;>intro _<;>try simp (disch := first|assumption|omega) only [S0,rA,rQ,rB,rT,rE,leq_LI, *]))
theorem lsz_TRow (x_ballot x_vote x_state x_cmd_kind x_cmd_id x_cmd_src x_cmd_dst x_cmd_amt x_attr_seq : Int) (x_attr_deps : (List Int)) (l : Int) (h0 : 0 <= l) (h1 : l <= 1048576) (hw : wf_TRow ⟨x_ballot, x_vote, x_state, ⟨x_cmd_kind, x_cmd_id, x_cmd_src, x_cmd_dst, x_cmd_amt⟩, ⟨x_attr_seq, x_attr_deps⟩⟩) : Fun T 4 [i64 x_ballot, i64 x_vote, i64 x_state, i64 x_cmd_kind, i64 x_cmd_id, i64 x_cmd_src, i64 x_cmd_dst, i64 x_cmd_amt, i64 x_attr_seq, rL x_attr_deps, i64 l] = some [i64 (szR l (sz_TRow ⟨x_ballot, x_vote, x_state, ⟨x_cmd_kind, x_cmd_id, x_cmd_src, x_cmd_dst, x_cmd_amt⟩, ⟨x_attr_seq, x_attr_deps⟩⟩))] := by
 rw [Fun_k (t := tm4) rfl]; unfold tm4
 unfold wf_TRow at hw
 simp only at hw
 have w0 := hw
 by_cases c0 : ((sz_TAttr ⟨x_attr_seq, x_attr_deps⟩ : Nat) : Int) <= l
 rotate_left
 ·have e0 : szR (l) (sz_TAttr ⟨x_attr_seq, x_attr_deps⟩) = -1 := if_neg c0
  have d0 : decide ((-1 : Int) < 0) = true := rfl
  have e : szR l (sz_TRow ⟨x_ballot, x_vote, x_state, ⟨x_cmd_kind, x_cmd_id, x_cmd_src, x_cmd_dst, x_cmd_amt⟩, ⟨x_attr_seq, x_attr_deps⟩⟩) = -1 := by unfold szR sz_TRow; simp only []; split <;> omega
  (refine fork_in ?_; repeat' (refine fork_eq ?_ ?_<;>intro _<;>try simp (disch := first|assumption|omega) only [S0,rA,rQ,rB,rT,rE,lsz_TAttr, *]))
 have e0 : szR (l) (sz_TAttr ⟨x_attr_seq, x_attr_deps⟩) = l - (sz_TAttr ⟨x_attr_seq, x_attr_deps⟩ : Nat) := if_pos c0
 have d0 : decide (l - ((sz_TAttr ⟨x_attr_seq, x_attr_deps⟩ : Nat) : Int) < 0) = false := by simp; omega
 have e : szR l (sz_TRow ⟨x_ballot, x_vote, x_state, ⟨x_cmd_kind, x_cmd_id, x_cmd_src, x_cmd_dst, x_cmd_amt⟩, ⟨x_attr_seq, x_attr_deps⟩⟩) = l - ((sz_TAttr ⟨x_attr_seq, x_attr_deps⟩ : Nat) : Int) := by unfold szR sz_TRow; simp only []; split <;> omega
 (refine fork_in ?_; repeat' (refine fork_eq ?_ ?_<;>intro _<;>try simp (disch := first|assumption|omega) only [S0,rA,rQ,rB,rT,rE,lsz_TAttr, *]))
theorem lto_TRow (x_ballot x_vote x_state x_cmd_kind x_cmd_id x_cmd_src x_cmd_dst x_cmd_amt x_attr_seq : Int) (x_attr_deps : (List Int)) (hs : sz_TRow ⟨x_ballot, x_vote, x_state, ⟨x_cmd_kind, x_cmd_id, x_cmd_src, x_cmd_dst, x_cmd_amt⟩, ⟨x_attr_seq, x_attr_deps⟩⟩ <= 1048576) : Fun T 10 [i64 x_ballot, i64 x_vote, i64 x_state, i64 x_cmd_kind, i64 x_cmd_id, i64 x_cmd_src, i64 x_cmd_dst, i64 x_cmd_amt, i64 x_attr_seq, rL x_attr_deps] = some [i64 x_ballot, i64 x_vote, i64 x_state, i64 x_cmd_kind, i64 x_cmd_id, i64 x_cmd_src, i64 x_cmd_dst, i64 x_cmd_amt, i64 x_attr_seq, rL x_attr_deps] := by
 rw [Fun_k (t := tm10) rfl]; unfold tm10
 unfold sz_TRow at hs
 simp only at hs
 have s0 : sz_TAttr ⟨x_attr_seq, x_attr_deps⟩ <= 1048576 := by omega
 (refine fork_in ?_; repeat' (refine fork_eq ?_ ?_<;>intro _<;>try simp (disch := first|assumption|omega) only [S0,rA,rQ,rB,rT,rE,lto_TCmd,lto_TAttr, *]))
theorem leq_TRow (x_ballot x_vote x_state x_cmd_kind x_cmd_id x_cmd_src x_cmd_dst x_cmd_amt x_attr_seq : Int) (x_attr_deps : (List Int)) (y_ballot y_vote y_state y_cmd_kind y_cmd_id y_cmd_src y_cmd_dst y_cmd_amt y_attr_seq : Int) (y_attr_deps : (List Int)) (hs : sz_TRow ⟨x_ballot, x_vote, x_state, ⟨x_cmd_kind, x_cmd_id, x_cmd_src, x_cmd_dst, x_cmd_amt⟩, ⟨x_attr_seq, x_attr_deps⟩⟩ <= 1099511627776) : Fun T 80 [i64 x_ballot, i64 x_vote, i64 x_state, i64 x_cmd_kind, i64 x_cmd_id, i64 x_cmd_src, i64 x_cmd_dst, i64 x_cmd_amt, i64 x_attr_seq, rL x_attr_deps, i64 y_ballot, i64 y_vote, i64 y_state, i64 y_cmd_kind, i64 y_cmd_id, i64 y_cmd_src, i64 y_cmd_dst, i64 y_cmd_amt, i64 y_attr_seq, rL y_attr_deps] = some [.bool (decide ((⟨x_ballot, x_vote, x_state, ⟨x_cmd_kind, x_cmd_id, x_cmd_src, x_cmd_dst, x_cmd_amt⟩, ⟨x_attr_seq, x_attr_deps⟩⟩ : TRow) = ⟨y_ballot, y_vote, y_state, ⟨y_cmd_kind, y_cmd_id, y_cmd_src, y_cmd_dst, y_cmd_amt⟩, ⟨y_attr_seq, y_attr_deps⟩⟩))] := by
 rw [Fun_k (t := tm80) rfl]; unfold tm80
 unfold sz_TRow at hs
 simp only at hs
 have s0 : sz_TAttr ⟨x_attr_seq, x_attr_deps⟩ <= 1099511627776 := by omega
 have e : decide ((⟨x_ballot, x_vote, x_state, ⟨x_cmd_kind, x_cmd_id, x_cmd_src, x_cmd_dst, x_cmd_amt⟩, ⟨x_attr_seq, x_attr_deps⟩⟩ : TRow) = ⟨y_ballot, y_vote, y_state, ⟨y_cmd_kind, y_cmd_id, y_cmd_src, y_cmd_dst, y_cmd_amt⟩, ⟨y_attr_seq, y_attr_deps⟩⟩) = ((x_ballot == y_ballot) && (x_vote == y_vote) && (x_state == y_state) && decide ((⟨x_cmd_kind, x_cmd_id, x_cmd_src, x_cmd_dst, x_cmd_amt⟩ : TCmd) = ⟨y_cmd_kind, y_cmd_id, y_cmd_src, y_cmd_dst, y_cmd_amt⟩) && decide ((⟨x_attr_seq, x_attr_deps⟩ : TAttr) = ⟨y_attr_seq, y_attr_deps⟩)) := by
  simp only [TRow.mk.injEq, Bool.beq_eq_decide_eq, Bool.decide_and, Bool.and_assoc]
 rw [e]
 (refine fork_in ?_; repeat' (refine fork_eq ?_ ?_<;>intro _<;>try simp (disch := first|assumption|omega) only [S0,rA,rQ,rB,rT,rE,leq_TCmd,leq_TAttr, *]))
theorem lsz_LTRow (xs : (List TRow)) (l : Int) (h0 : 0 <= l) (h1 : l <= 1048576) (hw : xs.length <= 140737488351232 /\ ∀ y0 ∈ xs, wf_TRow y0) : Fun T 3 [rL xs, i64 l] = some [i64 (szR l (szL sz_TRow xs))] := by
 rw [Fun_k (t := tm3) rfl]; unfold tm3
 obtain ⟨hw1, hw2⟩ := hw
 by_cases c : (xs.length : Int) <= l
 ·have d : decide (l - (xs.length : Int) < 0) = false := by simp; omega
  simp (disch := first|assumption|omega) only [S0,rA,rQ,rB,rT,rE, *]
  rw [szLoop xs sz_TRow (l - xs.length) rfl (by omega) (by omega)]
  ·by_cases hd : ((xs.map sz_TRow).sum : Int) <= l - xs.length
   ·have e : szR l (szL sz_TRow xs) = l - xs.length - ((xs.map sz_TRow).sum : Nat) := by unfold szR; rw [show (szL sz_TRow xs) = xs.length + (xs.map sz_TRow).sum from rfl, if_pos (by omega)]; omega
    rw [decide_eq_true hd]
    (refine fork_in ?_; repeat' (refine fork_eq ?_ ?_<;>intro _<;>try simp (disch := first|assumption|omega) only [S0,rA,rQ,rB,rT,rE, *]))
   ·have e : szR l (szL sz_TRow xs) = -1 := by unfold szR; rw [show (szL sz_TRow xs) = xs.length + (xs.map sz_TRow).sum from rfl, if_neg (by omega)]
    rw [decide_eq_false hd]
    (refine fork_in ?_; repeat' (refine fork_eq ?_ ?_<;>intro _<;>try simp (disch := first|assumption|omega) only [S0,rA,rQ,rB,rT,rE, *]))
  ·intro i m hi hb hl hm hm' hf hr hd
   have hq := hw2 _ (at_mem hi)
   (refine fork_in ?_; repeat' (refine fork_eq ?_ ?_<;>intro _<;>try simp (disch := first|assumption|omega) only [S0,rA,rQ,rB,rT,rE,S_row,lsz_TRow, *]))
  ·intro i m hi hb hl hm hm' hf hr hd
   have hq := hw2 _ (at_mem hi)
   (refine fork_in ?_; repeat' (refine fork_eq ?_ ?_<;>intro _<;>try simp (disch := first|assumption|omega) only [S0,rA,rQ,rB,rT,rE,S_row,lsz_TRow, *]))
  ·intro m hl
   (refine fork_in ?_; repeat' (refine fork_eq ?_ ?_<;>intro _<;>try simp (disch := first|assumption|omega) only [S0,rA,rQ,rB,rT,rE, *]))
 ·have e : szR l (szL sz_TRow xs) = -1 := by unfold szR; rw [show (szL sz_TRow xs) = xs.length + (xs.map sz_TRow).sum from rfl, if_neg (by omega)]
  have d : decide (l - (xs.length : Int) < 0) = true := by simp; omega
  (refine fork_in ?_; repeat' (refine fork_eq ?_ ?_<;>intro _<;>try simp (disch := first|assumption|omega) only [S0,rA,rQ,rB,rT,rE, *]))
theorem lto_LTRow (xs : (List TRow)) (hs : szL sz_TRow xs <= 1048576) : Fun T 9 [rL xs] = some [rL xs] := by
 rw [Fun_k (t := tm9) rfl]; unfold tm9
 have hl : xs.length <= 1048576 := Nat.le_trans szL_len hs
 simp (disch := first|assumption|omega) only [S0,rA,rQ,rB,rT,rE, S_make, Int.toNat_natCast, *]
 rw [toLoop xs rfl]
 ·(refine fork_in ?_; repeat' (refine fork_eq ?_ ?_<;>intro _<;>try simp (disch := first|assumption|omega) only [S0,rA,rQ,rB,rT,rE, *]))
 ·intro i ys hi hb hb' hl'
  have hq : sz_TRow (atI xs i) <= 1048576 := by
   have := szL_mem (f := sz_TRow) (at_mem hi)
   omega
  (refine fork_in ?_; repeat' (refine fork_eq ?_ ?_<;>intro _<;>try simp (disch := first|assumption|omega) only [S0,rA,rQ,rB,rT,rE,S_row,S_set,lto_TRow, *]))
 ·intro ys hl'
  (refine fork_in ?_; repeat' (refine fork_eq ?_ ?_<;>intro _<;>try simp (disch := first|assumption|omega) only [S0,rA,rQ,rB,rT,rE, *]))
theorem leq_LTRow (xs ys : (List TRow)) (hs : szL sz_TRow xs <= 1099511627776) : Fun T 79 [rL xs, rL ys] = some [.bool (decide (xs = ys))] := by
 rw [Fun_k (t := tm79) rfl]; unfold tm79
 have hx : xs.length <= 1099511627776 := Nat.le_trans szL_len hs
 by_cases hl : ys.length = xs.length
 ·simp (disch := first|assumption|omega) only [S0,rA,rQ,rB,rT,rE, *]
  rw [scanX 1 xs.length (fun i => decide (atI xs i = atI ys i)) [.bool false], allB_eq hl.symm]
  ·(refine fork_in ?_; repeat' (refine fork_eq ?_ ?_<;>intro _<;>try simp (disch := first|assumption|omega) only [S0,rA,rQ,rB,rT,rE, *]))
  ·intro i hi hp
   have hb : InB xs (i : Int) := InB_nat.2 hi
   have hb' : InB ys (i : Int) := InB_nat.2 (by omega)
   have h2 : decide ((i : Int) < xs.length) = true := by simp; omega
   have hq : sz_TRow (atI xs i) <= 1099511627776 := by
    have := szL_mem (f := sz_TRow) (at_mem hi)
    omega
   (refine fork_in ?_; repeat' (refine fork_eq ?_ ?_<;>intro _<;>try simp (disch := first|assumption|omega) only [S0,rA,rQ,rB,rT,rE,S_row,leq_TRow, *]))
  ·intro i hi hp
   have hb : InB xs (i : Int) := InB_nat.2 hi
   have hb' : InB ys (i : Int) := InB_nat.2 (by omega)
   have h2 : decide ((i : Int) < xs.length) = true := by simp; omega
   have hq : sz_TRow (atI xs i) <= 1099511627776 := by
    have := szL_mem (f := sz_TRow) (at_mem hi)
    omega
   (refine fork_in ?_; repeat' (refine fork_eq ?_ ?_<;>intro _<;>try simp (disch := first|assumption|omega) only [S0,rA,rQ,rB,rT,rE,S_row,leq_TRow, *]))
  ·have h2 : decide ((xs.length : Int) < xs.length) = false := by simp
   (refine fork_in ?_; repeat' (refine fork_eq ?_ ?_<;>intro _<;>try simp (disch := first|assumption|omega) only [S0,rA,rQ,rB,rT,rE, *]))
 ·have hl' : ((xs.length : Int) == (ys.length : Int)) = false := by simp; omega
  have e := eq_len (fun h => hl h.symm)
  (refine fork_in ?_; repeat' (refine fork_eq ?_ ?_<;>intro _<;>try simp (disch := first|assumption|omega) only [S0,rA,rQ,rB,rT,rE, *]))
theorem lmk_LTRow (xs : (List TRow)) (k : Int) (hk : 0 <= k) (hb : k + (ctL ct_TRow xs : Nat) <= 1152921504606846976) (hl : szL sz_TRow xs <= 1099511627776) : Fun T 85 [rL xs, i64 k] = some [i64 (k + (ctL ct_TRow xs : Nat)), rL (mkL ct_TRow mk_TRow xs k)] := by
 rw [Fun_k (t := tm85) rfl]; unfold tm85
 have hx : xs.length <= 1099511627776 := Nat.le_trans szL_len hl
 simp (disch := first|assumption|omega) only [S0,rA,rQ,rB,rT,rE, *]
 rw [markLoop xs ct_TRow mk_TRow k rfl rfl rfl hk hb ?_ ?_ (by omega)]
 ·(refine fork_in ?_; repeat' (refine fork_eq ?_ ?_<;>intro _<;>try simp (disch := first|assumption|omega) only [S0,rA,rQ,rB,rT,rE, *]))
 ·intro i ys m hi hy hb hlt hat hm hc hlen
  have ec : m + 1 + 1 + 1 + 1 + 1 + 1 + 1 + 1 + 1 + (ctL (fun _ => 1) (atI xs (i : Int)).attr.deps : Nat) = m + (ct_TRow (atI xs i) : Nat) := by rw [ctu_TRow]; omega
  have hq : sz_TRow (atI xs i) <= 1099511627776 := by
   have := szL_mem (f := sz_TRow) (at_mem hi)
   omega
  rw [szu_TRow] at hq
  rw [ctu_TRow] at hc
  have hl__attr_deps : (atI xs i).attr.deps.length <= 1099511627776 := by omega
  (refine fork_in ?_; repeat' (refine fork_eq ?_ ?_<;>intro _<;>try simp (disch := first|assumption|omega|(simp only [S_upd]; assumption)) only [S0,rA,rQ,rB,rT,rE,S_row,S_set,S_upd,lmk_LI, *]))
  all_goals (try simp only [mk_TRow, ec])
 ·intro ys m hy hlt
  (refine fork_in ?_; repeat' (refine fork_eq ?_ ?_<;>intro _<;>try simp (disch := first|assumption|omega) only [S0,rA,rQ,rB,rT,rE, *]))
theorem lsz_LLTRow (xs : (List (List TRow))) (l : Int) (h0 : 0 <= l) (h1 : l <= 1048576) (hw : xs.length <= 140737488351232 /\ ∀ y0 ∈ xs, y0.length <= 140737488351232 /\ ∀ y1 ∈ y0, wf_TRow y1) : Fun T 2 [rL xs, i64 l] = some [i64 (szR l (szL (szL sz_TRow) xs))] := by
 rw [Fun_k (t := tm2) rfl]; unfold tm2
 obtain ⟨hw1, hw2⟩ := hw
 by_cases c : (xs.length : Int) <= l
 ·have d : decide (l - (xs.length : Int) < 0) = false := by simp; omega
  simp (disch := first|assumption|omega) only [S0,rA,rQ,rB,rT,rE, *]
  rw [szLoop xs (szL sz_TRow) (l - xs.length) rfl (by omega) (by omega)]
  ·by_cases hd : ((xs.map (szL sz_TRow)).sum : Int) <= l - xs.length
   ·have e : szR l (szL (szL sz_TRow) xs) = l - xs.length - ((xs.map (szL sz_TRow)).sum : Nat) := by unfold szR; rw [show (szL (szL sz_TRow) xs) = xs.length + (xs.map (szL sz_TRow)).sum from rfl, if_pos (by omega)]; omega
    rw [decide_eq_true hd]
    (refine fork_in ?_; repeat' (refine fork_eq ?_ ?_<;>intro _<;>try simp (disch := first|assumption|omega) only [S0,rA,rQ,rB,rT,rE, *]))
   ·have e : szR l (szL (szL sz_TRow) xs) = -1 := by unfold szR; rw [show (szL (szL sz_TRow) xs) = xs.length + (xs.map (szL sz_TRow)).sum from rfl, if_neg (by omega)]
    rw [decide_eq_false hd]
    (refine fork_in ?_; repeat' (refine fork_eq ?_ ?_<;>intro _<;>try simp (disch := first|assumption|omega) only [S0,rA,rQ,rB,rT,rE, *]))
  ·intro i m hi hb hl hm hm' hf hr hd
   have hq := hw2 _ (at_mem hi)
   (refine fork_in ?_; repeat' (refine fork_eq ?_ ?_<;>intro _<;>try simp (disch := first|assumption|omega) only [S0,rA,rQ,rB,rT,rE,S_row,lsz_LTRow, *]))
  ·intro i m hi hb hl hm hm' hf hr hd
   have hq := hw2 _ (at_mem hi)
   (refine fork_in ?_; repeat' (refine fork_eq ?_ ?_<;>intro _<;>try simp (disch := first|assumption|omega) only [S0,rA,rQ,rB,rT,rE,S_row,lsz_LTRow, *]))
  ·intro m hl
   (refine fork_in ?_; repeat' (refine fork_eq ?_ ?_<;>intro _<;>try simp (disch := first|assumption|omega) only [S0,rA,rQ,rB,rT,rE, *]))
 ·have e : szR l (szL (szL sz_TRow) xs) = -1 := by unfold szR; rw [show (szL (szL sz_TRow) xs) = xs.length + (xs.map (szL sz_TRow)).sum from rfl, if_neg (by omega)]
  have d : decide (l - (xs.length : Int) < 0) = true := by simp; omega
  (refine fork_in ?_; repeat' (refine fork_eq ?_ ?_<;>intro _<;>try simp (disch := first|assumption|omega) only [S0,rA,rQ,rB,rT,rE, *]))
theorem lto_LLTRow (xs : (List (List TRow))) (hs : szL (szL sz_TRow) xs <= 1048576) : Fun T 8 [rL xs] = some [rL xs] := by
 rw [Fun_k (t := tm8) rfl]; unfold tm8
 have hl : xs.length <= 1048576 := Nat.le_trans szL_len hs
 simp (disch := first|assumption|omega) only [S0,rA,rQ,rB,rT,rE, S_make, Int.toNat_natCast, *]
 rw [toLoop xs rfl]
 ·(refine fork_in ?_; repeat' (refine fork_eq ?_ ?_<;>intro _<;>try simp (disch := first|assumption|omega) only [S0,rA,rQ,rB,rT,rE, *]))
 ·intro i ys hi hb hb' hl'
  have hq : szL sz_TRow (atI xs i) <= 1048576 := by
   have := szL_mem (f := (szL sz_TRow)) (at_mem hi)
   omega
  (refine fork_in ?_; repeat' (refine fork_eq ?_ ?_<;>intro _<;>try simp (disch := first|assumption|omega) only [S0,rA,rQ,rB,rT,rE,S_row,S_set,lto_LTRow, *]))
 ·intro ys hl'
  (refine fork_in ?_; repeat' (refine fork_eq ?_ ?_<;>intro _<;>try simp (disch := first|assumption|omega) only [S0,rA,rQ,rB,rT,rE, *]))
theorem leq_LLTRow (xs ys : (List (List TRow))) (hs : szL (szL sz_TRow) xs <= 1099511627776) : Fun T 78 [rL xs, rL ys] = some [.bool (decide (xs = ys))] := by
 rw [Fun_k (t := tm78) rfl]; unfold tm78
 have hx : xs.length <= 1099511627776 := Nat.le_trans szL_len hs
 by_cases hl : ys.length = xs.length
 ·simp (disch := first|assumption|omega) only [S0,rA,rQ,rB,rT,rE, *]
  rw [scanX 1 xs.length (fun i => decide (atI xs i = atI ys i)) [.bool false], allB_eq hl.symm]
  ·(refine fork_in ?_; repeat' (refine fork_eq ?_ ?_<;>intro _<;>try simp (disch := first|assumption|omega) only [S0,rA,rQ,rB,rT,rE, *]))
  ·intro i hi hp
   have hb : InB xs (i : Int) := InB_nat.2 hi
   have hb' : InB ys (i : Int) := InB_nat.2 (by omega)
   have h2 : decide ((i : Int) < xs.length) = true := by simp; omega
   have hq : szL sz_TRow (atI xs i) <= 1099511627776 := by
    have := szL_mem (f := (szL sz_TRow)) (at_mem hi)
    omega
   (refine fork_in ?_; repeat' (refine fork_eq ?_ ?_<;>intro _<;>try simp (disch := first|assumption|omega) only [S0,rA,rQ,rB,rT,rE,S_row,leq_LTRow, *]))
  ·intro i hi hp
   have hb : InB xs (i : Int) := InB_nat.2 hi
   have hb' : InB ys (i : Int) := InB_nat.2 (by omega)
   have h2 : decide ((i : Int) < xs.length) = true := by simp; omega
   have hq : szL sz_TRow (atI xs i) <= 1099511627776 := by
    have := szL_mem (f := (szL sz_TRow)) (at_mem hi)
    omega
   (refine fork_in ?_; repeat' (refine fork_eq ?_ ?_<;>intro _<;>try simp (disch := first|assumption|omega) only [S0,rA,rQ,rB,rT,rE,S_row,leq_LTRow, *]))
  ·have h2 : decide ((xs.length : Int) < xs.length) = false := by simp
   (refine fork_in ?_; repeat' (refine fork_eq ?_ ?_<;>intro _<;>try simp (disch := first|assumption|omega) only [S0,rA,rQ,rB,rT,rE, *]))
 ·have hl' : ((xs.length : Int) == (ys.length : Int)) = false := by simp; omega
  have e := eq_len (fun h => hl h.symm)
  (refine fork_in ?_; repeat' (refine fork_eq ?_ ?_<;>intro _<;>try simp (disch := first|assumption|omega) only [S0,rA,rQ,rB,rT,rE, *]))
theorem lmk_LLTRow (xs : (List (List TRow))) (k : Int) (hk : 0 <= k) (hb : k + (ctL (ctL ct_TRow) xs : Nat) <= 1152921504606846976) (hl : szL (szL sz_TRow) xs <= 1099511627776) : Fun T 84 [rL xs, i64 k] = some [i64 (k + (ctL (ctL ct_TRow) xs : Nat)), rL (mkL (ctL ct_TRow) (mkL ct_TRow mk_TRow) xs k)] := by
 rw [Fun_k (t := tm84) rfl]; unfold tm84
 have hx : xs.length <= 1099511627776 := Nat.le_trans szL_len hl
 simp (disch := first|assumption|omega) only [S0,rA,rQ,rB,rT,rE, *]
 rw [markLoop xs (ctL ct_TRow) (mkL ct_TRow mk_TRow) k rfl rfl rfl hk hb ?_ ?_ (by omega)]
 ·(refine fork_in ?_; repeat' (refine fork_eq ?_ ?_<;>intro _<;>try simp (disch := first|assumption|omega) only [S0,rA,rQ,rB,rT,rE, *]))
 ·intro i ys m hi hy hb hlt hat hm hc hlen
  have hq : szL sz_TRow (atI xs i) <= 1099511627776 := by
   have := szL_mem (f := (szL sz_TRow)) (at_mem hi)
   omega
  (refine fork_in ?_; repeat' (refine fork_eq ?_ ?_<;>intro _<;>try simp (disch := first|assumption|omega|(simp only [S_upd]; assumption)) only [S0,rA,rQ,rB,rT,rE,S_row,S_set,S_upd,lmk_LTRow, *]))
 ·intro ys m hy hlt
  (refine fork_in ?_; repeat' (refine fork_eq ?_ ?_<;>intro _<;>try simp (disch := first|assumption|omega) only [S0,rA,rQ,rB,rT,rE, *]))
theorem lsz_TTable (x_n : Int) (x_rows : (List (List TRow))) (l : Int) (h0 : 0 <= l) (h1 : l <= 1048576) (hw : wf_TTable ⟨x_n, x_rows⟩) : Fun T 1 [i64 x_n, rL x_rows, i64 l] = some [i64 (szR l (sz_TTable ⟨x_n, x_rows⟩))] := by
 rw [Fun_k (t := tm1) rfl]; unfold tm1
 unfold wf_TTable at hw
 simp only at hw
 have w0 := hw
 by_cases c0 : ((szL (szL sz_TRow) x_rows : Nat) : Int) <= l
 rotate_left
 ·have e0 : szR (l) (szL (szL sz_TRow) x_rows) = -1 := if_neg c0
  have d0 : decide ((-1 : Int) < 0) = true := rfl
  have e : szR l (sz_TTable ⟨x_n, x_rows⟩) = -1 := by unfold szR sz_TTable; simp only []; split <;> omega
  (refine fork_in ?_; repeat' (refine fork_eq ?_ ?_<;>intro _<;>try simp (disch := first|assumption|omega) only [S0,rA,rQ,rB,rT,rE,lsz_LLTRow, *]))
 have e0 : szR (l) (szL (szL sz_TRow) x_rows) = l - (szL (szL sz_TRow) x_rows : Nat) := if_pos c0
 have d0 : decide (l - ((szL (szL sz_TRow) x_rows : Nat) : Int) < 0) = false := by simp; omega
 have e : szR l (sz_TTable ⟨x_n, x_rows⟩) = l - ((szL (szL sz_TRow) x_rows : Nat) : Int) := by unfold szR sz_TTable; simp only []; split <;> omega
 (refine fork_in ?_; repeat' (refine fork_eq ?_ ?_<;>intro _<;>try simp (disch := first|assumption|omega) only [S0,rA,rQ,rB,rT,rE,lsz_LLTRow, *]))
theorem lto_TTable (x_n : Int) (x_rows : (List (List TRow))) (hs : sz_TTable ⟨x_n, x_rows⟩ <= 1048576) : Fun T 7 [i64 x_n, rL x_rows] = some [i64 x_n, rL x_rows] := by
 rw [Fun_k (t := tm7) rfl]; unfold tm7
 unfold sz_TTable at hs
 simp only at hs
 have s0 : szL (szL sz_TRow) x_rows <= 1048576 := by omega
 (refine fork_in ?_; repeat' (refine fork_eq ?_ ?_<;>intro _<;>try simp (disch := first|assumption|omega) only [S0,rA,rQ,rB,rT,rE,lto_LLTRow, *]))
theorem leq_TTable (x_n : Int) (x_rows : (List (List TRow))) (y_n : Int) (y_rows : (List (List TRow))) (hs : sz_TTable ⟨x_n, x_rows⟩ <= 1099511627776) : Fun T 77 [i64 x_n, rL x_rows, i64 y_n, rL y_rows] = some [.bool (decide ((⟨x_n, x_rows⟩ : TTable) = ⟨y_n, y_rows⟩))] := by
 rw [Fun_k (t := tm77) rfl]; unfold tm77
 unfold sz_TTable at hs
 simp only at hs
 have s0 : szL (szL sz_TRow) x_rows <= 1099511627776 := by omega
 have e : decide ((⟨x_n, x_rows⟩ : TTable) = ⟨y_n, y_rows⟩) = ((x_n == y_n) && decide ((x_rows : (List (List TRow))) = y_rows)) := by
  simp only [TTable.mk.injEq, Bool.beq_eq_decide_eq, Bool.decide_and, Bool.and_assoc]
 rw [e]
 (refine fork_in ?_; repeat' (refine fork_eq ?_ ?_<;>intro _<;>try simp (disch := first|assumption|omega) only [S0,rA,rQ,rB,rT,rE,leq_LLTRow, *]))
theorem lmk_TTable (x_n : Int) (x_rows : (List (List TRow))) (k : Int) (hk : 0 <= k) (hb : k + (ctL (ctL ct_TRow) x_rows : Nat) <= 1152921504606846976) (hl0 : szL (szL sz_TRow) x_rows <= 1099511627776) : Fun T 83 [i64 x_n, rL x_rows, i64 k] = some [i64 (k + (ctL (ctL ct_TRow) x_rows : Nat)), rL (mkL (ctL ct_TRow) (mkL ct_TRow mk_TRow) x_rows (k))] := by
 rw [Fun_k (t := tm83) rfl]; unfold tm83
 (refine fork_in ?_; repeat' (refine fork_eq ?_ ?_<;>intro _<;>try simp (disch := first|assumption|omega) only [S0,rA,rQ,rB,rT,rE,lmk_LLTRow, *]))
theorem leq_LLI (xs ys : (List (List Int))) (hs : szL (szL (fun _ => 0)) xs <= 1099511627776) : Fun T 75 [rL xs, rL ys] = some [.bool (decide (xs = ys))] := by
 rw [Fun_k (t := tm75) rfl]; unfold tm75
 have hx : xs.length <= 1099511627776 := Nat.le_trans szL_len hs
 by_cases hl : ys.length = xs.length
 ·simp (disch := first|assumption|omega) only [S0,rA,rQ,rB,rT,rE, *]
  rw [scanX 1 xs.length (fun i => decide (atI xs i = atI ys i)) [.bool false], allB_eq hl.symm]
  ·(refine fork_in ?_; repeat' (refine fork_eq ?_ ?_<;>intro _<;>try simp (disch := first|assumption|omega) only [S0,rA,rQ,rB,rT,rE, *]))
  ·intro i hi hp
   have hb : InB xs (i : Int) := InB_nat.2 hi
   have hb' : InB ys (i : Int) := InB_nat.2 (by omega)
   have h2 : decide ((i : Int) < xs.length) = true := by simp; omega
   have hq : szL (fun _ => 0) (atI xs i) <= 1099511627776 := by
    have := szL_mem (f := (szL (fun _ => 0))) (at_mem hi)
    omega
   (refine fork_in ?_; repeat' (refine fork_eq ?_ ?_<;>intro _<;>try simp (disch := first|assumption|omega) only [S0,rA,rQ,rB,rT,rE,S_row,leq_LI, *]))
  ·intro i hi hp
   have hb : InB xs (i : Int) := InB_nat.2 hi
   have hb' : InB ys (i : Int) := InB_nat.2 (by omega)
   have h2 : decide ((i : Int) < xs.length) = true := by simp; omega
   have hq : szL (fun _ => 0) (atI xs i) <= 1099511627776 := by
    have := szL_mem (f := (szL (fun _ => 0))) (at_mem hi)
    omega
   (refine fork_in ?_; repeat' (refine fork_eq ?_ ?_<;>intro _<;>try simp (disch := first|assumption|omega) only [S0,rA,rQ,rB,rT,rE,S_row,leq_LI, *]))
  ·have h2 : decide ((xs.length : Int) < xs.length) = false := by simp
   (refine fork_in ?_; repeat' (refine fork_eq ?_ ?_<;>intro _<;>try simp (disch := first|assumption|omega) only [S0,rA,rQ,rB,rT,rE, *]))
 ·have hl' : ((xs.length : Int) == (ys.length : Int)) = false := by simp; omega
  have e := eq_len (fun h => hl h.symm)
  (refine fork_in ?_; repeat' (refine fork_eq ?_ ?_<;>intro _<;>try simp (disch := first|assumption|omega) only [S0,rA,rQ,rB,rT,rE, *]))
theorem lmk_LLI (xs : (List (List Int))) (k : Int) (hk : 0 <= k) (hb : k + (ctL (ctL (fun _ => 1)) xs : Nat) <= 1152921504606846976) (hl : szL (szL (fun _ => 0)) xs <= 1099511627776) : Fun T 87 [rL xs, i64 k] = some [i64 (k + (ctL (ctL (fun _ => 1)) xs : Nat)), rL (mkL (ctL (fun _ => 1)) (mkL (fun _ => 1) (fun _ k => k)) xs k)] := by
 rw [Fun_k (t := tm87) rfl]; unfold tm87
 have hx : xs.length <= 1099511627776 := Nat.le_trans szL_len hl
 simp (disch := first|assumption|omega) only [S0,rA,rQ,rB,rT,rE, *]
 rw [markLoop xs (ctL (fun _ => 1)) (mkL (fun _ => 1) (fun _ k => k)) k rfl rfl rfl hk hb ?_ ?_ (by omega)]
 ·(refine fork_in ?_; repeat' (refine fork_eq ?_ ?_<;>intro _<;>try simp (disch := first|assumption|omega) only [S0,rA,rQ,rB,rT,rE, *]))
 ·intro i ys m hi hy hb hlt hat hm hc hlen
  have hq : (atI xs i).length <= 1099511627776 := by
   have := szL_mem (f := (szL (fun _ => 0))) (at_mem hi)
   have := szL_len (f := (fun _ => 0)) (xs := atI xs i)
   omega
  (refine fork_in ?_; repeat' (refine fork_eq ?_ ?_<;>intro _<;>try simp (disch := first|assumption|omega|(simp only [S_upd]; assumption)) only [S0,rA,rQ,rB,rT,rE,S_row,S_set,S_upd,lmk_LI, *]))
 ·intro ys m hy hlt
  (refine fork_in ?_; repeat' (refine fork_eq ?_ ?_<;>intro _<;>try simp (disch := first|assumption|omega) only [S0,rA,rQ,rB,rT,rE, *]))
theorem lhd_LLI (xs : (List (List Int))) (k : Int) (hk : 0 <= k) (hb : k + (ctL (ctL (fun _ => 1)) xs : Nat) <= 1152921504606846976) (hl : szL (szL (fun _ => 0)) xs <= 1099511627776) : Fun T 88 [rL (mkL (ctL (fun _ => 1)) (mkL (fun _ => 1) (fun _ k => k)) xs k), i64 k] = some [i64 (k + (ctL (ctL (fun _ => 1)) xs : Nat))] := by
 rw [Fun_k (t := tm88) rfl]; unfold tm88
 have hx : xs.length <= 1099511627776 := Nat.le_trans szL_len hl
 simp (disch := first|assumption|omega) only [S0,rA,rQ,rB,rT,rE, *]
 rw [heldLoop xs (ctL (fun _ => 1)) (mkL (fun _ => 1) (fun _ k => k)) k rfl hk hb (by omega)]
 ·(refine fork_in ?_; repeat' (refine fork_eq ?_ ?_<;>intro _<;>try simp (disch := first|assumption|omega) only [S0,rA,rQ,rB,rT,rE, *]))
 ·intro i m hi hb hy hlt hat hm hc hlen
  have hq : (atI xs i).length <= 1099511627776 := by
   have := szL_mem (f := (szL (fun _ => 0))) (at_mem hi)
   have := szL_len (f := (fun _ => 0)) (xs := atI xs i)
   omega
  have hz : decide (m + (ctL (fun _ => 1) (atI xs i) : Nat) < 0) = false := by simp; omega
  (refine fork_in ?_; repeat' (refine fork_eq ?_ ?_<;>intro _<;>try simp (disch := first|assumption|omega) only [S0,rA,rQ,rB,rT,rE,S_row,lhd_LI,lt0, *]))
 ·intro m hy hlt
  (refine fork_in ?_; repeat' (refine fork_eq ?_ ?_<;>intro _<;>try simp (disch := first|assumption|omega) only [S0,rA,rQ,rB,rT,rE, *]))
theorem impl_within (x lo up : Int) : Fun T 47 [i64 x, i64 lo, i64 up] = some [.bool (inR x lo up)] := by
 rw [Fun_k (t := tm47) rfl]; unfold tm47; unfold inR
 (refine fork_in ?_; repeat' (refine fork_eq ?_ ?_<;>intro _<;>try simp (disch := first|assumption|omega) only [S0,rA,rQ,rB,rT,rE, *]))
theorem spec_l1In (x lo up : Int) : Fun T 18 [i64 x, i64 lo, i64 up] = some [.bool (inR x lo up)] := by
 rw [Fun_k (t := tm18) rfl]; unfold tm18; unfold inR
 (refine fork_in ?_; repeat' (refine fork_eq ?_ ?_<;>intro _<;>try simp (disch := first|assumption|omega) only [S0,rA,rQ,rB,rT,rE, *]))
theorem impl_IsGroup (n : Int) : Fun T 39 [i64 n] = some [.bool (isGrp n)] := by
 rw [Fun_k (t := tm39) rfl]; unfold tm39; unfold isGrp
 (refine fork_in ?_; repeat' (refine fork_eq ?_ ?_<;>intro _<;>try simp (disch := first|assumption|omega) only [S0,rA,rQ,rB,rT,rE, *]))
theorem spec_IsGroup (n : Int) : Fun T 16 [i64 n] = some [.bool (isGrp n)] := by
 rw [Fun_k (t := tm16) rfl]; unfold tm16; unfold isGrp
 (refine fork_in ?_; repeat' (refine fork_eq ?_ ?_<;>intro _<;>try simp (disch := first|assumption|omega) only [S0,rA,rQ,rB,rT,rE, *]))
theorem impl_isAccount (n : Int) : Fun T 49 [i64 n] = some [.bool (inR n 0 3)] := by
 rw [Fun_k (t := tm49) rfl]; unfold tm49
 (refine fork_in ?_; repeat' (refine fork_eq ?_ ?_<;>intro _<;>try simp (disch := first|assumption|omega) only [S0,rA,rQ,rB,rT,rE,impl_within, *]))
theorem spec_l2Account (n : Int) : Fun T 24 [i64 n] = some [.bool (inR n 0 3)] := by
 rw [Fun_k (t := tm24) rfl]; unfold tm24
 (refine fork_in ?_; repeat' (refine fork_eq ?_ ?_<;>intro _<;>try simp (disch := first|assumption|omega) only [S0,rA,rQ,rB,rT,rE,spec_l1In, *]))
theorem spec_l2Code (k i f t a : Int) : Fun T 23 [i64 k, i64 i, i64 f, i64 t, i64 a] = some [i64 (cmdCode ⟨k, i, f, t, a⟩)] := by
 rw [Fun_k (t := tm23) rfl]; unfold tm23; unfold cmdCode
 (refine fork_in ?_; repeat' (refine fork_eq ?_ ?_<;>intro _<;>try simp (disch := first|assumption|omega) only [S0,rA,rQ,rB,rT,rE,spec_l2Account,spec_l1In, *]))
theorem spec_GoodCmd (k i f t a : Int) : Fun T 22 [i64 k, i64 i, i64 f, i64 t, i64 a] = some [.bool (cmdOk ⟨k, i, f, t, a⟩)] := by
 rw [Fun_k (t := tm22) rfl]; unfold tm22; unfold cmdOk
 (refine fork_in ?_; repeat' (refine fork_eq ?_ ?_<;>intro _<;>try simp (disch := first|assumption|omega) only [S0,rA,rQ,rB,rT,rE,spec_l2Code,S_eqs,cmdCode0, *]))
 all_goals (refine bool_fin ?_; simp only [Bool.and_eq_true, Bool.or_eq_true, Bool.not_eq_true', Bool.not_eq_false', Bool.and_eq_false_iff, Bool.or_eq_false_iff, Bool.false_eq_true, beq_iff_eq, beq_eq_false_iff_ne, decide_eq_true_eq, decide_eq_false_iff_not, ne_eq] at *; grind)
theorem impl_GoodCmd (k i f t a : Int) : Fun T 48 [i64 k, i64 i, i64 f, i64 t, i64 a] = some [.bool (cmdOk ⟨k, i, f, t, a⟩)] := by
 rw [Fun_k (t := tm48) rfl]; unfold tm48; unfold cmdOk
 (refine fork_in ?_; repeat' (refine fork_eq ?_ ?_<;>intro _<;>try simp (disch := first|assumption|omega) only [S0,rA,rQ,rB,rT,rE,impl_within,impl_isAccount,S_eqs, *]))
theorem spec_l1All (xs : List Int) (lo up : Int) (hx : xs.length <= 1099511627776) : Fun T 26 [rL xs, i64 lo, i64 up] = some [.bool (xs.all fun x => inR x lo up)] := by
 rw [Fun_k (t := tm26) rfl]; unfold tm26
 simp (disch := first|assumption|omega) only [S0,rA,rQ,rB,rT,rE, S_row, *]
 rw [allX 1 xs (fun x => inR x lo up) [.bool false]]
 ·(refine fork_in ?_; repeat' (refine fork_eq ?_ ?_<;>intro _<;>try simp (disch := first|assumption|omega) only [S0,rA,rQ,rB,rT,rE, *]))
 ·intro i hi hb hl hp
  (refine fork_in ?_; repeat' (refine fork_eq ?_ ?_<;>intro _<;>try simp (disch := first|assumption|omega) only [S0,rA,rQ,rB,rT,rE,S_row,spec_l1In, *]))
 ·intro i hi hb hl hp
  (refine fork_in ?_; repeat' (refine fork_eq ?_ ?_<;>intro _<;>try simp (disch := first|assumption|omega) only [S0,rA,rQ,rB,rT,rE,S_row,spec_l1In, *]))
 ·intro hl
  (refine fork_in ?_; repeat' (refine fork_eq ?_ ?_<;>intro _<;>try simp (disch := first|assumption|omega) only [S0,rA,rQ,rB,rT,rE, *]))
theorem spec_l3Attr (n s : Int) (xs : List Int) (hx : xs.length <= 1099511627776) : Fun T 25 [i64 n, i64 s, rL xs] = some [.bool (attrOk n ⟨s, xs⟩)] := by
 rw [Fun_k (t := tm25) rfl]; unfold tm25; unfold attrOk
 (refine fork_in ?_; repeat' (refine fork_eq ?_ ?_<;>intro _<;>try simp (disch := first|assumption|omega) only [S0,rA,rQ,rB,rT,rE,spec_l1In,spec_l1All, *]))
theorem impl_GoodAttr_1 (x : Int) : Fun T 53 [i64 x] = some [.bool (!inR x 0 6)] := by
 rw [Fun_k (t := tm53) rfl]; unfold tm53
 (refine fork_in ?_; repeat' (refine fork_eq ?_ ?_<;>intro _<;>try simp (disch := first|assumption|omega) only [S0,rA,rQ,rB,rT,rE,impl_within, *]))
theorem ix_GoodAttr_1  (xs : List Int) (hx : xs.length <= 1099511627776) : Fun T 52 [rL xs] = some [i64 (ixF (fun x => !inR x 0 6) xs)] := by
 rw [Fun_k (t := tm52) rfl]; unfold tm52
 simp (disch := first|assumption|omega) only [S0,rA,rQ,rB,rT,rE, S_row, *]
 rw [findX 1 xs (fun x => !inR x 0 6) (fun i => [i64 i])]
 ·cases h : xs.any (fun x => !inR x 0 6)
  ·have e : ixF (fun x => !inR x 0 6) xs = -1 := by
    have h2 := ixF_any (fun x => !inR x 0 6) xs
    rw [h] at h2
    unfold ixF at h2 ⊢
    split at h2 <;> simp_all
   rw [e]; simp (disch := first|assumption|omega) only [S0,rA,rQ,rB,rT,rE]
  ·simp (disch := first|assumption|omega) only [S0,rA,rQ,rB,rT,rE]
 ·intro i hi hb hl hp
  (refine fork_in ?_; repeat' (refine fork_eq ?_ ?_<;>intro _<;>try simp (disch := first|assumption|omega) only [S0,rA,rQ,rB,rT,rE,S_row,impl_GoodAttr_1, *]))
 ·intro i hi hb hl hp
  (refine fork_in ?_; repeat' (refine fork_eq ?_ ?_<;>intro _<;>try simp (disch := first|assumption|omega) only [S0,rA,rQ,rB,rT,rE,S_row,impl_GoodAttr_1, *]))
 ·intro hl
  (refine fork_in ?_; repeat' (refine fork_eq ?_ ?_<;>intro _<;>try simp (disch := first|assumption|omega) only [S0,rA,rQ,rB,rT,rE, *]))
theorem ct_GoodAttr_1  (xs : List Int) (hx : xs.length <= 1099511627776) : Fun T 51 [rL xs] = some [.bool (xs.any (fun x => !inR x 0 6))] := by
 rw [Fun_k (t := tm51) rfl]; unfold tm51
 (refine fork_in ?_; repeat' (refine fork_eq ?_ ?_<;>intro _<;>try simp (disch := first|assumption|omega) only [S0,rA,rQ,rB,rT,rE,ix_GoodAttr_1,ixF_any, *]))
theorem impl_GoodAttr (n s : Int) (xs : List Int) (hx : xs.length <= 1099511627776) : Fun T 50 [i64 n, i64 s, rL xs] = some [.bool (isGrp n && attrOk n ⟨s, xs⟩)] := by
 rw [Fun_k (t := tm50) rfl]; unfold tm50; unfold attrOk
 have e : xs.any (fun x => !inR x 0 6) = !xs.all fun x => inR x 0 6 := by rw [List.not_all_eq_any_not]
 (refine fork_in ?_; repeat' (refine fork_eq ?_ ?_<;>intro _<;>try simp (disch := first|assumption|omega) only [S0,rA,rQ,rB,rT,rE,impl_IsGroup,impl_within,ct_GoodAttr_1,e,Bool.not_not, *]))
theorem spec_l1Same (xs ys : List Int) (hx : xs.length <= 1099511627776) : Fun T 21 [rL xs, rL ys] = some [.bool (decide (xs = ys))] := by
 rw [Fun_k (t := tm21) rfl]; unfold tm21
 by_cases hl : ys.length = xs.length
 ·simp (disch := first|assumption|omega) only [S0,rA,rQ,rB,rT,rE, *]
  rw [scanX 1 xs.length (fun i => decide (atI xs i = atI ys i)) [.bool false], allB_eq hl.symm]
  ·(refine fork_in ?_; repeat' (refine fork_eq ?_ ?_<;>intro _<;>try simp (disch := first|assumption|omega) only [S0,rA,rQ,rB,rT,rE, *]))
  ·intro i hi hp
   have hb : InB xs (i : Int) := InB_nat.2 hi
   have hb' : InB ys (i : Int) := InB_nat.2 (by omega)
   have h2 : decide ((i : Int) < xs.length) = true := by simp; omega
   have h3 : (atI xs i == atI ys i) = true := by simpa using hp
   (refine fork_in ?_; repeat' (refine fork_eq ?_ ?_<;>intro _<;>try simp (disch := first|assumption|omega) only [S0,rA,rQ,rB,rT,rE,S_row, *]))
  ·intro i hi hp
   have hb : InB xs (i : Int) := InB_nat.2 hi
   have hb' : InB ys (i : Int) := InB_nat.2 (by omega)
   have h2 : decide ((i : Int) < xs.length) = true := by simp; omega
   have h3 : (atI xs i == atI ys i) = false := by simpa using hp
   (refine fork_in ?_; repeat' (refine fork_eq ?_ ?_<;>intro _<;>try simp (disch := first|assumption|omega) only [S0,rA,rQ,rB,rT,rE,S_row, *]))
  ·have h2 : decide ((xs.length : Int) < xs.length) = false := by simp
   (refine fork_in ?_; repeat' (refine fork_eq ?_ ?_<;>intro _<;>try simp (disch := first|assumption|omega) only [S0,rA,rQ,rB,rT,rE, *]))
 ·have hl' : ((xs.length : Int) == (ys.length : Int)) = false := by simp; omega
  have e := eq_len (fun h => hl h.symm)
  (refine fork_in ?_; repeat' (refine fork_eq ?_ ?_<;>intro _<;>try simp (disch := first|assumption|omega) only [S0,rA,rQ,rB,rT,rE, *]))
theorem slices_Equal_int (xs ys : List Int) (hx : xs.length <= 1099511627776) : Fun T 56 [rL xs, rL ys] = some [.bool (decide (xs = ys))] := by
 rw [Fun_k (t := tm56) rfl]; unfold tm56
 by_cases hl : ys.length = xs.length
 ·simp (disch := first|assumption|omega) only [S0,rA,rQ,rB,rT,rE, *]
  rw [scanX 1 xs.length (fun i => decide (atI xs i = atI ys i)) [.bool false], allB_eq hl.symm]
  ·(refine fork_in ?_; repeat' (refine fork_eq ?_ ?_<;>intro _<;>try simp (disch := first|assumption|omega) only [S0,rA,rQ,rB,rT,rE, *]))
  ·intro i hi hp
   have hb : InB xs (i : Int) := InB_nat.2 hi
   have hb' : InB ys (i : Int) := InB_nat.2 (by omega)
   have h2 : decide ((i : Int) < xs.length) = true := by simp; omega
   have h3 : (atI xs i == atI ys i) = true := by simpa using hp
   (refine fork_in ?_; repeat' (refine fork_eq ?_ ?_<;>intro _<;>try simp (disch := first|assumption|omega) only [S0,rA,rQ,rB,rT,rE,S_row, *]))
  ·intro i hi hp
   have hb : InB xs (i : Int) := InB_nat.2 hi
   have hb' : InB ys (i : Int) := InB_nat.2 (by omega)
   have h2 : decide ((i : Int) < xs.length) = true := by simp; omega
   have h3 : (atI xs i == atI ys i) = false := by simpa using hp
   (refine fork_in ?_; repeat' (refine fork_eq ?_ ?_<;>intro _<;>try simp (disch := first|assumption|omega) only [S0,rA,rQ,rB,rT,rE,S_row, *]))
  ·have h2 : decide ((xs.length : Int) < xs.length) = false := by simp
   (refine fork_in ?_; repeat' (refine fork_eq ?_ ?_<;>intro _<;>try simp (disch := first|assumption|omega) only [S0,rA,rQ,rB,rT,rE, *]))
 ·have hl' : ((xs.length : Int) == (ys.length : Int)) = false := by simp; omega
  have e := eq_len (fun h => hl h.symm)
  (refine fork_in ?_; repeat' (refine fork_eq ?_ ?_<;>intro _<;>try simp (disch := first|assumption|omega) only [S0,rA,rQ,rB,rT,rE, *]))
theorem spec_SameAttr (s s' : Int) (xs ys : List Int) (hx : xs.length <= 1099511627776) : Fun T 20 [i64 s, rL xs, i64 s', rL ys] = some [.bool (decide ((⟨s, xs⟩ : TAttr) = ⟨s', ys⟩))] := by
 rw [Fun_k (t := tm20) rfl]; unfold tm20
 have e : decide ((⟨s, xs⟩ : TAttr) = ⟨s', ys⟩) = (s == s' && decide (xs = ys)) := by simp [TAttr.mk.injEq, Bool.beq_eq_decide_eq]
 (refine fork_in ?_; repeat' (refine fork_eq ?_ ?_<;>intro _<;>try simp (disch := first|assumption|omega) only [S0,rA,rQ,rB,rT,rE,spec_l1Same,e, *]))
theorem impl_SameAttr (s s' : Int) (xs ys : List Int) (hx : xs.length <= 1099511627776) : Fun T 55 [i64 s, rL xs, i64 s', rL ys] = some [.bool (decide ((⟨s, xs⟩ : TAttr) = ⟨s', ys⟩))] := by
 rw [Fun_k (t := tm55) rfl]; unfold tm55
 have e : decide ((⟨s, xs⟩ : TAttr) = ⟨s', ys⟩) = (s == s' && decide (xs = ys)) := by simp [TAttr.mk.injEq, Bool.beq_eq_decide_eq]
 (refine fork_in ?_; repeat' (refine fork_eq ?_ ?_<;>intro _<;>try simp (disch := first|assumption|omega) only [S0,rA,rQ,rB,rT,rE,slices_Equal_int,e, *]))
theorem spec_l3None (n : Int) (hg : isGrp n = true) : Fun T 19 [i64 n] = some [i64 (none0 n).seq, rL (none0 n).deps] := by
 rw [Fun_k (t := tm19) rfl]; unfold tm19; unfold none0
 have hn := isGrp_rng hg
 (refine fork_in ?_; repeat' (refine fork_eq ?_ ?_<;>intro _<;>try simp (disch := first|assumption|omega) only [S0,rA,rQ,rB,rT,rE,S_make, *]))
theorem impl_noneAttr (n : Int) (hg : isGrp n = true) : Fun T 54 [i64 n] = some [i64 (none0 n).seq, rL (none0 n).deps] := by
 rw [Fun_k (t := tm54) rfl]; unfold tm54; unfold none0
 have hn := isGrp_rng hg
 (refine fork_in ?_; repeat' (refine fork_eq ?_ ?_<;>intro _<;>try simp (disch := first|assumption|omega) only [S0,rA,rQ,rB,rT,rE,S_make, *]))
theorem spec_l4Row (n bal vot sta k i f t a sq : Int) (xs : List Int) (hg : isGrp n = true) (hx : xs.length <= 1099511627776) :
  Fun T 17 [i64 n, i64 bal, i64 vot, i64 sta, i64 k, i64 i, i64 f, i64 t, i64 a, i64 sq, rL xs] = some [.bool (rowOk n ⟨bal, vot, sta, ⟨k, i, f, t, a⟩, ⟨sq, xs⟩⟩)] := by
 rw [Fun_k (t := tm17) rfl]; unfold tm17; unfold rowOk
 (refine fork_in ?_; repeat' (refine fork_eq ?_ ?_<;>intro _<;>try simp (disch := first|assumption|omega) only [S0,rA,rQ,rB,rT,rE,spec_l1In,S_eqs,spec_l3None,spec_SameAttr,spec_GoodCmd,spec_l3Attr, *]))
theorem impl_goodRow (n bal vot sta k i f t a sq : Int) (xs : List Int) (hg : isGrp n = true) (hx : xs.length <= 1099511627776) :
  Fun T 46 [i64 n, i64 bal, i64 vot, i64 sta, i64 k, i64 i, i64 f, i64 t, i64 a, i64 sq, rL xs] = some [.bool (rowOk n ⟨bal, vot, sta, ⟨k, i, f, t, a⟩, ⟨sq, xs⟩⟩)] := by
 rw [Fun_k (t := tm46) rfl]; unfold tm46; unfold rowOk
 have h1 := @cmdZ_ok ⟨k, i, f, t, a⟩
 have h2 := none0_ok hg
 have h3 : decide ((⟨sq, xs⟩ : TAttr) = none0 n) = true -> attrOk n ⟨sq, xs⟩ = true := fun h => by rw [of_decide_eq_true h]; exact h2
 (refine fork_in ?_; repeat' (refine fork_eq ?_ ?_<;>intro _<;>try simp (disch := first|assumption|omega) only [S0,rA,rQ,rB,rT,rE,impl_within,S_eqs,impl_noneAttr,impl_SameAttr,impl_GoodCmd,impl_GoodAttr, *]))
 all_goals (refine bool_fin ?_; simp only [Bool.and_eq_true, Bool.or_eq_true, Bool.not_eq_true', Bool.not_eq_false', Bool.and_eq_false_iff, Bool.or_eq_false_iff, Bool.false_eq_true, beq_iff_eq, beq_eq_false_iff_ne, decide_eq_true_eq, decide_eq_false_iff_not, ne_eq] at *; grind)
theorem slices_Clone_int (xs : List Int) (hx : xs.length <= 10000000000) : Fun T 68 [rL xs] = some [rL xs] := by
 rw [Fun_ext (e := ex68) rfl]
 cases xs with
 | nil => rfl
 | cons x xs =>
  show Fun (entTab [(68, .tm tm68)]) 68 [rL (x :: xs)] = _
  rw [Fun_k (t := tm68) rfl]
  unfold tm68
  have hx' : (x :: xs).length <= 100000000000 := by omega
  have h0 : (Prim.mk 1 0).run [] = some [.rows 1 []] := rfl
  have h1 : (x :: xs).isEmpty = false := rfl
  simp (disch := first | assumption | omega) only [SA, SB, SC, SP, SQ, SZ, reduceIte, reduceCtorEq, Nat.reduceAdd, Nat.reduceEqDiff, rL_ne, rL_emp, h0, h1, S_app]
theorem impl_Attr_copied (s : Int) (xs : List Int) (hx : xs.length <= 10000000000) : Fun T 67 [i64 s, rL xs] = some [i64 s, rL xs] := by
 rw [Fun_k (t := tm67) rfl]; unfold tm67
 (refine fork_in ?_; repeat' (refine fork_eq ?_ ?_<;>intro _<;>try simp (disch := first|assumption|omega) only [S0,rA,rQ,rB,rT,rE,slices_Clone_int, *]))
theorem spec_GoodTable (n : Int) (rows : List (List TRow)) (hs : smTab rows) : Fun T 15 [i64 n, rL rows] = some [.bool (tabOk ⟨n, rows⟩)] := by
 rw [Fun_k (t := tm15) rfl]; unfold tm15; unfold tabOk
 obtain ⟨hs1, hs2⟩ := hs
 cases hg : isGrp n
 ·(refine fork_in ?_; repeat' (refine fork_eq ?_ ?_<;>intro _<;>try simp (disch := first|assumption|omega) only [S0,rA,rQ,rB,rT,rE,spec_IsGroup, *]))
 cases hl : (rows.length : Int) == n
 ·(refine fork_in ?_; repeat' (refine fork_eq ?_ ?_<;>intro _<;>try simp (disch := first|assumption|omega) only [S0,rA,rQ,rB,rT,rE,spec_IsGroup, *]))
 simp (disch := first|assumption|omega) only [S0,rA,rQ,rB,rT,rE, spec_IsGroup, *]
 rw [allF 1 rows (fun l => l.all (fun r => rowOk n r) && decide ((l.length : Int) <= 6)) [.bool false]]
 ·(refine fork_in ?_; repeat' (refine fork_eq ?_ ?_<;>intro _<;>try simp (disch := first|assumption|omega) only [S0,rA,rQ,rB,rT,rE, *]))
 ·intro i hi hb hlt hm
  obtain ⟨hq1, hq2⟩ := hs2 _ hm
  simp (disch := first|assumption|omega) only [S0,rA,rQ,rB,rT,rE, S_row, *]
  rw [allF 3 (atI rows i) (fun r => rowOk n r) [.bool false]]
  ·have e : decide (6 < ((atI rows (i : Int)).length : Int)) = !decide (((atI rows (i : Int)).length : Int) <= 6) := by
    by_cases h : ((atI rows (i : Int)).length : Int) <= 6
    ·simp [h]
    ·simp [h]; omega
   (refine fork_in ?_; repeat' (refine fork_eq ?_ ?_<;>intro _<;>try simp (disch := first|assumption|omega) only [S0,rA,rQ,rB,rT,rE,e, *]))
  ·intro j hj hb2 hlt2 hm2
   have hq3 := hq2 _ hm2
   have hq4 : (atI (atI rows (i : Int)) (j : Int)).attr.deps.length <= 1099511627776 := by omega
   (refine fork_in ?_; repeat' (refine fork_eq ?_ ?_<;>intro _<;>try simp (disch := first|assumption|omega) only [S0,rA,rQ,rB,rT,rE,S_row,spec_l4Row, *]))
  ·intro hl2
   (refine fork_in ?_; repeat' (refine fork_eq ?_ ?_<;>intro _<;>try simp (disch := first|assumption|omega) only [S0,rA,rQ,rB,rT,rE, *]))
 ·intro hl2
  (refine fork_in ?_; repeat' (refine fork_eq ?_ ?_<;>intro _<;>try simp (disch := first|assumption|omega) only [S0,rA,rQ,rB,rT,rE, *]))
theorem impl_GoodTable_1_1 (r_ballot r_vote r_state r_cmd_kind r_cmd_id r_cmd_src r_cmd_dst r_cmd_amt r_attr_seq : Int) (r_attr_deps : (List Int)) (n : Int) (rows : List (List TRow)) (hg : isGrp n = true) (hx : r_attr_deps.length <= 1099511627776) : Fun T 45 [i64 r_ballot, i64 r_vote, i64 r_state, i64 r_cmd_kind, i64 r_cmd_id, i64 r_cmd_src, i64 r_cmd_dst, i64 r_cmd_amt, i64 r_attr_seq, rL r_attr_deps, i64 n, rL rows] = some [.bool (!rowOk n ⟨r_ballot, r_vote, r_state, ⟨r_cmd_kind, r_cmd_id, r_cmd_src, r_cmd_dst, r_cmd_amt⟩, ⟨r_attr_seq, r_attr_deps⟩⟩)] := by
 rw [Fun_k (t := tm45) rfl]; unfold tm45
 (refine fork_in ?_; repeat' (refine fork_eq ?_ ?_<;>intro _<;>try simp (disch := first|assumption|omega) only [S0,rA,rQ,rB,rT,rE,impl_goodRow, *]))
theorem ix_GoodTable_1_1 (n : Int) (rows : List (List TRow)) (hg : isGrp n = true) (xs : List TRow) (hx : xs.length <= 1099511627776) (hq : ∀ x ∈ xs, x.attr.deps.length <= 1099511627776) : Fun T 44 [rL xs, i64 n, rL rows] = some [i64 (ixF (fun r => !rowOk n r) xs)] := by
 rw [Fun_k (t := tm44) rfl]; unfold tm44
 simp (disch := first|assumption|omega) only [S0,rA,rQ,rB,rT,rE, S_row, *]
 rw [findX 1 xs (fun r => !rowOk n r) (fun i => [i64 i])]
 ·cases h : xs.any (fun r => !rowOk n r)
  ·have e : ixF (fun r => !rowOk n r) xs = -1 := by
    have h2 := ixF_any (fun r => !rowOk n r) xs
    rw [h] at h2
    unfold ixF at h2 ⊢
    split at h2 <;> simp_all
   rw [e]; simp (disch := first|assumption|omega) only [S0,rA,rQ,rB,rT,rE]
  ·simp (disch := first|assumption|omega) only [S0,rA,rQ,rB,rT,rE]
 ·intro i hi hb hl hp
  have hq' := hq _ (at_mem hi)
  try simp only at hq' hp
  (refine fork_in ?_; repeat' (refine fork_eq ?_ ?_<;>intro _<;>try simp (disch := first|assumption|omega) only [S0,rA,rQ,rB,rT,rE,S_row,impl_GoodTable_1_1, *]))
 ·intro i hi hb hl hp
  have hq' := hq _ (at_mem hi)
  try simp only at hq' hp
  (refine fork_in ?_; repeat' (refine fork_eq ?_ ?_<;>intro _<;>try simp (disch := first|assumption|omega) only [S0,rA,rQ,rB,rT,rE,S_row,impl_GoodTable_1_1, *]))
 ·intro hl
  (refine fork_in ?_; repeat' (refine fork_eq ?_ ?_<;>intro _<;>try simp (disch := first|assumption|omega) only [S0,rA,rQ,rB,rT,rE, *]))
theorem ct_GoodTable_1_1 (n : Int) (rows : List (List TRow)) (hg : isGrp n = true) (xs : List TRow) (hx : xs.length <= 1099511627776) (hq : ∀ x ∈ xs, x.attr.deps.length <= 1099511627776) : Fun T 43 [rL xs, i64 n, rL rows] = some [.bool (xs.any (fun r => !rowOk n r))] := by
 rw [Fun_k (t := tm43) rfl]; unfold tm43
 (refine fork_in ?_; repeat' (refine fork_eq ?_ ?_<;>intro _<;>try simp (disch := first|assumption|omega) only [S0,rA,rQ,rB,rT,rE,ix_GoodTable_1_1,ixF_any, *]))
theorem impl_GoodTable_1 (l : List TRow) (n : Int) (rows : List (List TRow)) (hg : isGrp n = true) (hx : l.length <= 1099511627776) (hq : ∀ x ∈ l, x.attr.deps.length <= 1099511627776) : Fun T 42 [rL l, i64 n, rL rows] = some [.bool (decide (6 < (l.length : Int)) || l.any fun r => !rowOk n r)] := by
 rw [Fun_k (t := tm42) rfl]; unfold tm42
 (refine fork_in ?_; repeat' (refine fork_eq ?_ ?_<;>intro _<;>try simp (disch := first|assumption|omega) only [S0,rA,rQ,rB,rT,rE,ct_GoodTable_1_1, *]))
theorem ix_GoodTable_1 (n : Int) (rows : List (List TRow)) (hg : isGrp n = true) (xs : List (List TRow)) (hx : xs.length <= 1099511627776) (hq : ∀ x ∈ xs, x.length <= 1099511627776 /\ ∀ y ∈ x, y.attr.deps.length <= 1099511627776) : Fun T 41 [rL xs, i64 n, rL rows] = some [i64 (ixF (fun l => decide (6 < (l.length : Int)) || l.any fun r => !rowOk n r) xs)] := by
 rw [Fun_k (t := tm41) rfl]; unfold tm41
 simp (disch := first|assumption|omega) only [S0,rA,rQ,rB,rT,rE, S_row, *]
 rw [findX 1 xs (fun l => decide (6 < (l.length : Int)) || l.any fun r => !rowOk n r) (fun i => [i64 i])]
 ·cases h : xs.any (fun l => decide (6 < (l.length : Int)) || l.any fun r => !rowOk n r)
  ·have e : ixF (fun l => decide (6 < (l.length : Int)) || l.any fun r => !rowOk n r) xs = -1 := by
    have h2 := ixF_any (fun l => decide (6 < (l.length : Int)) || l.any fun r => !rowOk n r) xs
    rw [h] at h2
    unfold ixF at h2 ⊢
    split at h2 <;> simp_all
   rw [e]; simp (disch := first|assumption|omega) only [S0,rA,rQ,rB,rT,rE]
  ·simp (disch := first|assumption|omega) only [S0,rA,rQ,rB,rT,rE]
 ·intro i hi hb hl hp
  have hq' := hq _ (at_mem hi)
  try simp only at hq' hp
  obtain ⟨hq1, hq2⟩ := hq'
  (refine fork_in ?_; repeat' (refine fork_eq ?_ ?_<;>intro _<;>try simp (disch := first|assumption|omega) only [S0,rA,rQ,rB,rT,rE,S_row,impl_GoodTable_1, *]))
 ·intro i hi hb hl hp
  have hq' := hq _ (at_mem hi)
  try simp only at hq' hp
  obtain ⟨hq1, hq2⟩ := hq'
  (refine fork_in ?_; repeat' (refine fork_eq ?_ ?_<;>intro _<;>try simp (disch := first|assumption|omega) only [S0,rA,rQ,rB,rT,rE,S_row,impl_GoodTable_1, *]))
 ·intro hl
  (refine fork_in ?_; repeat' (refine fork_eq ?_ ?_<;>intro _<;>try simp (disch := first|assumption|omega) only [S0,rA,rQ,rB,rT,rE, *]))
theorem ct_GoodTable_1 (n : Int) (rows : List (List TRow)) (hg : isGrp n = true) (xs : List (List TRow)) (hx : xs.length <= 1099511627776) (hq : ∀ x ∈ xs, x.length <= 1099511627776 /\ ∀ y ∈ x, y.attr.deps.length <= 1099511627776) : Fun T 40 [rL xs, i64 n, rL rows] = some [.bool (xs.any (fun l => decide (6 < (l.length : Int)) || l.any fun r => !rowOk n r))] := by
 rw [Fun_k (t := tm40) rfl]; unfold tm40
 (refine fork_in ?_; repeat' (refine fork_eq ?_ ?_<;>intro _<;>try simp (disch := first|assumption|omega) only [S0,rA,rQ,rB,rT,rE,ix_GoodTable_1,ixF_any, *]))
theorem impl_GoodTable (n : Int) (rows : List (List TRow)) (hs : smTab rows) : Fun T 38 [i64 n, rL rows] = some [.bool (tabOk ⟨n, rows⟩)] := by
 rw [Fun_k (t := tm38) rfl]; unfold tm38; unfold tabOk
 obtain ⟨hs1, hs2⟩ := hs
 have hs3 : ∀ x ∈ rows, x.length <= 1099511627776 /\ ∀ y ∈ x, y.attr.deps.length <= 1099511627776 := fun x hx => ⟨by have := (hs2 x hx).1; omega, fun y hy => by have := (hs2 x hx).2 y hy; omega⟩
 have e : (rows.any fun l => decide (6 < (l.length : Int)) || l.any fun r => !rowOk n r) = !rows.all fun l => l.all (fun r => rowOk n r) && decide ((l.length : Int) <= 6) := by
  rw [List.not_all_eq_any_not]
  congr 1
  funext l
  rw [<- List.not_all_eq_any_not, Bool.not_and, Bool.or_comm]
  congr 1
  by_cases h : (l.length : Int) <= 6
  ·simp [h]
  ·simp [h]; omega
 (refine fork_in ?_; repeat' (refine fork_eq ?_ ?_<;>intro _<;>try simp (disch := first|assumption|omega) only [S0,rA,rQ,rB,rT,rE,impl_IsGroup,ct_GoodTable_1,e,Bool.not_not, *]))
theorem spec_l1Own (xs : List Int) (hx : xs.length <= 10000000000) : Fun T 34 [rL xs] = some [rL xs] := by
 rw [Fun_k (t := tm34) rfl]; unfold tm34
 have h0 : (Prim.mk 1 0).run [] = some [.rows 1 []] := rfl
 (refine fork_in ?_; repeat' (refine fork_eq ?_ ?_<;>intro _<;>try simp (disch := first|assumption|omega) only [S0,rA,rQ,rB,rT,rE,h0,S_app, *]))
theorem spec_l4OwnAttr (s : Int) (xs : List Int) (hx : xs.length <= 10000000000) : Fun T 33 [i64 s, rL xs] = some [i64 s, rL xs] := by
 rw [Fun_k (t := tm33) rfl]; unfold tm33
 (refine fork_in ?_; repeat' (refine fork_eq ?_ ?_<;>intro _<;>try simp (disch := first|assumption|omega) only [S0,rA,rQ,rB,rT,rE,spec_l1Own, *]))
theorem spec_l4OwnRow (r_ballot r_vote r_state r_cmd_kind r_cmd_id r_cmd_src r_cmd_dst r_cmd_amt r_attr_seq : Int) (r_attr_deps : (List Int)) (hx : r_attr_deps.length <= 10000000000) : Fun T 32 [i64 r_ballot, i64 r_vote, i64 r_state, i64 r_cmd_kind, i64 r_cmd_id, i64 r_cmd_src, i64 r_cmd_dst, i64 r_cmd_amt, i64 r_attr_seq, rL r_attr_deps] = some [i64 r_ballot, i64 r_vote, i64 r_state, i64 r_cmd_kind, i64 r_cmd_id, i64 r_cmd_src, i64 r_cmd_dst, i64 r_cmd_amt, i64 r_attr_seq, rL r_attr_deps] := by
 rw [Fun_k (t := tm32) rfl]; unfold tm32
 (refine fork_in ?_; repeat' (refine fork_eq ?_ ?_<;>intro _<;>try simp (disch := first|assumption|omega) only [S0,rA,rQ,rB,rT,rE,spec_l4OwnAttr, *]))
theorem impl_Row_copied (r_ballot r_vote r_state r_cmd_kind r_cmd_id r_cmd_src r_cmd_dst r_cmd_amt r_attr_seq : Int) (r_attr_deps : (List Int)) (hx : r_attr_deps.length <= 10000000000) : Fun T 66 [i64 r_ballot, i64 r_vote, i64 r_state, i64 r_cmd_kind, i64 r_cmd_id, i64 r_cmd_src, i64 r_cmd_dst, i64 r_cmd_amt, i64 r_attr_seq, rL r_attr_deps] = some [i64 r_ballot, i64 r_vote, i64 r_state, i64 r_cmd_kind, i64 r_cmd_id, i64 r_cmd_src, i64 r_cmd_dst, i64 r_cmd_amt, i64 r_attr_seq, rL r_attr_deps] := by
 rw [Fun_k (t := tm66) rfl]; unfold tm66
 (refine fork_in ?_; repeat' (refine fork_eq ?_ ?_<;>intro _<;>try simp (disch := first|assumption|omega) only [S0,rA,rQ,rB,rT,rE,impl_Attr_copied, *]))
theorem spec_l4At (n : Int) (rows : List (List TRow)) (rep no : Int) (hg : isGrp n = true) (hs : smTab rows) (hb : InB rows rep) (h1 : 1 <= no) (h2 : no <= 1000) : Fun T 31 [i64 n, rL rows, i64 rep, i64 no] = some [i64 (trow ⟨n, rows⟩ rep no).ballot, i64 (trow ⟨n, rows⟩ rep no).vote, i64 (trow ⟨n, rows⟩ rep no).state, i64 (trow ⟨n, rows⟩ rep no).cmd.kind, i64 (trow ⟨n, rows⟩ rep no).cmd.id, i64 (trow ⟨n, rows⟩ rep no).cmd.src, i64 (trow ⟨n, rows⟩ rep no).cmd.dst, i64 (trow ⟨n, rows⟩ rep no).cmd.amt, i64 (trow ⟨n, rows⟩ rep no).attr.seq, rL (trow ⟨n, rows⟩ rep no).attr.deps] := by
 rw [Fun_k (t := tm31) rfl]; unfold tm31; unfold trow row0
 have hq := hs.2 _ (at_memI hb)
 by_cases h : no <= (atI rows rep).length
 ·have h3 : decide (((atI rows rep).length : Int) < no) = false := by simp; omega
  have hb2 : InB (atI rows rep) (no - 1) := by unfold InB; omega
  have hq2 := hq.2 _ (at_memI hb2)
  (refine fork_in ?_; repeat' (refine fork_eq ?_ ?_<;>intro _<;>try simp (disch := first|assumption|omega) only [S0,rA,rQ,rB,rT,rE,S_row,spec_l4OwnRow, *]))
 ·have h3 : decide (((atI rows rep).length : Int) < no) = true := by simp; omega
  (refine fork_in ?_; repeat' (refine fork_eq ?_ ?_<;>intro _<;>try simp (disch := first|assumption|omega) only [S0,rA,rQ,rB,rT,rE,S_row,spec_l3None, *]))
theorem impl_Table_row (n : Int) (rows : List (List TRow)) (rep no : Int) (hg : isGrp n = true) (hs : smTab rows) (hb : InB rows rep) (h1 : 1 <= no) (h2 : no <= 1000) : Fun T 65 [i64 n, rL rows, i64 rep, i64 no] = some [i64 (trow ⟨n, rows⟩ rep no).ballot, i64 (trow ⟨n, rows⟩ rep no).vote, i64 (trow ⟨n, rows⟩ rep no).state, i64 (trow ⟨n, rows⟩ rep no).cmd.kind, i64 (trow ⟨n, rows⟩ rep no).cmd.id, i64 (trow ⟨n, rows⟩ rep no).cmd.src, i64 (trow ⟨n, rows⟩ rep no).cmd.dst, i64 (trow ⟨n, rows⟩ rep no).cmd.amt, i64 (trow ⟨n, rows⟩ rep no).attr.seq, rL (trow ⟨n, rows⟩ rep no).attr.deps] := by
 rw [Fun_k (t := tm65) rfl]; unfold tm65; unfold trow row0
 have hq := hs.2 _ (at_memI hb)
 by_cases h : no <= (atI rows rep).length
 ·have h3 : decide (no <= ((atI rows rep).length : Int)) = true := by simp; omega
  have hb2 : InB (atI rows rep) (no - 1) := by unfold InB; omega
  have hq2 := hq.2 _ (at_memI hb2)
  (refine fork_in ?_; repeat' (refine fork_eq ?_ ?_<;>intro _<;>try simp (disch := first|assumption|omega) only [S0,rA,rQ,rB,rT,rE,S_row,impl_Row_copied, *]))
 ·have h3 : decide (no <= ((atI rows rep).length : Int)) = false := by simp; omega
  (refine fork_in ?_; repeat' (refine fork_eq ?_ ?_<;>intro _<;>try simp (disch := first|assumption|omega) only [S0,rA,rQ,rB,rT,rE,S_row,impl_noneAttr, *]))
theorem spec_l4Committed (n : Int) (rows : List (List TRow)) (hs : ∀ l ∈ rows, l.length <= 6) (hl : rows.length <= 100) : Fun T 28 [i64 n, rL rows] = some [rL (comM rows)] := by
 rw [Fun_k (t := tm28) rfl]; unfold tm28; unfold comM
 simp (disch := first|assumption|omega) only [S0,rA,rQ,rB,rT,rE]
 rw [loopN rows.length (fun k => [rL (comN rows k), i64 k]) (.yield 1, [rL (comN rows rows.length)]) rfl (by simp)]
 ·simp (disch := first|assumption|omega) only [S0,rA,rQ,rB,rT,rE]
 ·intro k hk hlt
  have hb : InB rows (k : Int) := InB_nat.2 hk
  have h6 := hs _ (at_mem hk)
  have hln := comN_len hs (m := k) (by omega)
  simp (disch := first|assumption|omega) only [S0,rA,rQ,rB,rT,rE, S_row, hlt]
  rw [loopN (atI rows (k : Int)).length (fun i => [rL (comN rows k ++ comRowN (atI rows (k : Int)) k i), i64 i]) (.yield 3, [rL (comN rows (k + 1))]) (by show [rL (comN rows k), _] = _; simp [comRowN, Atom.val]) (by simp)]
  ·simp (disch := first|assumption|omega) only [S0,rA,rQ,rB,rT,rE]
  ·intro i hi hlt2
   have hb2 : InB (atI rows (k : Int)) (i : Int) := InB_nat.2 hi
   have hlc := comRowN_len (atI rows (k : Int)) k i
   have hll : (comN rows k ++ comRowN (atI rows (k : Int)) k i).length + ([[(k : Int), (i : Int) + 1]] : List (List Int)).length <= 100000000000 := by
    rw [List.length_append]; simp only [List.length_cons, List.length_nil]; omega
   have e := comRowN_succ (atI rows (k : Int)) k i
   cases hst : (atI (atI rows (k : Int)) (i : Int)).state == 3
   ·rw [hst] at e
    simp only [Bool.false_eq_true, if_false, List.append_nil] at e
    simp (disch := first|assumption|omega) only [S0,rA,rQ,rB,rT,rE, S_row, hlt2, hst, e]
   ·rw [hst] at e
    simp only [if_true] at e
    simp (disch := first|assumption|omega) only [S0,rA,rQ,rB,rT,rE, S_row, S_mk, S_app, hlt2, hst, e, <- List.append_assoc]
  ·intro hlt2
   rw [<- comN_succ]
   simp (disch := first|assumption|omega) only [S0,rA,rQ,rB,rT,rE, hlt2]
 ·intro hlt
  simp (disch := first|assumption|omega) only [S0,rA,rQ,rB,rT,rE, hlt]
theorem impl_Table_committed_1 (k m : Int) (r_ballot r_vote r_state r_cmd_kind r_cmd_id r_cmd_src r_cmd_dst r_cmd_amt r_attr_seq : Int) (r_attr_deps : (List Int)) (out : List (List Int)) (hl : out.length <= 10000000000) : Fun T 60 [i64 k, i64 m, i64 r_ballot, i64 r_vote, i64 r_state, i64 r_cmd_kind, i64 r_cmd_id, i64 r_cmd_src, i64 r_cmd_dst, i64 r_cmd_amt, i64 r_attr_seq, rL r_attr_deps, rL out] = some [rL (out ++ if r_state == 3 then [[k, m]] else [])] := by
 rw [Fun_k (t := tm60) rfl]; unfold tm60
 have hll : out.length + ([[k, m]] : List (List Int)).length <= 100000000000 := by simp only [List.length_cons, List.length_nil]; omega
 cases hst : r_state == 3
 ·simp (disch := first|assumption|omega) only [S0,rA,rQ,rB,rT,rE, hst, List.append_nil, Bool.false_eq_true]
 ·simp (disch := first|assumption|omega) only [S0,rA,rQ,rB,rT,rE, S_mk, S_app, hst]
theorem each_committed (n : Int) (rows : List (List TRow)) (hs : ∀ l ∈ rows, l.length <= 6) (hl : rows.length <= 100) : Fun T 59 [i64 n, rL rows, .rows 1 []] = some [rL (comM rows)] := by
 rw [Fun_k (t := tm59) rfl]; unfold tm59; unfold comM
 simp (disch := first|assumption|omega) only [S0,rA,rQ,rB,rT,rE]
 rw [loopN rows.length (fun k => [i64 k, rL (comN rows k)]) (.yield 1, [rL (comN rows rows.length)]) rfl (by simp)]
 ·simp (disch := first|assumption|omega) only [S0,rA,rQ,rB,rT,rE]
 ·intro k hk hlt
  have hb : InB rows (k : Int) := InB_nat.2 hk
  have h6 := hs _ (at_mem hk)
  have hln := comN_len hs (m := k) (by omega)
  simp (disch := first|assumption|omega) only [S0,rA,rQ,rB,rT,rE, S_row, hlt]
  rw [loopN (atI rows (k : Int)).length (fun i => [i64 i, rL (comN rows k ++ comRowN (atI rows (k : Int)) k i)]) (.yield 3, [rL (comN rows (k + 1))]) (by show [_, rL (comN rows k)] = _; simp [comRowN, Atom.val]) (by simp)]
  ·simp (disch := first|assumption|omega) only [S0,rA,rQ,rB,rT,rE]
  ·intro i hi hlt2
   have hb2 : InB (atI rows (k : Int)) (i : Int) := InB_nat.2 hi
   have hlc := comRowN_len (atI rows (k : Int)) k i
   have hll : (comN rows k ++ comRowN (atI rows (k : Int)) k i).length <= 10000000000 := by
    rw [List.length_append]; omega
   have e := comRowN_succ (atI rows (k : Int)) k i
   simp (disch := first|assumption|omega) only [S0,rA,rQ,rB,rT,rE, S_row, impl_Table_committed_1, hlt2, e, List.append_assoc]
  ·intro hlt2
   rw [<- comN_succ]
   simp (disch := first|assumption|omega) only [S0,rA,rQ,rB,rT,rE, hlt2]
 ·intro hlt
  simp (disch := first|assumption|omega) only [S0,rA,rQ,rB,rT,rE, hlt]
theorem impl_Table_committed (n : Int) (rows : List (List TRow)) (hs : ∀ l ∈ rows, l.length <= 6) (hl : rows.length <= 100) : Fun T 58 [i64 n, rL rows] = some [rL (comM rows)] := by
 rw [Fun_k (t := tm58) rfl]; unfold tm58
 have h0 : (Prim.mk 1 0).run [] = some [.rows 1 []] := rfl
 simp (disch := first|assumption|omega) only [S0,rA,rQ,rB,rT,rE, h0, each_committed]
theorem spec_l6Find (l : List (List Int)) (x : List Int) (hl : l.length <= 1099511627776) (hx : x.length <= 1099511627776) : Fun T 35 [rL l, rL x] = some [i64 (findM l x)] := by
 rw [Fun_k (t := tm35) rfl]; unfold tm35; unfold findM
 simp (disch := first|assumption|omega) only [S0,rA,rQ,rB,rT,rE]
 rw [findX 1 l (fun y => decide (x = y)) (fun i => [i64 i])]
 ·cases h : l.any (fun y => decide (x = y))
  ·have e : ixF (fun y => decide (x = y)) l = -1 := by
    have h2 := ixF_any (fun y => decide (x = y)) l
    rw [h] at h2
    unfold ixF at h2 ⊢
    split at h2 <;> simp_all
   rw [e]; simp (disch := first|assumption|omega) only [S0,rA,rQ,rB,rT,rE]
  ·simp (disch := first|assumption|omega) only [S0,rA,rQ,rB,rT,rE]
 ·intro i hi hb hlt hp
  simp (disch := first|assumption|omega) only [S0,rA,rQ,rB,rT,rE, S_row, spec_l1Same, hlt, hp]
 ·intro i hi hb hlt hp
  simp (disch := first|assumption|omega) only [S0,rA,rQ,rB,rT,rE, S_row, spec_l1Same, hlt, hp]
 ·intro hlt
  simp (disch := first|assumption|omega) only [S0,rA,rQ,rB,rT,rE, hlt]
theorem impl_hasInstance_1 (y x : List Int) (hx : x.length <= 1099511627776) : Fun T 73 [rL y, rL x] = some [.bool (decide (x = y))] := by
 rw [Fun_k (t := tm73) rfl]; unfold tm73
 simp (disch := first|assumption|omega) only [S0,rA,rQ,rB,rT,rE, slices_Equal_int]
theorem ix_hasInstance_1 (x : List Int) (hx2 : x.length <= 1099511627776) (xs : List (List Int)) (hx : xs.length <= 1099511627776) : Fun T 72 [rL xs, rL x] = some [i64 (ixF (fun y => decide (x = y)) xs)] := by
 rw [Fun_k (t := tm72) rfl]; unfold tm72
 simp (disch := first|assumption|omega) only [S0,rA,rQ,rB,rT,rE, S_row, *]
 rw [findX 1 xs (fun y => decide (x = y)) (fun i => [i64 i])]
 ·cases h : xs.any (fun y => decide (x = y))
  ·have e : ixF (fun y => decide (x = y)) xs = -1 := by
    have h2 := ixF_any (fun y => decide (x = y)) xs
    rw [h] at h2
    unfold ixF at h2 ⊢
    split at h2 <;> simp_all
   rw [e]; simp (disch := first|assumption|omega) only [S0,rA,rQ,rB,rT,rE]
  ·simp (disch := first|assumption|omega) only [S0,rA,rQ,rB,rT,rE]
 ·intro i hi hb hl hp
  (refine fork_in ?_; repeat' (refine fork_eq ?_ ?_<;>intro _<;>try simp (disch := first|assumption|omega) only [S0,rA,rQ,rB,rT,rE,S_row,impl_hasInstance_1, *]))
 ·intro i hi hb hl hp
  (refine fork_in ?_; repeat' (refine fork_eq ?_ ?_<;>intro _<;>try simp (disch := first|assumption|omega) only [S0,rA,rQ,rB,rT,rE,S_row,impl_hasInstance_1, *]))
 ·intro hl
  (refine fork_in ?_; repeat' (refine fork_eq ?_ ?_<;>intro _<;>try simp (disch := first|assumption|omega) only [S0,rA,rQ,rB,rT,rE, *]))
theorem ct_hasInstance_1 (x : List Int) (hx2 : x.length <= 1099511627776) (xs : List (List Int)) (hx : xs.length <= 1099511627776) : Fun T 71 [rL xs, rL x] = some [.bool (xs.any (fun y => decide (x = y)))] := by
 rw [Fun_k (t := tm71) rfl]; unfold tm71
 (refine fork_in ?_; repeat' (refine fork_eq ?_ ?_<;>intro _<;>try simp (disch := first|assumption|omega) only [S0,rA,rQ,rB,rT,rE,ix_hasInstance_1,ixF_any, *]))
theorem impl_hasInstance (l : List (List Int)) (x : List Int) (hl : l.length <= 1099511627776) (hx : x.length <= 1099511627776) : Fun T 70 [rL l, rL x] = some [.bool (l.any fun y => decide (x = y))] := by
 rw [Fun_k (t := tm70) rfl]; unfold tm70
 simp (disch := first|assumption|omega) only [S0,rA,rQ,rB,rT,rE, ct_hasInstance_1]
theorem spec_l6Deps (n : Int) (rows : List (List TRow)) (rep no : Int) (ht : tabOk ⟨n, rows⟩ = true) (hi : inst n rep no = true) (hs : smTab rows) : Fun T 30 [i64 n, rL rows, i64 rep, i64 no] = some [rL (depM ⟨n, rows⟩ rep no)] := by
 rw [Fun_k (t := tm30) rfl]; unfold tm30; unfold depM
 have hg : isGrp n = true := tabOk_grp ht
 have hn := isGrp_rng hg
 have hb : InB rows rep := tabOk_in ht hi
 have hr := inst_rng hi
 have hd := trow_deps ht hi
 have h6 := rowOk_dep6 (trow_ok ht hi) hg
 simp only at hd
 simp (disch := first|assumption|omega) only [S0,rA,rQ,rB,rT,rE, spec_l4At]
 generalize (trow ⟨n, rows⟩ rep no).attr.deps = deps at hd h6 ⊢
 have hdl : deps.length <= 5 := by omega
 rw [loopN deps.length (fun k => [rL (depN deps rep no k), i64 k]) (.yield 1, [rL (depN deps rep no deps.length)]) rfl (by simp)]
 ·simp (disch := first|assumption|omega) only [S0,rA,rQ,rB,rT,rE]
 ·intro k hk hlt
  have hbk : InB deps (k : Int) := InB_nat.2 hk
  have hq := h6 _ (at_mem hk)
  have hln := depN_len (deps := deps) (rep := rep) (no := no) (fun d hd => (h6 d hd).2) (m := k) (by omega)
  simp (disch := first|assumption|omega) only [S0,rA,rQ,rB,rT,rE, S_row, hlt]
  rw [loopN (atI deps (k : Int)).toNat (fun i => [rL (depN deps rep no k ++ depRow k rep no i), i64 ((i : Int) + 1)]) (.yield 3, [rL (depN deps rep no (k + 1))]) (by show [rL (depN deps rep no k), _] = _; simp [depRow, Atom.val]) (by simp)]
  ·simp (disch := first|assumption|omega) only [S0,rA,rQ,rB,rT,rE]
  ·intro i hi2 hlt2
   have hlc := depRow_len (k : Int) rep no i
   have hll : (depN deps rep no k ++ depRow (k : Int) rep no i).length + ([[(k : Int), (i : Int) + 1]] : List (List Int)).length <= 100000000000 := by
    rw [List.length_append]; simp only [List.length_cons, List.length_nil]; omega
   have hle : decide ((i : Int) + 1 <= atI deps (k : Int)) = true := by simp; omega
   have e := depRow_succ (k : Int) rep no i
   cases h1 : (k : Int) == rep
   ·rw [h1] at e
    simp only [Bool.not_false, Bool.true_or, if_true] at e
    simp (disch := first|assumption|omega) only [S0,rA,rQ,rB,rT,rE, S_mk, S_app, hle, h1, e, <- List.append_assoc]
   ·cases h2 : (i : Int) + 1 == no
    ·rw [h1, h2] at e
     simp only [Bool.not_false, Bool.not_true, Bool.or_true, if_true] at e
     simp (disch := first|assumption|omega) only [S0,rA,rQ,rB,rT,rE, S_mk, S_app, hle, h1, h2, e, <- List.append_assoc]
    ·rw [h1, h2] at e
     simp only [Bool.not_true, Bool.or_false, Bool.false_eq_true, if_false, List.append_nil] at e
     simp (disch := first|assumption|omega) only [S0,rA,rQ,rB,rT,rE, S_mk, S_app, hle, h1, h2, e]
  ·intro hlt2
   have hle : decide ((((atI deps (k : Int)).toNat : Nat) : Int) + 1 <= atI deps (k : Int)) = false := by simp; omega
   rw [<- depN_succ]
   simp (disch := first|assumption|omega) only [S0,rA,rQ,rB,rT,rE, hle]
 ·intro hlt
  simp (disch := first|assumption|omega) only [S0,rA,rQ,rB,rT,rE, hlt]
theorem spec_l6Insert (l : List (List Int)) (x : List Int) (hl : l.length <= 1000) (h2 : ∀ y ∈ l, y.length = 2) (hx : x.length = 2) : Fun T 36 [rL l, rL x] = some [rL (insL l x)] := by
 rw [Fun_k (t := tm36) rfl]; unfold tm36
 have x0 : InB x 0 := by unfold InB; omega
 have x1 : InB x 1 := by unfold InB; omega
 have hk := insK_le l x l.length
 have hkl : ((insK l x l.length : Nat) : Int) <= l.length := by omega
 simp (disch := first|assumption|omega) only [S0,rA,rQ,rB,rT,rE]
 rw [whileE (γ := Nat) (.yield 1, [i64 ((insK l x l.length : Nat) : Int)]) (fun k => k) (fun k => k <= l.length /\ insK l x k = insK l x l.length) (fun k => [i64 (k : Int)]) l.length rfl ⟨Nat.le_refl _, rfl⟩ (by simp)]
 ·have e0 : (l.take (insK l x l.length)).drop 0 = l.take (insK l x l.length) := rfl
  have e1 : (l.take l.length).drop (insK l x l.length) = l.drop (insK l x l.length) := by rw [List.take_length]
  have t1 : (l.take (insK l x l.length)).length <= 1000 := by rw [List.length_take]; omega
  have t2 : (l.drop (insK l x l.length)).length <= 1000 := by rw [List.length_drop]; omega
  have t3 : ((l.take (insK l x l.length)) ++ [x]).length <= 1001 := by rw [List.length_append]; simp only [List.length_cons, List.length_nil]; omega
  have a1 : ([] : List (List Int)).length + (l.drop (insK l x l.length)).length <= 100000000000 := by simp only [List.length_nil]; omega
  have a2 : ([] : List (List Int)).length + (l.take (insK l x l.length)).length <= 100000000000 := by simp only [List.length_nil]; omega
  have a3 : (l.take (insK l x l.length)).length + ([x] : List (List Int)).length <= 100000000000 := by simp only [List.length_cons, List.length_nil]; omega
  have a4 : ((l.take (insK l x l.length)) ++ [x]).length + (l.drop (insK l x l.length)).length <= 100000000000 := by omega
  have h0 : (Prim.mk 1 0).run [] = some [rL ([] : List (List Int))] := rfl
  have b1 : (0 : Int) <= ((insK l x l.length : Nat) : Int) := by omega
  unfold insL
  simp (disch := first|assumption|omega) only [S0,rA,rQ,rB,rT,rE, S_mk, S_app, S_sub, h0, e0, e1, Int.toNat_natCast, Int.toNat_zero, List.nil_append]
 ·intro k ⟨hkle, hki⟩
  cases k with
  | zero =>
   refine .inr ?_
   have e : insK l x l.length = 0 := by rw [<- hki]; rfl
   have hd0 : decide ((0 : Int) < ((0 : Nat) : Int)) = false := by decide
   rw [e]
   simp (disch := first|assumption|omega) only [S0,rA,rQ,rB,rT,rE, S_row, hd0]
  | succ k =>
   have hb : InB l (k : Int) := InB_nat.2 (by omega)
   have hy := h2 _ (at_mem (show k < l.length by omega))
   have y0 : InB (atI l (k : Int)) 0 := by unfold InB; omega
   have y1 : InB (atI l (k : Int)) 1 := by unfold InB; omega
   have hgt : decide (0 < (k : Int) + 1) = true := decide_eq_true (by omega)
   have hsub : (Prim.bin .sub).run [i64 ((k : Int) + 1), i64 1] = some [i64 (k : Int)] := by
    have h := run_sub (a := (k : Int) + 1) (b := 1) (by omega) (by omega)
    rw [show (k : Int) + 1 - 1 = k by omega] at h
    exact h
   cases hg : gtL (atI l (k : Int)) x
   ·refine .inr ?_
    have e : insK l x l.length = k + 1 := by rw [<- hki]; unfold insK; rw [hg]; simp
    rw [e]
    have hg2 := hg
    unfold gtL at hg2
    cases c1 : decide (atI x 0 < atI (atI l (k : Int)) 0) <;> cases c2 : (atI (atI l (k : Int)) 0 == atI x 0) <;> cases c3 : decide (atI x 1 < atI (atI l (k : Int)) 1) <;> rw [c1, c2, c3] at hg2 <;> first | (cases hg2; done) | skip
    all_goals simp (disch := first|assumption|omega) only [S0,rA,rQ,rB,rT,rE, S_row, hgt, hsub, c1, c2, c3]
   ·refine .inl ⟨k, ?_, ⟨by omega, by rw [<- hki]; conv => rhs; unfold insK; rw [hg]; simp⟩, by omega⟩
    have hg2 := hg
    unfold gtL at hg2
    cases c1 : decide (atI x 0 < atI (atI l (k : Int)) 0) <;> cases c2 : (atI (atI l (k : Int)) 0 == atI x 0) <;> cases c3 : decide (atI x 1 < atI (atI l (k : Int)) 1) <;> rw [c1, c2, c3] at hg2 <;> first | (cases hg2; done) | skip
    all_goals simp (disch := first|assumption|omega) only [S0,rA,rQ,rB,rT,rE, S_row, hgt, hsub, c1, c2, c3]
theorem impl_hung (q : Int) (deps : List Int) (hl : deps.length <= 5) (h6 : ∀ d ∈ deps, 0 <= d /\ d <= 6) : Fun T 69 [i64 q, rL deps] = some [rL (hungN deps deps.length)] := by
 rw [Fun_k (t := tm69) rfl]; unfold tm69
 have h0 : (Prim.mk 1 0).run [] = some [rL ([] : List (List Int))] := rfl
 simp (disch := first|assumption|omega) only [S0,rA,rQ,rB,rT,rE, h0]
 rw [loopN deps.length (fun k => [rL (hungN deps k), i64 k]) (.yield 1, [rL (hungN deps deps.length)]) rfl (by simp)]
 ·simp (disch := first|assumption|omega) only [S0,rA,rQ,rB,rT,rE]
 ·intro k hk hlt
  have hbk : InB deps (k : Int) := InB_nat.2 hk
  have hq := h6 _ (at_mem hk)
  have hln := hungN_len (deps := deps) (fun d hd => (h6 d hd).2) (m := k) (by omega)
  simp (disch := first|assumption|omega) only [S0,rA,rQ,rB,rT,rE, S_row, hlt]
  rw [loopN (atI deps (k : Int)).toNat (fun i => [rL (hungN deps k ++ hungRow k i), i64 ((i : Int) + 1)]) (.yield 3, [rL (hungN deps (k + 1))]) (by show [rL (hungN deps k), _] = _; simp [hungRow, Atom.val]) (by simp)]
  ·simp (disch := first|assumption|omega) only [S0,rA,rQ,rB,rT,rE]
  ·intro i hi2 hlt2
   have hlc := hungRow_len (k : Int) i
   have hll : (hungN deps k ++ hungRow (k : Int) i).length + ([[(k : Int), (i : Int) + 1]] : List (List Int)).length <= 100000000000 := by
    rw [List.length_append]; simp only [List.length_cons, List.length_nil]; omega
   have hle : decide ((i : Int) + 1 <= atI deps (k : Int)) = true := by simp; omega
   have e := hungRow_succ (k : Int) i
   simp (disch := first|assumption|omega) only [S0,rA,rQ,rB,rT,rE, S_mk, S_app, hle, e, <- List.append_assoc]
  ·intro hlt2
   have hle : decide ((((atI deps (k : Int)).toNat : Nat) : Int) + 1 <= atI deps (k : Int)) = false := by simp; omega
   rw [hungN_succ]
   simp (disch := first|assumption|omega) only [S0,rA,rQ,rB,rT,rE, hle]
 ·intro hlt
  simp (disch := first|assumption|omega) only [S0,rA,rQ,rB,rT,rE, hlt]
theorem spec_l6Blockers (n : Int) (rows : List (List TRow)) (rep no : Int) (ht : tabOk ⟨n, rows⟩ = true) (hi : inst n rep no = true) (hc : comL ⟨n, rows⟩ [rep, no] = true) (hs : smTab rows) : Fun T 29 [i64 n, rL rows, i64 rep, i64 no] = some [rL (blockM ⟨n, rows⟩ [rep, no])] := by
 rw [Fun_k (t := tm29) rfl]; unfold tm29
 have hx : IsInst n [rep, no] := ⟨rfl, hi⟩
 simp (disch := first|assumption|omega) only [S0,rA,rQ,rB,rT,rE, S_mk]
 generalize hE : Er T (Tm.loop _ _) _ = E
 obtain ⟨r, h1, s, h2, h3⟩ : ∃ r, E = some r /\ ∃ s, SInv ⟨n, rows⟩ [rep, no] s.met.length s /\ r = (.yield 1, [rL s.out]) := by
  rw [<- hE]
  refine loopEx (γ := Nat × SSt) (fun c => 31 - c.1) (fun c => SInv ⟨n, rows⟩ [rep, no] c.1 c.2) (fun c => [rL c.2.met, rL c.2.out, i64 (c.1 : Int)]) (fun r => ∃ s, SInv ⟨n, rows⟩ [rep, no] s.met.length s /\ r = (.yield 1, [rL s.out])) (0, ⟨[[rep, no]], []⟩) ?_ (SInv.start hc) ?_
  ·rfl
  rintro ⟨i, s⟩ hinv
  dsimp only at hinv ⊢
  have hlen := hinv.toSPre.len ht hx
  rcases Nat.lt_or_ge i s.met.length with hlt | hge
  ·refine .inl ⟨(i + 1, spcO ⟨n, rows⟩ s i), ?_, hinv.step ht hx hlt, by dsimp only; omega⟩
   dsimp only
   have hb : InB s.met (i : Int) := InB_nat.2 hlt
   have hd : decide ((i : Int) < s.met.length) = true := by simp; omega
   obtain ⟨hzr, hzc⟩ := hinv.rch _ (at_mem hlt)
   obtain ⟨hz2, hzi⟩ := hzr.inst ht hx
   have z0 : InB (atI s.met (i : Int)) 0 := by unfold InB; omega
   have z1 : InB (atI s.met (i : Int)) 1 := by unfold InB; omega
   have hys : ∀ y ∈ depM ⟨n, rows⟩ (atI (atI s.met (i : Int)) 0) (atI (atI s.met (i : Int)) 1), Hits ⟨n, rows⟩ [rep, no] y := fun y hy => .step hzr hzc ((depM_hung hz2).1 hy).1
   have hyl : (depM ⟨n, rows⟩ (atI (atI s.met (i : Int)) 0) (atI (atI s.met (i : Int)) 1)).length <= 30 := by
    have hd6 := rowOk_dep6 (trow_ok ht hzi) (tabOk_grp ht)
    have hdl := trow_deps ht hzi
    have hn := isGrp_rng (tabOk_grp ht)
    simp only at hdl hn
    have := depN_len (rep := atI (atI s.met (i : Int)) 0) (no := atI (atI s.met (i : Int)) 1) (fun d hd => (hd6 d hd).2) (Nat.le_refl _)
    unfold depM
    omega
   simp (disch := first|assumption|omega) only [S0,rA,rQ,rB,rT,rE, S_row, spec_l6Deps, hd]
   unfold spcO
   generalize depM ⟨n, rows⟩ (atI (atI s.met (i : Int)) 0) (atI (atI s.met (i : Int)) 1) = ys at hys hyl ⊢
   rw [(foldS 3 ys (fun i (s : SSt) => [rL s.met, rL s.out, rL ys, i64 i]) s (spcI ⟨n, rows⟩) (fun _ s => SPre ⟨n, rows⟩ [rep, no] s) (fun s => [rL s.met, rL s.out]) rfl hinv.toSPre ?_ ?_).1]
   ·simp (disch := first|assumption|omega) only [S0,rA,rQ,rB,rT,rE]
   ·intro j u hj hbj hlt2 hu
    have hul := hu.len ht hx
    have hyr := hys _ (at_mem hj)
    obtain ⟨hy2, hyi⟩ := hyr.inst ht hx
    obtain ⟨k2, -⟩ := spcI_spec ht hx hu hyr
    refine ⟨?_, k2⟩
    have y0 : InB (atI ys (j : Int)) 0 := by unfold InB; omega
    have y1 : InB (atI ys (j : Int)) 1 := by unfold InB; omega
    have hg : isGrp n = true := tabOk_grp ht
    have yb : InB rows (atI (atI ys (j : Int)) 0) := tabOk_in ht hyi
    have yr := inst_rng hyi
    have ho2 : ∀ y ∈ u.out, y.length = 2 := fun y hy => ((hu.och y hy).1.inst ht hx).1
    have e1 : u.met.any (fun z => decide (atI ys (j : Int) = z)) = decide (0 <= findM u.met (atI ys (j : Int))) := (ixF_any _ _).symm
    have e2 : u.out.any (fun z => decide (atI ys (j : Int) = z)) = decide (0 <= findM u.out (atI ys (j : Int))) := (ixF_any _ _).symm
    have a1 : u.met.length + ([atI ys (j : Int)] : List (List Int)).length <= 100000000000 := by simp only [List.length_cons, List.length_nil]; omega
    have b1 : u.met.length <= 1099511627776 := by omega
    have b2 : u.out.length <= 1099511627776 := by omega
    have b3 : (atI ys (j : Int)).length <= 1099511627776 := by omega
    have b4 : u.out.length <= 1000 := by omega
    have hcd : ((trow ⟨n, rows⟩ (atI (atI ys (j : Int)) 0) (atI (atI ys (j : Int)) 1)).state == 3) = comL ⟨n, rows⟩ (atI ys (j : Int)) := rfl
    unfold spcI
    rw [e1, e2]
    cases c1 : decide (0 <= findM u.met (atI ys (j : Int)))
    ·cases c2 : decide (0 <= findM u.out (atI ys (j : Int)))
     ·cases c3 : comL ⟨n, rows⟩ (atI ys (j : Int))
      ·simp (disch := first|assumption|omega) only [S0,rA,rQ,rB,rT,rE, S_row, S_mk, S_app, spec_l6Find, spec_l4At, spec_l6Insert, hlt2, c1, c2, hcd, c3, Bool.or_false, Bool.false_eq_true]
      ·simp (disch := first|assumption|omega) only [S0,rA,rQ,rB,rT,rE, S_row, S_mk, S_app, spec_l6Find, spec_l4At, spec_l6Insert, hlt2, c1, c2, hcd, c3, Bool.or_false, Bool.false_eq_true]
     ·simp (disch := first|assumption|omega) only [S0,rA,rQ,rB,rT,rE, S_row, spec_l6Find, hlt2, c1, c2, Bool.or_true]
    ·simp (disch := first|assumption|omega) only [S0,rA,rQ,rB,rT,rE, S_row, spec_l6Find, hlt2, c1, Bool.true_or]
   ·intro u hlt2 hu
    simp (disch := first|assumption|omega) only [S0,rA,rQ,rB,rT,rE, hlt2]
  ·obtain rfl : i = s.met.length := by have := hinv.le; omega
   have hd : decide (((s.met.length : Nat) : Int) < s.met.length) = false := by simp
   exact .inr ⟨(.yield 1, [rL s.out]), by simp (disch := first|assumption|omega) only [S0,rA,rQ,rB,rT,rE, hd], by simp, s, hinv, rfl⟩
 subst h3
 rw [h1, <- h2.done ht hx]
 simp (disch := first|assumption|omega) only [S0,rA,rQ,rB,rT,rE]
theorem sort_blockers (l : List (List Int)) (h2 : ∀ y ∈ l, y.length = 2) (hl : l.length <= 1000000) : Fun T 74 [rL l] = some [rL ((sortQ id (l.map prL)).map toL)] := by
 rw [Fun_ext (e := sortPE) rfl]
 exact S_sortP h2 hl
theorem impl_Table_blockers (n : Int) (rows : List (List TRow)) (x : List Int) (ht : tabOk ⟨n, rows⟩ = true) (hx : IsInst n x) (hc : comL ⟨n, rows⟩ x = true) (hs : smTab rows) : Fun T 64 [i64 n, rL rows, rL x] = some [rL (blockM ⟨n, rows⟩ x)] := by
 rw [Fun_k (t := tm64) rfl]; unfold tm64
 have h0 : (Prim.mk 1 0).run [] = some [rL ([] : List (List Int))] := rfl
 simp (disch := first|assumption|omega) only [S0,rA,rQ,rB,rT,rE, S_mk, h0]
 generalize hE : Er T (Tm.loop _ _) _ = E
 obtain ⟨r, h1, s, h2, h3, h4⟩ : ∃ r, E = some r /\ ∃ s, BInv ⟨n, rows⟩ x s /\ s.wait = [] /\ r = (.yield 1, [rL s.out]) := by
  rw [<- hE]
  refine loopEx (γ := BSt) (fun s => 31 + s.wait.length - s.met.length) (fun s => BInv ⟨n, rows⟩ x s /\ s.wait.length <= s.met.length) (fun s => [rL s.met, rL s.out, rL s.wait]) (fun r => ∃ s, BInv ⟨n, rows⟩ x s /\ s.wait = [] /\ r = (.yield 1, [rL s.out])) ⟨[x], [], [x]⟩ ?_ ⟨BInv.start hc, by simp⟩ ?_
  ·rfl
  rintro s ⟨hinv, hwl⟩
  have hlen := hinv.toBPre.len ht hx
  by_cases hw : s.wait = []
  ·have hd : decide ((0 : Int) < (s.wait.length : Nat)) = false := by rw [hw]; rfl
   exact .inr ⟨(.yield 1, [rL s.out]), by simp (disch := first|assumption|omega) only [S0,rA,rQ,rB,rT,rE, hd], by simp, s, hinv, hw, rfl⟩
  ·have hpos : 0 < s.wait.length := List.length_pos_iff.2 hw
   obtain ⟨hst, hms⟩ := hinv.step hw
   have hlen2 := hst.toBPre.len ht hx
   refine .inl ⟨blkO ⟨n, rows⟩ s, ?_, ⟨hst, by omega⟩, by omega⟩
   have hd : decide ((0 : Int) < (s.wait.length : Nat)) = true := decide_eq_true (by omega)
   have hb : InB s.wait 0 := by unfold InB; omega
   have hzw : atI s.wait 0 ∈ s.wait := at_memI hb
   obtain ⟨hzm, hzc⟩ := hinv.wm _ hzw
   have hzr := hinv.rch _ hzm
   obtain ⟨hz2, hzi⟩ := hzr.inst ht hx
   have hzi' : inst n (atI (atI s.wait 0) 0) (atI (atI s.wait 0) 1) = true := hzi
   have z0 : InB (atI s.wait 0) 0 := by unfold InB; omega
   have z1 : InB (atI s.wait 0) 1 := by unfold InB; omega
   have hg : isGrp n = true := tabOk_grp ht
   have zr := inst_rng hzi'
   have zb : InB rows (atI (atI s.wait 0) 0) := tabOk_in ht hzi
   have hys : ∀ y ∈ hungM ⟨n, rows⟩ (atI s.wait 0), Hits ⟨n, rows⟩ x y := fun y hy => .step hzr hzc hy
   have hyl := hungM_len ht (hzr.inst ht hx)
   have hd6 := rowOk_dep6 (trow_ok ht hzi) hg
   have hdl := trow_deps ht hzi
   have hn := isGrp_rng hg
   simp only at hdl hd6
   have hdl5 : (trow ⟨n, rows⟩ (atI (atI s.wait 0) 0) (atI (atI s.wait 0) 1)).attr.deps.length <= 5 := by omega
   simp (disch := first|assumption|omega) only [S0,rA,rQ,rB,rT,rE, S_row, impl_Table_row, impl_hung, hd]
   unfold blkO
   change _ = some (Kind.cont, _)
   have eh : hungN (trow ⟨n, rows⟩ (atI (atI s.wait 0) 0) (atI (atI s.wait 0) 1)).attr.deps (trow ⟨n, rows⟩ (atI (atI s.wait 0) 0) (atI (atI s.wait 0) 1)).attr.deps.length = hungM ⟨n, rows⟩ (atI s.wait 0) := rfl
   rw [eh]
   have hfin := blkF_spec (ys := hungM ⟨n, rows⟩ (atI s.wait 0)) hinv.toBPre hys
   generalize hungM ⟨n, rows⟩ (atI s.wait 0) = ys at hys hyl hfin ⊢
   simp (disch := first|assumption|omega) only [S0,rA,rQ,rB,rT,rE]
   rw [(foldS 3 ys (fun i (s : BSt) => [rL s.met, rL s.out, rL s.wait, rL ys, i64 i]) s (blkI ⟨n, rows⟩) (fun _ u => BPre ⟨n, rows⟩ x u /\ u.wait.length <= u.met.length) (fun s => [rL s.met, rL s.out, rL s.wait]) rfl ⟨hinv.toBPre, hwl⟩ ?_ ?_).1]
   ·obtain ⟨f1, -, -, ⟨w', f4⟩, -⟩ := hfin
    generalize ys.foldl (blkI ⟨n, rows⟩) s = u at f1 f4 ⊢
    have e1 : (u.wait.take u.wait.length).drop 1 = u.wait.drop 1 := by rw [List.take_length]
    have hp : 1 <= u.wait.length := by rw [f4, List.length_append]; omega
    have hp2 : (1 : Int) <= (u.wait.length : Nat) := by omega
    simp (disch := first|assumption|omega) only [S0,rA,rQ,rB,rT,rE, S_sub, e1, Int.toNat_natCast, Int.toNat_one]
   ·rintro j u hj hbj hlt2 ⟨hu, huw⟩
    have hul := hu.len ht hx
    have hyr := hys _ (at_mem hj)
    obtain ⟨hy2, hyi⟩ := hyr.inst ht hx
    obtain ⟨k2, -, -, -, -, k6⟩ := blkI_spec hu hyr
    refine ⟨?_, k2, by omega⟩
    have y0 : InB (atI ys (j : Int)) 0 := by unfold InB; omega
    have y1 : InB (atI ys (j : Int)) 1 := by unfold InB; omega
    have yb : InB rows (atI (atI ys (j : Int)) 0) := tabOk_in ht hyi
    have yr := inst_rng hyi
    have a1 : u.met.length + ([atI ys (j : Int)] : List (List Int)).length <= 100000000000 := by simp only [List.length_cons, List.length_nil]; omega
    have a2 : u.out.length + ([atI ys (j : Int)] : List (List Int)).length <= 100000000000 := by simp only [List.length_cons, List.length_nil]; omega
    have a3 : u.wait.length + ([atI ys (j : Int)] : List (List Int)).length <= 100000000000 := by simp only [List.length_cons, List.length_nil]; omega
    have b1 : u.met.length <= 1099511627776 := by omega
    have b3 : (atI ys (j : Int)).length <= 1099511627776 := by omega
    have hcd : ((trow ⟨n, rows⟩ (atI (atI ys (j : Int)) 0) (atI (atI ys (j : Int)) 1)).state == 3) = comL ⟨n, rows⟩ (atI ys (j : Int)) := rfl
    unfold blkI
    cases c1 : u.met.any (fun z => decide (atI ys (j : Int) = z))
    ·cases c3 : comL ⟨n, rows⟩ (atI ys (j : Int))
     ·simp (disch := first|assumption|omega) only [S0,rA,rQ,rB,rT,rE, S_row, S_mk, S_app, impl_hasInstance, impl_Table_row, hlt2, c1, hcd, c3, Bool.false_eq_true]
     ·simp (disch := first|assumption|omega) only [S0,rA,rQ,rB,rT,rE, S_row, S_mk, S_app, impl_hasInstance, impl_Table_row, hlt2, c1, hcd, c3, Bool.false_eq_true]
    ·simp (disch := first|assumption|omega) only [S0,rA,rQ,rB,rT,rE, S_row, impl_hasInstance, hlt2, c1]
   ·intro u hlt2 hu
    simp (disch := first|assumption|omega) only [S0,rA,rQ,rB,rT,rE, hlt2]
 subst h4
 have hol := h2.toBPre.len ht hx
 have ho2 : ∀ y ∈ s.out, y.length = 2 := fun y hy => ((h2.rch y ((h2.out y).1 hy).1).inst ht hx).1
 have hol2 : s.out.length <= 1000000 := by omega
 rw [h1, <- h2.done ht hx h3]
 simp (disch := first|assumption|omega) only [S0,rA,rQ,rB,rT,rE, sort_blockers]
theorem impl_ready_1 (x : List Int) (n : Int) (rows : List (List TRow)) (ht : tabOk ⟨n, rows⟩ = true) (hs : smTab rows) (hx : IsInst n x) (hc : comL ⟨n, rows⟩ x = true) : Fun T 63 [rL x, i64 n, rL rows] = some [.bool (blkB ⟨n, rows⟩ x)] := by
 rw [Fun_k (t := tm63) rfl]; unfold tm63
 simp (disch := first|assumption|omega) only [S0,rA,rQ,rB,rT,rE, impl_Table_blockers]
 rfl
theorem ix_ready_1 (l : List (List Int)) (n : Int) (rows : List (List TRow)) (ht : tabOk ⟨n, rows⟩ = true) (hs : smTab rows) (hl : l.length <= 1000) (hx : ∀ x ∈ l, IsInst n x /\ comL ⟨n, rows⟩ x = true) : Fun T 62 [rL l, i64 n, rL rows] = some [i64 (ixF (blkB ⟨n, rows⟩) l)] := by
 rw [Fun_k (t := tm62) rfl]; unfold tm62
 simp (disch := first|assumption|omega) only [S0,rA,rQ,rB,rT,rE]
 rw [findX 1 l (blkB ⟨n, rows⟩) (fun i => [i64 i])]
 ·cases h : l.any (blkB ⟨n, rows⟩)
  ·have e : ixF (blkB ⟨n, rows⟩) l = -1 := by
    have h2 := ixF_any (blkB ⟨n, rows⟩) l
    rw [h] at h2
    unfold ixF at h2 ⊢
    split at h2 <;> simp_all
   rw [e]; simp (disch := first|assumption|omega) only [S0,rA,rQ,rB,rT,rE]
  ·simp (disch := first|assumption|omega) only [S0,rA,rQ,rB,rT,rE]
 ·intro i hi hb hlt hp
  obtain ⟨q1, q2⟩ := hx _ (at_mem hi)
  simp (disch := first|assumption|omega) only [S0,rA,rQ,rB,rT,rE, S_row, impl_ready_1, hlt, hp]
 ·intro i hi hb hlt hp
  obtain ⟨q1, q2⟩ := hx _ (at_mem hi)
  simp (disch := first|assumption|omega) only [S0,rA,rQ,rB,rT,rE, S_row, impl_ready_1, hlt, hp]
 ·intro hlt
  simp (disch := first|assumption|omega) only [S0,rA,rQ,rB,rT,rE, hlt]
theorem del_ready_1 (l : List (List Int)) (n : Int) (rows : List (List TRow)) (ht : tabOk ⟨n, rows⟩ = true) (hs : smTab rows) (hl : l.length <= 1000) (hx : ∀ x ∈ l, IsInst n x /\ comL ⟨n, rows⟩ x = true) : Fun T 61 [rL l, i64 n, rL rows] = some [rL (l.filter fun x => !blkB ⟨n, rows⟩ x)] := by
 rw [Fun_k (t := tm61) rfl]; unfold tm61
 simp (disch := first|assumption|omega) only [S0,rA,rQ,rB,rT,rE, ix_ready_1]
 by_cases h : 0 <= ixF (blkB ⟨n, rows⟩) l
 rotate_left
 ·have e : ixF (blkB ⟨n, rows⟩) l = -1 := by
   unfold ixF at h ⊢
   split
   ·rename_i i hi; rw [hi] at h; simp at h
   ·rfl
  have e2 : l.filter (fun x => !blkB ⟨n, rows⟩ x) = l := by
   rw [List.filter_eq_self]
   intro x hxm
   cases hb : blkB ⟨n, rows⟩ x with
   | false => rfl
   | true =>
    obtain ⟨k, hk, rfl⟩ := List.mem_iff_getElem.1 hxm
    exact absurd (ixF_ge hk (by rw [atI_get hk]; exact hb)) h
  rw [e, e2]
  simp (disch := first|assumption|omega) only [S0,rA,rQ,rB,rT,rE]
 ·obtain ⟨h1, h2, h3⟩ := ixF_spec h
  generalize hI : ixF (blkB ⟨n, rows⟩) l = I at h h1 h2 h3 ⊢
  obtain ⟨i, rfl⟩ : ∃ i : Nat, I = (i : Int) := ⟨I.toNat, by omega⟩
  have hil : i < l.length := InB_nat.1 h1
  have hne : ((i : Int) == -1) = false := by simp
  have hkeep : (l.take (i + 1)).filter (fun x => !blkB ⟨n, rows⟩ x) = l.take i := by
   rw [<- take_at hil, List.filter_append, List.filter_cons_of_neg (by rw [h2]; simp), List.filter_nil, List.append_nil, List.filter_eq_self]
   intro x hxm
   obtain ⟨k, hk, rfl⟩ := List.mem_iff_getElem.1 hxm
   rw [List.length_take] at hk
   have h4 := h3 k (by omega)
   rw [atI_get (by omega)] at h4
   rw [List.getElem_take, h4]
   rfl
  simp (disch := first|assumption|omega) only [S0,rA,rQ,rB,rT,rE, hne]
  generalize hE : Er T (Tm.loop _ _) _ = E
  obtain ⟨r, e1, kept, J, e2, e3, e4⟩ : ∃ r, E = some r /\ ∃ (kept : List (List Int)) (J : List (List D)), kept = l.filter (fun x => !blkB ⟨n, rows⟩ x) /\ kept.length + J.length = l.length /\ r = (.yield 1, [delD kept J [], i64 ((kept.length : Nat) : Int)]) := by
   rw [<- hE]
   refine loopEx (γ := Nat × List (List D)) (fun c => l.length - c.1) (fun c => i < c.1 /\ c.1 <= l.length /\ ((l.take c.1).filter fun x => !blkB ⟨n, rows⟩ x).length + c.2.length = c.1 /\ 0 < c.2.length /\ ∀ r ∈ c.2, r.length = 1)
    (fun c => [delD ((l.take c.1).filter fun x => !blkB ⟨n, rows⟩ x) c.2 (l.drop c.1), i64 ((((l.take c.1).filter fun x => !blkB ⟨n, rows⟩ x).length : Nat) : Int), i64 (c.1 : Int)])
    (fun r => ∃ (kept : List (List Int)) (J : List (List D)), kept = l.filter (fun x => !blkB ⟨n, rows⟩ x) /\ kept.length + J.length = l.length /\ r = (.yield 1, [delD kept J [], i64 ((kept.length : Nat) : Int)])) (i + 1, [Enc.enc (atI l (i : Int))]) ?_ ?_ ?_
   ·dsimp only
    have e : rL l = delD (l.take i) [Enc.enc (atI l (i : Int))] (l.drop (i + 1)) := by
     rw [delD_rL l (i := i) (by omega), List.drop_eq_getElem_cons hil, delD_more, atI_get hil]
     rfl
    rw [hkeep, <- e]
    have hti : ((l.take i).length : Int) = (i : Int) := by rw [List.length_take]; omega
    rw [hti]
    rfl
   ·dsimp only
    rw [hkeep, List.length_take]
    refine ⟨by omega, by omega, by simp only [List.length_cons, List.length_nil]; omega, by simp, ?_⟩
    intro r hr
    rw [List.mem_singleton] at hr
    rw [hr]
    rfl
   ·rintro ⟨j, J⟩ ⟨k1, k2, k3, k4, k5⟩
    dsimp only at k1 k2 k3 k4 k5 ⊢
    rcases Nat.lt_or_ge j l.length with hlt | hge
    ·refine .inl ?_
     have hjm := hx _ (at_mem hlt)
     have hjm1 := hjm.1
     have hjm2 := hjm.2
     have ht1 : (l.take (j + 1)) = l.take j ++ [atI l (j : Int)] := (take_at hlt).symm
     have hd1 : l.drop j = atI l (j : Int) :: l.drop (j + 1) := by rw [List.drop_eq_getElem_cons hlt, atI_get hlt]
     have hkl : (l.take j).filter (fun x => !blkB ⟨n, rows⟩ x) = (l.take j).filter (fun x => !blkB ⟨n, rows⟩ x) := rfl
     generalize hK : (l.take j).filter (fun x => !blkB ⟨n, rows⟩ x) = K at k3 hkl ⊢
     have hdl : (l.drop (j + 1)).length + (j + 1) = l.length := by rw [List.length_drop]; omega
     have q1 : Prim.len.run [delD K J (l.drop j)] = some [i64 (l.length : Int)] := delD_len (by rw [hd1, List.length_cons]; omega)
     have q2 : Prim.inb.run [delD K J (l.drop j), i64 (j : Int)] = some [] := delD_inb (by omega) (by rw [hd1]; simp only [List.length_cons]; omega)
     have q3 : (Prim.row 1 0 [false]).run [delD K J (l.drop j), i64 (j : Int)] = some [rL (atI l (j : Int))] := by rw [hd1]; exact delD_row (by omega)
     have q4 : Prim.inb.run [delD K J (l.drop j), i64 (K.length : Int)] = some [] := delD_inb (by omega) (by rw [hd1]; simp only [List.length_cons]; omega)
     have q5 : (Prim.set 1 0 1).run [delD K J (l.drop j), i64 (j : Int), .hole] = some [delD K (J ++ [[.hole]]) (l.drop (j + 1))] := by rw [hd1]; exact delD_hole (by omega)
     have hdlt : decide ((j : Int) < (l.length : Nat)) = true := decide_eq_true (by omega)
     obtain ⟨r0, J0, rfl⟩ : ∃ r0 J0, J = r0 :: J0 := by
      match J, k4 with
      | r0 :: J0, _ => exact ⟨r0, J0, rfl⟩
     have q6 : (Prim.set 1 0 1).run [delD K (r0 :: J0 ++ [[.hole]]) (l.drop (j + 1)), i64 (K.length : Int), rL (atI l (j : Int))] = some [delD (K ++ [atI l (j : Int)]) (J0 ++ [[.hole]]) (l.drop (j + 1))] := delD_put rfl (k5 r0 List.mem_cons_self)
     have q7 : delD K (r0 :: J0) (l.drop j) = delD K (r0 :: J0 ++ [Enc.enc (atI l (j : Int))]) (l.drop (j + 1)) := by rw [hd1, delD_more]
     have k3' : K.length + (J0.length + 1) = j := k3
     have hkj : (K.length : Int) <= 1000 := by omega
     cases hb : blkB ⟨n, rows⟩ (atI l (j : Int))
     ·refine ⟨(j + 1, J0 ++ [[.hole]]), ?_, ?_, by dsimp only; omega⟩
      ·dsimp only
       rw [ht1, List.filter_append, hK, List.filter_cons_of_pos (by rw [hb]; rfl), List.filter_nil]
       have hlen : (((K ++ [atI l (j : Int)]).length : Nat) : Int) = (K.length : Int) + 1 := by simp
       rw [hlen]
       simp (disch := first|assumption|omega) only [S0,rA,rQ,rB,rT,rE, q1, q2, q3, q4, q5, q6, hdlt, impl_ready_1, hb]
      ·dsimp only
       rw [ht1, List.filter_append, hK, List.filter_cons_of_pos (by rw [hb]; rfl), List.filter_nil]
       refine ⟨by omega, by omega, ?_, ?_, ?_⟩
       ·simp only [List.length_append, List.length_cons, List.length_nil]; omega
       ·simp only [List.length_append, List.length_cons, List.length_nil]; omega
       ·intro r hr
        rcases List.mem_append.1 hr with hr | hr
        ·exact k5 r (List.mem_cons_of_mem _ hr)
        ·rw [List.mem_singleton] at hr
         rw [hr]
         rfl
     ·refine ⟨(j + 1, r0 :: J0 ++ [Enc.enc (atI l (j : Int))]), ?_, ?_, by dsimp only; omega⟩
      ·dsimp only
       rw [ht1, List.filter_append, hK, List.filter_cons_of_neg (by rw [hb]; simp), List.filter_nil, List.append_nil, <- q7]
       simp (disch := first|assumption|omega) only [S0,rA,rQ,rB,rT,rE, q1, q2, q3, hdlt, impl_ready_1, hb]
      ·dsimp only
       rw [ht1, List.filter_append, hK, List.filter_cons_of_neg (by rw [hb]; simp), List.filter_nil, List.append_nil]
       refine ⟨by omega, by omega, ?_, ?_, ?_⟩
       ·simp only [List.length_append, List.length_cons, List.length_nil]; omega
       ·simp only [List.length_append, List.length_cons, List.length_nil]; omega
       ·intro r hr
        rcases List.mem_append.1 hr with hr | hr
        ·exact k5 r hr
        ·rw [List.mem_singleton] at hr
         rw [hr]
         rfl
    ·obtain rfl : j = l.length := by omega
     rw [List.take_length] at k3
     refine .inr ⟨(.yield 1, [delD (l.filter fun x => !blkB ⟨n, rows⟩ x) J [], i64 (((l.filter fun x => !blkB ⟨n, rows⟩ x).length : Nat) : Int)]), ?_, by simp, _, J, rfl, k3, rfl⟩
     rw [List.take_length, List.drop_length]
     have q1 : Prim.len.run [delD (l.filter fun x => !blkB ⟨n, rows⟩ x) J []] = some [i64 (l.length : Int)] := delD_len (by simp only [List.length_nil]; omega)
     have hdlt : decide (((l.length : Nat) : Int) < (l.length : Nat)) = false := by simp
     simp (disch := first|assumption|omega) only [S0,rA,rQ,rB,rT,rE, q1, hdlt]
  subst e4
  rw [e1]
  have q1 : Prim.len.run [delD kept J []] = some [i64 (l.length : Int)] := delD_len (by simp only [List.length_nil]; omega)
  obtain ⟨d, q2⟩ := delD_sub (kept := kept) (J := J) (n := (l.length : Int)) (k := (kept.length : Int)) rfl (by omega)
  have q3 := delD_clr (kept := kept) (J := J) (k := (kept.length : Int)) rfl
  have q4 := delD_cut (kept := kept) (J := J.map fun r => r.map fun _ => D.hole) (k := (kept.length : Int)) rfl
  simp (disch := first|assumption|omega) only [S0,rA,rQ,rB,rT,rE, q1, q2, q3, q4]
  rw [e2]
theorem impl_Table_ready (n : Int) (rows : List (List TRow)) (ht : tabOk ⟨n, rows⟩ = true) (hs : smTab rows) : Fun T 57 [i64 n, rL rows] = some [rL (readyM ⟨n, rows⟩)] := by
 rw [Fun_k (t := tm57) rfl]; unfold tm57; unfold readyM
 have hn := isGrp_rng (tabOk_grp ht)
 simp only at hn
 have hl : (rows.length : Int) = n := tabOk_len ht
 have h6 : ∀ l ∈ rows, l.length <= 6 := fun l hl => (tabOk_rows ht hl).1
 have hl2 : rows.length <= 100 := by omega
 have hcl := comM_len30 ht
 simp only at hcl
 have hcl2 : (comM rows).length <= 1000 := by omega
 have hci : ∀ x ∈ comM rows, IsInst n x /\ comL ⟨n, rows⟩ x = true := fun x hx => comM_inst ht hx
 simp (disch := first|assumption|omega) only [S0,rA,rQ,rB,rT,rE, impl_Table_committed, del_ready_1]
theorem impl_ReadyIn (n : Int) (rows : List (List TRow)) (hs : smTab rows) : Fun T 37 [i64 n, rL rows] = some [rL (readyR ⟨n, rows⟩).1, .bool (readyR ⟨n, rows⟩).2] := by
 rw [Fun_k (t := tm37) rfl]; unfold tm37; unfold readyR
 cases ht : tabOk ⟨n, rows⟩
 ·simp (disch := first|assumption|omega) only [S0,rA,rQ,rB,rT,rE, impl_GoodTable, ht, S_nil, Bool.false_eq_true]
 ·simp (disch := first|assumption|omega) only [S0,rA,rQ,rB,rT,rE, impl_GoodTable, impl_Table_ready, ht]
theorem spec_l6Ready (n : Int) (rows : List (List TRow)) (ht : tabOk ⟨n, rows⟩ = true) (hs : smTab rows) : Fun T 27 [i64 n, rL rows] = some [rL (readyM ⟨n, rows⟩)] := by
 rw [Fun_k (t := tm27) rfl]; unfold tm27; unfold readyM
 have hn := isGrp_rng (tabOk_grp ht)
 simp only at hn
 have hl : (rows.length : Int) = n := tabOk_len ht
 have h6 : ∀ l ∈ rows, l.length <= 6 := fun l hl => (tabOk_rows ht hl).1
 have hl2 : rows.length <= 100 := by omega
 have hcl := comM_len30 ht
 simp only at hcl
 simp (disch := first|assumption|omega) only [S0,rA,rQ,rB,rT,rE, spec_l4Committed]
 rw [loopN (comM rows).length (fun k => [rL (((comM rows).take k).filter fun x => !blkB ⟨n, rows⟩ x), rL (comM rows), i64 k]) (.yield 1, [rL ((comM rows).filter fun x => !blkB ⟨n, rows⟩ x)]) rfl (by simp)]
 ·simp (disch := first|assumption|omega) only [S0,rA,rQ,rB,rT,rE]
 ·intro k hk hlt
  have hb : InB (comM rows) (k : Int) := InB_nat.2 hk
  obtain ⟨x0, x1, hx2, xi, -⟩ := comM_spec ht (at_mem hk)
  simp only at xi
  have xc := (comM_inst ht (at_mem hk)).2
  have hfl : (((comM rows).take k).filter fun x => !blkB ⟨n, rows⟩ x).length <= 30 := by
   have := List.length_filter_le (fun x => !blkB ⟨n, rows⟩ x) ((comM rows).take k)
   rw [List.length_take] at this
   omega
  have e : [atI (atI (comM rows) (k : Int)) 0, atI (atI (comM rows) (k : Int)) 1] = atI (comM rows) (k : Int) := toL_prL hx2
  have xc2 : comL ⟨n, rows⟩ [atI (atI (comM rows) (k : Int)) 0, atI (atI (comM rows) (k : Int)) 1] = true := by rw [e]; exact xc
  have a1 : (((comM rows).take k).filter fun x => !blkB ⟨n, rows⟩ x).length + ([atI (comM rows) (k : Int)] : List (List Int)).length <= 100000000000 := by simp only [List.length_cons, List.length_nil]; omega
  rw [<- take_at hk, List.filter_append]
  have eb : blkB ⟨n, rows⟩ (atI (comM rows) (k : Int)) = !(((blockM ⟨n, rows⟩ (atI (comM rows) (k : Int))).length : Int) == 0) := by
   unfold blkB
   generalize (blockM ⟨n, rows⟩ (atI (comM rows) (k : Int))).length = L
   cases L with
   | zero => rfl
   | succ L =>
    have e1 : decide ((0 : Int) < ((L + 1 : Nat) : Int)) = true := decide_eq_true (by omega)
    have e2 : (((L + 1 : Nat) : Int) == 0) = false := beq_false_of_ne (by omega)
    rw [e1, e2]
    rfl
  cases hc : (((blockM ⟨n, rows⟩ (atI (comM rows) (k : Int))).length : Int) == 0)
  ·rw [List.filter_cons_of_neg (by rw [eb, hc]; simp), List.filter_nil, List.append_nil]
   simp (disch := first|assumption|omega) only [S0,rA,rQ,rB,rT,rE, S_row, spec_l6Blockers, hlt, e, hc, Bool.false_eq_true]
  ·rw [List.filter_cons_of_pos (by rw [eb, hc]; simp), List.filter_nil]
   simp (disch := first|assumption|omega) only [S0,rA,rQ,rB,rT,rE, S_row, S_mk, S_app, spec_l6Blockers, hlt, e, hc]
 ·intro hlt
  rw [List.take_length]
  simp (disch := first|assumption|omega) only [S0,rA,rQ,rB,rT,rE, hlt]
theorem spec_ReadyIn (n : Int) (rows : List (List TRow)) (hs : smTab rows) : Fun T 14 [i64 n, rL rows] = some [rL (readyR ⟨n, rows⟩).1, .bool (readyR ⟨n, rows⟩).2] := by
 rw [Fun_k (t := tm14) rfl]; unfold tm14; unfold readyR
 cases ht : tabOk ⟨n, rows⟩
 ·simp (disch := first|assumption|omega) only [S0,rA,rQ,rB,rT,rE, spec_GoodTable, ht, S_nil, Bool.false_eq_true]
 ·simp (disch := first|assumption|omega) only [S0,rA,rQ,rB,rT,rE, spec_GoodTable, spec_l6Ready, ht]
theorem law (t_n : Int) (t_rows : (List (List TRow))) (hw_t : wf_TTable ⟨t_n, t_rows⟩) : Fun T 0 [i64 t_n, rL t_rows] = some [.bool true] := by
 rw [Fun_k (t := tm0) rfl]; unfold tm0
 by_cases c_t : ((sz_TTable ⟨t_n, t_rows⟩ : Nat) : Int) <= 1048576
 rotate_left
 ·have e : szR (1048576) (sz_TTable ⟨t_n, t_rows⟩) = -1 := if_neg c_t
  (refine fork_in ?_; repeat' (refine fork_eq ?_ ?_<;>intro _<;>try simp (disch := first|assumption|omega) only [S0,rA,rQ,rB,rT,rE,lsz_TTable,lt0,ltm1, *]))
 have e_t : szR (1048576) (sz_TTable ⟨t_n, t_rows⟩) = 1048576 - ((sz_TTable ⟨t_n, t_rows⟩ : Nat) : Int) := if_pos c_t
 have s1_t : sz_TTable ⟨t_n, t_rows⟩ <= 1048576 := by omega
 have s2_t : sz_TTable ⟨t_n, t_rows⟩ <= 1099511627776 := by omega
 have szu_t := s1_t
 rw [szu_TTable] at szu_t
 simp only at szu_t
 have m1_t_rows : szL (szL sz_TRow) t_rows <= 1099511627776 := by first | omega | (have h := s2_t; rw [szL_zero] at h; exact h)
 have m2_t_rows : ctL (ctL ct_TRow) t_rows <= 1125899906842624 := by have := ctL_le (c := (ctL ct_TRow)) (f := (szL sz_TRow)) (m := 16) (by omega) (fun xs => Nat.le_trans (ctL_le (c := ct_TRow) (f := sz_TRow) (m := 16) (by omega) ctb_TRow xs) (Nat.le_add_left _ _)) t_rows; omega
 have s3 : smTab t_rows := smTab_of s1_t
 have z1 := readyR_sz ⟨t_n, t_rows⟩
 have r1 : szL (szL fun _ => 0) (readyR ⟨t_n, t_rows⟩).1 <= 1099511627776 := by omega
 have r3 : ctL (ctL fun _ => 1) (readyR ⟨t_n, t_rows⟩).1 <= 1125899906842624 := ctLL_le (by omega)
 (refine fork_in ?_; repeat' (refine fork_eq ?_ ?_<;>intro _<;>try simp (disch := first|assumption|omega) only [S0,rA,rQ,rB,rT,rE,lsz_TTable,lto_TTable,spec_ReadyIn,impl_ReadyIn,leq_LLI,leq_TTable,lmk_TTable,lmk_LLI,lhd_LLI,lt0,ltm1, *]))
theorem hpure : ∀ ds, WTs [.int .i64, .sl 24 [.sl 96 [.int .i64, .int .i64, .int .i64, .int .i64, .int .i64, .int .i64, .int .i64, .int .i64, .int .i64, .sl 8 [.int .i64]]]] ds -> ∃ n, callN T n 0 ds = some [.bool true] := by
 intro ds h
 simp only [WTs] at h
 obtain ⟨d0, r0, rfl, w0, d1, r1, rfl, w1, rfl⟩ := h
 obtain ⟨t, e_t, hw_t⟩ := dec_TTable [d0, d1] (by simp only [WTs]; exact ⟨_, _, rfl, w0, _, _, rfl, w1, rfl⟩)
 simp only [Enc.enc, List.cons.injEq, and_true] at e_t
 obtain ⟨rfl, rfl⟩ := e_t
 exact pure_of (law (t.n) (t.rows) hw_t)
end FnExactReadyIn
end Go.Proofs.YtpgnlmfmlffjcaaGreat
