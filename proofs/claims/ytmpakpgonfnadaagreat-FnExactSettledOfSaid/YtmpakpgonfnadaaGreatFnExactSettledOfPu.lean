/- What the terms of FnExactSettledOf come to. -/
import Derived.Test.YtmpakpgonfnadaaGreatFnExactSettledOfTab
namespace Go.Proofs.YtmpakpgonfnadaaGreat
namespace FnExactSettledOf
open Go Go.Proofs.YtmpakpgonfnadaaGreat.Rf
open Nat renaming reduceAdd → rA, reduceEqDiff → rQ
open Int renaming reduceBEq → rB, reduceLT → rT, reduceLE → rE
set_option linter.unusedSimpArgs false
set_option linter.unusedVariables false
set_option linter.unnecessarySimpa false
set_option maxHeartbeats 4000000
set_option maxRecDepth 10000
theorem lto_TCmd (x_kind x_id x_src x_dst x_amt : Int) : Fun T 22 [i64 x_kind, i64 x_id, i64 x_src, i64 x_dst, i64 x_amt] = some [i64 x_kind, i64 x_id, i64 x_src, i64 x_dst, i64 x_amt] := by
 rw [Fun_k (t := tm22) rfl]; unfold tm22
 (refine fork_in ?_; repeat' (refine fork_eq ?_ ?_<;>intro _<;>try simp (disch := first|assumption|omega) only [S0,rA,rQ,rB,rT,rE, *]))
theorem leq_TCmd (x_kind x_id x_src x_dst x_amt : Int) (y_kind y_id y_src y_dst y_amt : Int) : Fun T 122 [i64 x_kind, i64 x_id, i64 x_src, i64 x_dst, i64 x_amt, i64 y_kind, i64 y_id, i64 y_src, i64 y_dst, i64 y_amt] = some [.bool (decide ((⟨x_kind, x_id, x_src, x_dst, x_amt⟩ : TCmd) = ⟨y_kind, y_id, y_src, y_dst, y_amt⟩))] := by
 rw [Fun_k (t := tm122) rfl]; unfold tm122
 have e : decide ((⟨x_kind, x_id, x_src, x_dst, x_amt⟩ : TCmd) = ⟨y_kind, y_id, y_src, y_dst, y_amt⟩) = ((x_kind == y_kind) && (x_id == y_id) && (x_src == y_src) && (x_dst == y_dst) && (x_amt == y_amt)) := by
  simp only [TCmd.mk.injEq, Bool.beq_eq_decide_eq, Bool.decide_and, Bool.and_assoc]
 rw [e]
 (refine fork_in ?_; repeat' (refine fork_eq ?_ ?_<;>intro _<;>try simp (disch := first|assumption|omega) only [S0,rA,rQ,rB,rT,rE, *]))
theorem lsz_LI (xs : (List Int)) (l : Int) (h0 : 0 <= l) (h1 : l <= 1048576) (hw : xs.length <= 140737488351232) : Fun T 9 [rL xs, i64 l] = some [i64 (szR l (szL (fun _ => 0) xs))] := by
 rw [Fun_k (t := tm9) rfl]; unfold tm9
 have es : szL (fun _ => 0) xs = xs.length := szL_zero
 rw [es]
 by_cases c : (xs.length : Int) <= l
 ·have e : szR l xs.length = l - xs.length := if_pos c
  have d : decide (l - (xs.length : Int) < 0) = false := by simp; omega
  (refine fork_in ?_; repeat' (refine fork_eq ?_ ?_<;>intro _<;>try simp (disch := first|assumption|omega) only [S0,rA,rQ,rB,rT,rE, *]))
 ·have e : szR l xs.length = -1 := if_neg c
  have d : decide (l - (xs.length : Int) < 0) = true := by simp; omega
  (refine fork_in ?_; repeat' (refine fork_eq ?_ ?_<;>intro _<;>try simp (disch := first|assumption|omega) only [S0,rA,rQ,rB,rT,rE, *]))
theorem lto_LI (xs : (List Int)) (hs : szL (fun _ => 0) xs <= 1048576) : Fun T 24 [rL xs] = some [rL xs] := by
 rw [Fun_k (t := tm24) rfl]; unfold tm24
 have hl : xs.length <= 1048576 := Nat.le_trans szL_len hs
 simp (disch := first|assumption|omega) only [S0,rA,rQ,rB,rT,rE, S_make, Int.toNat_natCast, *]
 rw [toLoop xs rfl]
 ·(refine fork_in ?_; repeat' (refine fork_eq ?_ ?_<;>intro _<;>try simp (disch := first|assumption|omega) only [S0,rA,rQ,rB,rT,rE, *]))
 ·intro i ys hi hb hb' hl'
  (refine fork_in ?_; repeat' (refine fork_eq ?_ ?_<;>intro _<;>try simp (disch := first|assumption|omega) only [S0,rA,rQ,rB,rT,rE,S_row,S_set, *]))
 ·intro ys hl'
  (refine fork_in ?_; repeat' (refine fork_eq ?_ ?_<;>intro _<;>try simp (disch := first|assumption|omega) only [S0,rA,rQ,rB,rT,rE, *]))
theorem leq_LI (xs ys : (List Int)) (hs : szL (fun _ => 0) xs <= 1099511627776) : Fun T 124 [rL xs, rL ys] = some [.bool (decide (xs = ys))] := by
 rw [Fun_k (t := tm124) rfl]; unfold tm124
 have hx : xs.length <= 1099511627776 := Nat.le_trans szL_len hs
 by_cases hl : ys.length = xs.length
 ·simp (disch := first|assumption|omega) only [S0,rA,rQ,rB,rT,rE, *]
  rw [scanX 1 xs.length (fun i => decide (atI xs i = atI ys i)) [.bool false], allB_eq hl.symm]
  ·(refine fork_in ?_; repeat' (refine fork_eq ?_ ?_<;>intro _<;>try simp (disch := first|assumption|omega) only [S0,rA,rQ,rB,rT,rE, *]))
  ·intro i hi hp
   have hb : InB xs (i : Int) := InB_nat.2 hi
   have hb' : InB ys (i : Int) := InB_nat.2 (by omega)
   have h2 : decide ((i : Int) < xs.length) = true := by simp; omega
   have h3 : (atI xs i == atI ys i) = true := by simpa using hp
   (refine fork_in ?_; repeat' (refine fork_eq ?_ ?_<;>intro _<;>try simp (disch := first|assumption|omega) only [S0,rA,rQ,rB,rT,rE,S_row, *]))
  ·intro i hi hp
   have hb : InB xs (i : Int) := InB_nat.2 hi
   have hb' : InB ys (i : Int) := InB_nat.2 (by omega)
   have h2 : decide ((i : Int) < xs.length) = true := by simp; omega
   have h3 : (atI xs i == atI ys i) = false := by simpa using hp
   (refine fork_in ?_; repeat' (refine fork_eq ?_ ?_<;>intro _<;>try simp (disch := first|assumption|omega) only [S0,rA,rQ,rB,rT,rE,S_row, *]))
  ·have h2 : decide ((xs.length : Int) < xs.length) = false := by simp
   (refine fork_in ?_; repeat' (refine fork_eq ?_ ?_<;>intro _<;>try simp (disch := first|assumption|omega) only [S0,rA,rQ,rB,rT,rE, *]))
 ·have hl' : ((xs.length : Int) == (ys.length : Int)) = false := by simp; omega
  have e := eq_len (fun h => hl h.symm)
  (refine fork_in ?_; repeat' (refine fork_eq ?_ ?_<;>intro _<;>try simp (disch := first|assumption|omega) only [S0,rA,rQ,rB,rT,rE, *]))
theorem lmk_LI (xs : (List Int)) (k : Int) (hk : 0 <= k) (hb : k + (ctL (fun _ => 1) xs : Nat) <= 1152921504606846976) (hl : xs.length <= 1099511627776) : Fun T 138 [rL xs, i64 k] = some [i64 (k + (ctL (fun _ => 1) xs : Nat)), rL (mkL (fun _ => 1) (fun _ k => k) xs k)] := by
 rw [Fun_k (t := tm138) rfl]; unfold tm138
 have hx : xs.length <= 1099511627776 := hl
 simp (disch := first|assumption|omega) only [S0,rA,rQ,rB,rT,rE, *]
 rw [markLoop xs (fun _ => 1) (fun _ k => k) k rfl rfl rfl hk hb ?_ ?_ (by omega)]
 ·(refine fork_in ?_; repeat' (refine fork_eq ?_ ?_<;>intro _<;>try simp (disch := first|assumption|omega) only [S0,rA,rQ,rB,rT,rE, *]))
 ·intro i ys m hi hy hb hlt hat hm hc hlen
  have hc' : m + 1 <= 1152921504606846976 := hc
  (refine fork_in ?_; repeat' (refine fork_eq ?_ ?_<;>intro _<;>try simp (disch := first|assumption|omega|(simp only [S_upd]; assumption)) only [S0,rA,rQ,rB,rT,rE,S_row,S_set,S_upd, *]))
  rfl
 ·intro ys m hy hlt
  (refine fork_in ?_; repeat' (refine fork_eq ?_ ?_<;>intro _<;>try simp (disch := first|assumption|omega) only [S0,rA,rQ,rB,rT,rE, *]))
theorem lhd_LI (xs : (List Int)) (k : Int) (hk : 0 <= k) (hb : k + (ctL (fun _ => 1) xs : Nat) <= 1152921504606846976) (hl : xs.length <= 1099511627776) : Fun T 146 [rL (mkL (fun _ => 1) (fun _ k => k) xs k), i64 k] = some [i64 (k + (ctL (fun _ => 1) xs : Nat))] := by
 rw [Fun_k (t := tm146) rfl]; unfold tm146
 have hx : xs.length <= 1099511627776 := hl
 simp (disch := first|assumption|omega) only [S0,rA,rQ,rB,rT,rE, *]
 rw [heldLoop xs (fun _ => 1) (fun _ k => k) k rfl hk hb (by omega)]
 ·(refine fork_in ?_; repeat' (refine fork_eq ?_ ?_<;>intro _<;>try simp (disch := first|assumption|omega) only [S0,rA,rQ,rB,rT,rE, *]))
 ·intro i m hi hb hy hlt hat hm hc hlen
  have hc' : m + 1 <= 1152921504606846976 := hc
  (refine fork_in ?_; repeat' (refine fork_eq ?_ ?_<;>intro _<;>try simp (disch := first|assumption|omega) only [S0,rA,rQ,rB,rT,rE,S_row, *]))
  rfl
 ·intro m hy hlt
  (refine fork_in ?_; repeat' (refine fork_eq ?_ ?_<;>intro _<;>try simp (disch := first|assumption|omega) only [S0,rA,rQ,rB,rT,rE, *]))
theorem lsz_TAttr (x_seq : Int) (x_deps : (List Int)) (l : Int) (h0 : 0 <= l) (h1 : l <= 1048576) (hw : wf_TAttr ⟨x_seq, x_deps⟩) : Fun T 8 [i64 x_seq, rL x_deps, i64 l] = some [i64 (szR l (sz_TAttr ⟨x_seq, x_deps⟩))] := by
 rw [Fun_k (t := tm8) rfl]; unfold tm8
 unfold wf_TAttr at hw
 simp only at hw
 have w0 := hw
 by_cases c0 : ((szL (fun _ => 0) x_deps : Nat) : Int) <= l
 rotate_left
 ·have e0 : szR (l) (szL (fun _ => 0) x_deps) = -1 := if_neg c0
  have d0 : decide ((-1 : Int) < 0) = true := rfl
  have e : szR l (sz_TAttr ⟨x_seq, x_deps⟩) = -1 := by unfold szR sz_TAttr; simp only []; split <;> omega
  (refine fork_in ?_; repeat' (refine fork_eq ?_ ?_<;>intro _<;>try simp (disch := first|assumption|omega) only [S0,rA,rQ,rB,rT,rE,lsz_LI, *]))
 have e0 : szR (l) (szL (fun _ => 0) x_deps) = l - (szL (fun _ => 0) x_deps : Nat) := if_pos c0
 have d0 : decide (l - ((szL (fun _ => 0) x_deps : Nat) : Int) < 0) = false := by simp; omega
 have e : szR l (sz_TAttr ⟨x_seq, x_deps⟩) = l - ((szL (fun _ => 0) x_deps : Nat) : Int) := by unfold szR sz_TAttr; simp only []; split <;> omega
 (refine fork_in ?_; repeat' (refine fork_eq ?_ ?_<;>intro _<;>try simp (disch := first|assumption|omega) only [S0,rA,rQ,rB,rT,rE,lsz_LI, *]))
theorem lto_TAttr (x_seq : Int) (x_deps : (List Int)) (hs : sz_TAttr ⟨x_seq, x_deps⟩ <= 1048576) : Fun T 23 [i64 x_seq, rL x_deps] = some [i64 x_seq, rL x_deps] := by
 rw [Fun_k (t := tm23) rfl]; unfold tm23
 unfold sz_TAttr at hs
 simp only at hs
 have s0 : szL (fun _ => 0) x_deps <= 1048576 := by omega
 (refine fork_in ?_; repeat' (refine fork_eq ?_ ?_<;>intro _<;>try simp (disch := first|assumption|omega) only [S0,rA,rQ,rB,rT,rE,lto_LI, *]))
theorem leq_TAttr (x_seq : Int) (x_deps : (List Int)) (y_seq : Int) (y_deps : (List Int)) (hs : sz_TAttr ⟨x_seq, x_deps⟩ <= 1099511627776) : Fun T 123 [i64 x_seq, rL x_deps, i64 y_seq, rL y_deps] = some [.bool (decide ((⟨x_seq, x_deps⟩ : TAttr) = ⟨y_seq, y_deps⟩))] := by
 rw [Fun_k (t := tm123) rfl]; unfold tm123
 unfold sz_TAttr at hs
 simp only at hs
 have s0 : szL (fun _ => 0) x_deps <= 1099511627776 := by omega
 have e : decide ((⟨x_seq, x_deps⟩ : TAttr) = ⟨y_seq, y_deps⟩) = ((x_seq == y_seq) && decide ((x_deps : (List Int)) = y_deps)) := by
  simp only [TAttr.mk.injEq, Bool.beq_eq_decide_eq, Bool.decide_and, Bool.and_assoc]
 rw [e]
 (refine fork_in ?_; repeat' (refine fork_eq ?_ ?_<;>intro _<;>try simp (disch := first|assumption|omega) only [S0,rA,rQ,rB,rT,rE,leq_LI, *]))
theorem lsz_TRow (x_ballot x_vote x_state x_cmd_kind x_cmd_id x_cmd_src x_cmd_dst x_cmd_amt x_attr_seq : Int) (x_attr_deps : (List Int)) (l : Int) (h0 : 0 <= l) (h1 : l <= 1048576) (hw : wf_TRow ⟨x_ballot, x_vote, x_state, ⟨x_cmd_kind, x_cmd_id, x_cmd_src, x_cmd_dst, x_cmd_amt⟩, ⟨x_attr_seq, x_attr_deps⟩⟩) : Fun T 7 [i64 x_ballot, i64 x_vote, i64 x_state, i64 x_cmd_kind, i64 x_cmd_id, i64 x_cmd_src, i64 x_cmd_dst, i64 x_cmd_amt, i64 x_attr_seq, rL x_attr_deps, i64 l] = some [i64 (szR l (sz_TRow ⟨x_ballot, x_vote, x_state, ⟨x_cmd_kind, x_cmd_id, x_cmd_src, x_cmd_dst, x_cmd_amt⟩, ⟨x_attr_seq, x_attr_deps⟩⟩))] := by
 rw [Fun_k (t := tm7) rfl]; unfold tm7
 unfold wf_TRow at hw
 simp only at hw
 have w0 := hw
 by_cases c0 : ((sz_TAttr ⟨x_attr_seq, x_attr_deps⟩ : Nat) : Int) <= l
 rotate_left
 ·have e0 : szR (l) (sz_TAttr ⟨x_attr_seq, x_attr_deps⟩) = -1 := if_neg c0
  have d0 : decide ((-1 : Int) < 0) = true := rfl
  have e : szR l (sz_TRow ⟨x_ballot, x_vote, x_state, ⟨x_cmd_kind, x_cmd_id, x_cmd_src, x_cmd_dst, x_cmd_amt⟩, ⟨x_attr_seq, x_attr_deps⟩⟩) = -1 := by unfold szR sz_TRow; simp only []; split <;> omega
  (refine fork_in ?_; repeat' (refine fork_eq ?_ ?_<;>intro _<;>try simp (disch := first|assumption|omega) only [S0,rA,rQ,rB,rT,rE,lsz_TAttr, *]))
 have e0 : szR (l) (sz_TAttr ⟨x_attr_seq, x_attr_deps⟩) = l - (sz_TAttr ⟨x_attr_seq, x_attr_deps⟩ : Nat) := if_pos c0
 have d0 : decide (l - ((sz_TAttr ⟨x_attr_seq, x_attr_deps⟩ : Nat) : Int) < 0) = false := by simp; omega
 have e : szR l (sz_TRow ⟨x_ballot, x_vote, x_state, ⟨x_cmd_kind, x_cmd_id, x_cmd_src, x_cmd_dst, x_cmd_amt⟩, ⟨x_attr_seq, x_attr_deps⟩⟩) = l - ((sz_TAttr ⟨x_attr_seq, x_attr_deps⟩ : Nat) : Int) := by unfold szR sz_TRow; simp only []; split <;> omega
 (refine fork_in ?_; repeat' (refine fork_eq ?_ ?_<;>intro _<;>try simp (disch := first|assumption|omega) only [S0,rA,rQ,rB,rT,rE,lsz_TAttr, *]))
theorem lto_TRow (x_ballot x_vote x_state x_cmd_kind x_cmd_id x_cmd_src x_cmd_dst x_cmd_amt x_attr_seq : Int) (x_attr_deps : (List Int)) (hs : sz_TRow ⟨x_ballot, x_vote, x_state, ⟨x_cmd_kind, x_cmd_id, x_cmd_src, x_cmd_dst, x_cmd_amt⟩, ⟨x_attr_seq, x_attr_deps⟩⟩ <= 1048576) : Fun T 21 [i64 x_ballot, i64 x_vote, i64 x_state, i64 x_cmd_kind, i64 x_cmd_id, i64 x_cmd_src, i64 x_cmd_dst, i64 x_cmd_amt, i64 x_attr_seq, rL x_attr_deps] = some [i64 x_ballot, i64 x_vote, i64 x_state, i64 x_cmd_kind, i64 x_cmd_id, i64 x_cmd_src, i64 x_cmd_dst, i64 x_cmd_amt, i64 x_attr_seq, rL x_attr_deps] := by
 rw [Fun_k (t := tm21) rfl]; unfold tm21
 unfold sz_TRow at hs
 simp only at hs
 have s0 : sz_TAttr ⟨x_attr_seq, x_attr_deps⟩ <= 1048576 := by omega
 (refine fork_in ?_; repeat' (refine fork_eq ?_ ?_<;>intro _<;>try simp (disch := first|assumption|omega) only [S0,rA,rQ,rB,rT,rE,lto_TCmd,lto_TAttr, *]))
theorem leq_TRow (x_ballot x_vote x_state x_cmd_kind x_cmd_id x_cmd_src x_cmd_dst x_cmd_amt x_attr_seq : Int) (x_attr_deps : (List Int)) (y_ballot y_vote y_state y_cmd_kind y_cmd_id y_cmd_src y_cmd_dst y_cmd_amt y_attr_seq : Int) (y_attr_deps : (List Int)) (hs : sz_TRow ⟨x_ballot, x_vote, x_state, ⟨x_cmd_kind, x_cmd_id, x_cmd_src, x_cmd_dst, x_cmd_amt⟩, ⟨x_attr_seq, x_attr_deps⟩⟩ <= 1099511627776) : Fun T 121 [i64 x_ballot, i64 x_vote, i64 x_state, i64 x_cmd_kind, i64 x_cmd_id, i64 x_cmd_src, i64 x_cmd_dst, i64 x_cmd_amt, i64 x_attr_seq, rL x_attr_deps, i64 y_ballot, i64 y_vote, i64 y_state, i64 y_cmd_kind, i64 y_cmd_id, i64 y_cmd_src, i64 y_cmd_dst, i64 y_cmd_amt, i64 y_attr_seq, rL y_attr_deps] = some [.bool (decide ((⟨x_ballot, x_vote, x_state, ⟨x_cmd_kind, x_cmd_id, x_cmd_src, x_cmd_dst, x_cmd_amt⟩, ⟨x_attr_seq, x_attr_deps⟩⟩ : TRow) = ⟨y_ballot, y_vote, y_state, ⟨y_cmd_kind, y_cmd_id, y_cmd_src, y_cmd_dst, y_cmd_amt⟩, ⟨y_attr_seq, y_attr_deps⟩⟩))] := by
 rw [Fun_k (t := tm121) rfl]; unfold tm121
 unfold sz_TRow at hs
 simp only at hs
 have s0 : sz_TAttr ⟨x_attr_seq, x_attr_deps⟩ <= 1099511627776 := by omega
 have e : decide ((⟨x_ballot, x_vote, x_state, ⟨x_cmd_kind, x_cmd_id, x_cmd_src, x_cmd_dst, x_cmd_amt⟩, ⟨x_attr_seq, x_attr_deps⟩⟩ : TRow) = ⟨y_ballot, y_vote, y_state, ⟨y_cmd_kind, y_cmd_id, y_cmd_src, y_cmd_dst, y_cmd_amt⟩, ⟨y_attr_seq, y_attr_deps⟩⟩) = ((x_ballot == y_ballot) && (x_vote == y_vote) && (x_state == y_state) && decide ((⟨x_cmd_kind, x_cmd_id, x_cmd_src, x_cmd_dst, x_cmd_amt⟩ : TCmd) = ⟨y_cmd_kind, y_cmd_id, y_cmd_src, y_cmd_dst, y_cmd_amt⟩) && decide ((⟨x_attr_seq, x_attr_deps⟩ : TAttr) = ⟨y_attr_seq, y_attr_deps⟩)) := by
  simp only [TRow.mk.injEq, Bool.beq_eq_decide_eq, Bool.decide_and, Bool.and_assoc]
 rw [e]
 (refine fork_in ?_; repeat' (refine fork_eq ?_ ?_<;>intro _<;>try simp (disch := first|assumption|omega) only [S0,rA,rQ,rB,rT,rE,leq_TCmd,leq_TAttr, *]))
theorem lsz_LTRow (xs : (List TRow)) (l : Int) (h0 : 0 <= l) (h1 : l <= 1048576) (hw : xs.length <= 140737488351232 /\ ∀ y0 ∈ xs, wf_TRow y0) : Fun T 6 [rL xs, i64 l] = some [i64 (szR l (szL sz_TRow xs))] := by
 rw [Fun_k (t := tm6) rfl]; unfold tm6
 obtain ⟨hw1, hw2⟩ := hw
 by_cases c : (xs.length : Int) <= l
 ·have d : decide (l - (xs.length : Int) < 0) = false := by simp; omega
  simp (disch := first|assumption|omega) only [S0,rA,rQ,rB,rT,rE, *]
  rw [szLoop xs sz_TRow (l - xs.length) rfl (by omega) (by omega)]
  ·by_cases hd : ((xs.map sz_TRow).sum : Int) <= l - xs.length
   ·have e : szR l (szL sz_TRow xs) = l - xs.length - ((xs.map sz_TRow).sum : Nat) := by unfold szR; rw [show (szL sz_TRow xs) = xs.length + (xs.map sz_TRow).sum from rfl, if_pos (by omega)]; omega
    rw [decide_eq_true hd]
    (refine fork_in ?_; repeat' (refine fork_eq ?_ ?_<;>intro _<;>try simp (disch := first|assumption|omega) only [S0,rA,rQ,rB,rT,rE, *]))
   ·have e : szR l (szL sz_TRow xs) = -1 := by unfold szR; rw [show (szL sz_TRow xs) = xs.length + (xs.map sz_TRow).sum from rfl, if_neg (by omega)]
    rw [decide_eq_false hd]
    (refine fork_in ?_; repeat' (refine fork_eq ?_ ?_<;>intro _<;>try simp (disch := first|assumption|omega) only [S0,rA,rQ,rB,rT,rE, *]))
  ·intro i m hi hb hl hm hm' hf hr hd
   have hq := hw2 _ (at_mem hi)
   (refine fork_in ?_; repeat' (refine fork_eq ?_ ?_<;>intro _<;>try simp (disch := first|assumption|omega) only [S0,rA,rQ,rB,rT,rE,S_row,lsz_TRow, *]))
  ·intro i m hi hb hl hm hm' hf hr hd
   have hq := hw2 _ (at_mem hi)
   (refine fork_in ?_; repeat' (refine fork_eq ?_ ?_<;>intro _<;>try simp (disch := first|assumption|omega) only [S0,rA,rQ,rB,rT,rE,S_row,lsz_TRow, *]))
  ·intro m hl
   (refine fork_in ?_; repeat' (refine fork_eq ?_ ?_<;>intro _<;>try simp (disch := first|assumption|omega) only [S0,rA,rQ,rB,rT,rE, *]))
 ·have e : szR l (szL sz_TRow xs) = -1 := by unfold szR; rw [show (szL sz_TRow xs) = xs.length + (xs.map sz_TRow).sum from rfl, if_neg (by omega)]
  have d : decide (l - (xs.length : Int) < 0) = true := by simp; omega
  (refine fork_in ?_; repeat' (refine fork_eq ?_ ?_<;>intro _<;>try simp (disch := first|assumption|omega) only [S0,rA,rQ,rB,rT,rE, *]))
theorem lto_LTRow (xs : (List TRow)) (hs : szL sz_TRow xs <= 1048576) : Fun T 20 [rL xs] = some [rL xs] := by
 rw [Fun_k (t := tm20) rfl]; unfold tm20
 have hl : xs.length <= 1048576 := Nat.le_trans szL_len hs
 simp (disch := first|assumption|omega) only [S0,rA,rQ,rB,rT,rE, S_make, Int.toNat_natCast, *]
 rw [toLoop xs rfl]
 ·(refine fork_in ?_; repeat' (refine fork_eq ?_ ?_<;>intro _<;>try simp (disch := first|assumption|omega) only [S0,rA,rQ,rB,rT,rE, *]))
 ·intro i ys hi hb hb' hl'
  have hq : sz_TRow (atI xs i) <= 1048576 := by
   have := szL_mem (f := sz_TRow) (at_mem hi)
   omega
  (refine fork_in ?_; repeat' (refine fork_eq ?_ ?_<;>intro _<;>try simp (disch := first|assumption|omega) only [S0,rA,rQ,rB,rT,rE,S_row,S_set,lto_TRow, *]))
 ·intro ys hl'
  (refine fork_in ?_; repeat' (refine fork_eq ?_ ?_<;>intro _<;>try simp (disch := first|assumption|omega) only [S0,rA,rQ,rB,rT,rE, *]))
theorem leq_LTRow (xs ys : (List TRow)) (hs : szL sz_TRow xs <= 1099511627776) : Fun T 120 [rL xs, rL ys] = some [.bool (decide (xs = ys))] := by
 rw [Fun_k (t := tm120) rfl]; unfold tm120
 have hx : xs.length <= 1099511627776 := Nat.le_trans szL_len hs
 by_cases hl : ys.length = xs.length
 ·simp (disch := first|assumption|omega) only [S0,rA,rQ,rB,rT,rE, *]
  rw [scanX 1 xs.length (fun i => decide (atI xs i = atI ys i)) [.bool false], allB_eq hl.symm]
  ·(refine fork_in ?_; repeat' (refine fork_eq ?_ ?_<;>intro _<;>try simp (disch := first|assumption|omega) only [S0,rA,rQ,rB,rT,rE, *]))
  ·intro i hi hp
   have hb : InB xs (i : Int) := InB_nat.2 hi
   have hb' : InB ys (i : Int) := InB_nat.2 (by omega)
   have h2 : decide ((i : Int) < xs.length) = true := by simp; omega
   have hq : sz_TRow (atI xs i) <= 1099511627776 := by
    have := szL_mem (f := sz_TRow) (at_mem hi)
    omega
   (refine fork_in ?_; repeat' (refine fork_eq ?_ ?_<;>intro _<;>try simp (disch := first|assumption|omega) only [S0,rA,rQ,rB,rT,rE,S_row,leq_TRow, *]))
  ·intro i hi hp
   have hb : InB xs (i : Int) := InB_nat.2 hi
   have hb' : InB ys (i : Int) := InB_nat.2 (by omega)
   have h2 : decide ((i : Int) < xs.length) = true := by simp; omega
   have hq : sz_TRow (atI xs i) <= 1099511627776 := by
    have := szL_mem (f := sz_TRow) (at_mem hi)
    omega
   (refine fork_in ?_; repeat' (refine fork_eq ?_ ?_<;>intro _<;>try simp (disch := first|assumption|omega) only [S0,rA,rQ,rB,rT,rE,S_row,leq_TRow, *]))
  ·have h2 : decide ((xs.length : Int) < xs.length) = false := by simp
   (refine fork_in ?_; repeat' (refine fork_eq ?_ ?_<;>intro _<;>try simp (disch := first|assumption|omega) only [S0,rA,rQ,rB,rT,rE, *]))
 ·have hl' : ((xs.length : Int) == (ys.length : Int)) = false := by simp; omega
  have e := eq_len (fun h => hl h.symm)
  (refine fork_in ?_; repeat' (refine fork_eq ?_ ?_<;>intro _<;>try simp (disch := first|assumption|omega) only [S0,rA,rQ,rB,rT,rE, *]))
theorem lmk_LTRow (xs : (List TRow)) (k : Int) (hk : 0 <= k) (hb : k + (ctL ct_TRow xs : Nat) <= 1152921504606846976) (hl : szL sz_TRow xs <= 1099511627776) : Fun T 137 [rL xs, i64 k] = some [i64 (k + (ctL ct_TRow xs : Nat)), rL (mkL ct_TRow mk_TRow xs k)] := by
 rw [Fun_k (t := tm137) rfl]; unfold tm137
 have hx : xs.length <= 1099511627776 := Nat.le_trans szL_len hl
 simp (disch := first|assumption|omega) only [S0,rA,rQ,rB,rT,rE, *]
 rw [markLoop xs ct_TRow mk_TRow k rfl rfl rfl hk hb ?_ ?_ (by omega)]
 ·(refine fork_in ?_; repeat' (refine fork_eq ?_ ?_<;>intro _<;>try simp (disch := first|assumption|omega) only [S0,rA,rQ,rB,rT,rE, *]))
 ·intro i ys m hi hy hb hlt hat hm hc hlen
  have ec : m + 1 + 1 + 1 + 1 + 1 + 1 + 1 + 1 + 1 + (ctL (fun _ => 1) (atI xs (i : Int)).attr.deps : Nat) = m + (ct_TRow (atI xs i) : Nat) := by rw [ctu_TRow]; omega
  have hq : sz_TRow (atI xs i) <= 1099511627776 := by
   have := szL_mem (f := sz_TRow) (at_mem hi)
   omega
  rw [szu_TRow] at hq
  rw [ctu_TRow] at hc
  have hl__attr_deps : (atI xs i).attr.deps.length <= 1099511627776 := by omega
  (refine fork_in ?_; repeat' (refine fork_eq ?_ ?_<;>intro _<;>try simp (disch := first|assumption|omega|(simp only [S_upd]; assumption)) only [S0,rA,rQ,rB,rT,rE,S_row,S_set,S_upd,lmk_LI, *]))
  all_goals (try simp only [mk_TRow, ec])
 ·intro ys m hy hlt
  (refine fork_in ?_; repeat' (refine fork_eq ?_ ?_<;>intro _<;>try simp (disch := first|assumption|omega) only [S0,rA,rQ,rB,rT,rE, *]))
theorem lhd_LTRow (xs : (List TRow)) (k : Int) (hk : 0 <= k) (hb : k + (ctL ct_TRow xs : Nat) <= 1152921504606846976) (hl : szL sz_TRow xs <= 1099511627776) : Fun T 145 [rL (mkL ct_TRow mk_TRow xs k), i64 k] = some [i64 (k + (ctL ct_TRow xs : Nat))] := by
 rw [Fun_k (t := tm145) rfl]; unfold tm145
 have hx : xs.length <= 1099511627776 := Nat.le_trans szL_len hl
 simp (disch := first|assumption|omega) only [S0,rA,rQ,rB,rT,rE, *]
 rw [heldLoop xs ct_TRow mk_TRow k rfl hk hb (by omega)]
 ·(refine fork_in ?_; repeat' (refine fork_eq ?_ ?_<;>intro _<;>try simp (disch := first|assumption|omega) only [S0,rA,rQ,rB,rT,rE, *]))
 ·intro i m hi hb hy hlt hat hm hc hlen
  have ec : m + 1 + 1 + 1 + 1 + 1 + 1 + 1 + 1 + 1 + (ctL (fun _ => 1) (atI xs (i : Int)).attr.deps : Nat) = m + (ct_TRow (atI xs i) : Nat) := by rw [ctu_TRow]; omega
  have hq : sz_TRow (atI xs i) <= 1099511627776 := by
   have := szL_mem (f := sz_TRow) (at_mem hi)
   omega
  rw [szu_TRow] at hq
  rw [ctu_TRow] at hc
  have hl__attr_deps : (atI xs i).attr.deps.length <= 1099511627776 := by omega
  (refine fork_in ?_; repeat' (refine fork_eq ?_ ?_<;>intro _<;>try simp (disch := first|assumption|omega) only [S0,rA,rQ,rB,rT,rE,S_row,lhd_LI,mk_TRow,lt0, *]))
  all_goals (try simp only [ec])
 ·intro m hy hlt
  (refine fork_in ?_; repeat' (refine fork_eq ?_ ?_<;>intro _<;>try simp (disch := first|assumption|omega) only [S0,rA,rQ,rB,rT,rE, *]))
theorem lsz_LLTRow (xs : (List (List TRow))) (l : Int) (h0 : 0 <= l) (h1 : l <= 1048576) (hw : xs.length <= 140737488351232 /\ ∀ y0 ∈ xs, y0.length <= 140737488351232 /\ ∀ y1 ∈ y0, wf_TRow y1) : Fun T 5 [rL xs, i64 l] = some [i64 (szR l (szL (szL sz_TRow) xs))] := by
 rw [Fun_k (t := tm5) rfl]; unfold tm5
 obtain ⟨hw1, hw2⟩ := hw
 by_cases c : (xs.length : Int) <= l
 ·have d : decide (l - (xs.length : Int) < 0) = false := by simp; omega
  simp (disch := first|assumption|omega) only [S0,rA,rQ,rB,rT,rE, *]
  rw [szLoop xs (szL sz_TRow) (l - xs.length) rfl (by omega) (by omega)]
  ·by_cases hd : ((xs.map (szL sz_TRow)).sum : Int) <= l - xs.length
   ·have e : szR l (szL (szL sz_TRow) xs) = l - xs.length - ((xs.map (szL sz_TRow)).sum : Nat) := by unfold szR; rw [show (szL (szL sz_TRow) xs) = xs.length + (xs.map (szL sz_TRow)).sum from rfl, if_pos (by omega)]; omega
    rw [decide_eq_true hd]
    (refine fork_in ?_; repeat' (refine fork_eq ?_ ?_<;>intro _<;>try simp (disch := first|assumption|omega) only [S0,rA,rQ,rB,rT,rE, *]))
   ·have e : szR l (szL (szL sz_TRow) xs) = -1 := by unfold szR; rw [show (szL (szL sz_TRow) xs) = xs.length + (xs.map (szL sz_TRow)).sum from rfl, if_neg (by omega)]
    rw [decide_eq_false hd]
    (refine fork_in ?_; repeat' (refine fork_eq ?_ ?_<;>intro _<;>try simp (disch := first|assumption|omega) only [S0,rA,rQ,rB,rT,rE, *]))
  ·intro i m hi hb hl hm hm' hf hr hd
   have hq := hw2 _ (at_mem hi)
   (refine fork_in ?_; repeat' (refine fork_eq ?_ ?_<;>intro _<;>try simp (disch := first|assumption|omega) only [S0,rA,rQ,rB,rT,rE,S_row,lsz_LTRow, *]))
  ·intro i m hi hb hl hm hm' hf hr hd
   have hq := hw2 _ (at_mem hi)
   (refine fork_in ?_; repeat' (refine fork_eq ?_ ?_<;>intro _<;>try simp (disch := first|assumption|omega) only [S0,rA,rQ,rB,rT,rE,S_row,lsz_LTRow, *]))
  ·intro m hl
   (refine fork_in ?_; repeat' (refine fork_eq ?_ ?_<;>intro _<;>try simp (disch := first|assumption|omega) only [S0,rA,rQ,rB,rT,rE, *]))
 ·have e : szR l (szL (szL sz_TRow) xs) = -1 := by unfold szR; rw [show (szL (szL sz_TRow) xs) = xs.length + (xs.map (szL sz_TRow)).sum from rfl, if_neg (by omega)]
  have d : decide (l - (xs.length : Int) < 0) = true := by simp; omega
  (refine fork_in ?_; repeat' (refine fork_eq ?_ ?_<;>intro _<;>try simp (disch := first|assumption|omega) only [S0,rA,rQ,rB,rT,rE, *]))
theorem lto_LLTRow (xs : (List (List TRow))) (hs : szL (szL sz_TRow) xs <= 1048576) : Fun T 19 [rL xs] = some [rL xs] := by
 rw [Fun_k (t := tm19) rfl]; unfold tm19
 have hl : xs.length <= 1048576 := Nat.le_trans szL_len hs
 simp (disch := first|assumption|omega) only [S0,rA,rQ,rB,rT,rE, S_make, Int.toNat_natCast, *]
 rw [toLoop xs rfl]
 ·(refine fork_in ?_; repeat' (refine fork_eq ?_ ?_<;>intro _<;>try simp (disch := first|assumption|omega) only [S0,rA,rQ,rB,rT,rE, *]))
 ·intro i ys hi hb hb' hl'
  have hq : szL sz_TRow (atI xs i) <= 1048576 := by
   have := szL_mem (f := (szL sz_TRow)) (at_mem hi)
   omega
  (refine fork_in ?_; repeat' (refine fork_eq ?_ ?_<;>intro _<;>try simp (disch := first|assumption|omega) only [S0,rA,rQ,rB,rT,rE,S_row,S_set,lto_LTRow, *]))
 ·intro ys hl'
  (refine fork_in ?_; repeat' (refine fork_eq ?_ ?_<;>intro _<;>try simp (disch := first|assumption|omega) only [S0,rA,rQ,rB,rT,rE, *]))
theorem leq_LLTRow (xs ys : (List (List TRow))) (hs : szL (szL sz_TRow) xs <= 1099511627776) : Fun T 119 [rL xs, rL ys] = some [.bool (decide (xs = ys))] := by
 rw [Fun_k (t := tm119) rfl]; unfold tm119
 have hx : xs.length <= 1099511627776 := Nat.le_trans szL_len hs
 by_cases hl : ys.length = xs.length
 ·simp (disch := first|assumption|omega) only [S0,rA,rQ,rB,rT,rE, *]
  rw [scanX 1 xs.length (fun i => decide (atI xs i = atI ys i)) [.bool false], allB_eq hl.symm]
  ·(refine fork_in ?_; repeat' (refine fork_eq ?_ ?_<;>intro _<;>try simp (disch := first|assumption|omega) only [S0,rA,rQ,rB,rT,rE, *]))
  ·intro i hi hp
   have hb : InB xs (i : Int) := InB_nat.2 hi
   have hb' : InB ys (i : Int) := InB_nat.2 (by omega)
   have h2 : decide ((i : Int) < xs.length) = true := by simp; omega
   have hq : szL sz_TRow (atI xs i) <= 1099511627776 := by
    have := szL_mem (f := (szL sz_TRow)) (at_mem hi)
    omega
   (refine fork_in ?_; repeat' (refine fork_eq ?_ ?_<;>intro _<;>try simp (disch := first|assumption|omega) only [S0,rA,rQ,rB,rT,rE,S_row,leq_LTRow, *]))
  ·intro i hi hp
   have hb : InB xs (i : Int) := InB_nat.2 hi
   have hb' : InB ys (i : Int) := InB_nat.2 (by omega)
   have h2 : decide ((i : Int) < xs.length) = true := by simp; omega
   have hq : szL sz_TRow (atI xs i) <= 1099511627776 := by
    have := szL_mem (f := (szL sz_TRow)) (at_mem hi)
    omega
   (refine fork_in ?_; repeat' (refine fork_eq ?_ ?_<;>intro _<;>try simp (disch := first|assumption|omega) only [S0,rA,rQ,rB,rT,rE,S_row,leq_LTRow, *]))
  ·have h2 : decide ((xs.length : Int) < xs.length) = false := by simp
   (refine fork_in ?_; repeat' (refine fork_eq ?_ ?_<;>intro _<;>try simp (disch := first|assumption|omega) only [S0,rA,rQ,rB,rT,rE, *]))
 ·have hl' : ((xs.length : Int) == (ys.length : Int)) = false := by simp; omega
  have e := eq_len (fun h => hl h.symm)
  (refine fork_in ?_; repeat' (refine fork_eq ?_ ?_<;>intro _<;>try simp (disch := first|assumption|omega) only [S0,rA,rQ,rB,rT,rE, *]))
theorem lmk_LLTRow (xs : (List (List TRow))) (k : Int) (hk : 0 <= k) (hb : k + (ctL (ctL ct_TRow) xs : Nat) <= 1152921504606846976) (hl : szL (szL sz_TRow) xs <= 1099511627776) : Fun T 136 [rL xs, i64 k] = some [i64 (k + (ctL (ctL ct_TRow) xs : Nat)), rL (mkL (ctL ct_TRow) (mkL ct_TRow mk_TRow) xs k)] := by
 rw [Fun_k (t := tm136) rfl]; unfold tm136
 have hx : xs.length <= 1099511627776 := Nat.le_trans szL_len hl
 simp (disch := first|assumption|omega) only [S0,rA,rQ,rB,rT,rE, *]
 rw [markLoop xs (ctL ct_TRow) (mkL ct_TRow mk_TRow) k rfl rfl rfl hk hb ?_ ?_ (by omega)]
 ·(refine fork_in ?_; repeat' (refine fork_eq ?_ ?_<;>intro _<;>try simp (disch := first|assumption|omega) only [S0,rA,rQ,rB,rT,rE, *]))
 ·intro i ys m hi hy hb hlt hat hm hc hlen
  have hq : szL sz_TRow (atI xs i) <= 1099511627776 := by
   have := szL_mem (f := (szL sz_TRow)) (at_mem hi)
   omega
  (refine fork_in ?_; repeat' (refine fork_eq ?_ ?_<;>intro _<;>try simp (disch := first|assumption|omega|(simp only [S_upd]; assumption)) only [S0,rA,rQ,rB,rT,rE,S_row,S_set,S_upd,lmk_LTRow, *]))
 ·intro ys m hy hlt
  (refine fork_in ?_; repeat' (refine fork_eq ?_ ?_<;>intro _<;>try simp (disch := first|assumption|omega) only [S0,rA,rQ,rB,rT,rE, *]))
theorem lhd_LLTRow (xs : (List (List TRow))) (k : Int) (hk : 0 <= k) (hb : k + (ctL (ctL ct_TRow) xs : Nat) <= 1152921504606846976) (hl : szL (szL sz_TRow) xs <= 1099511627776) : Fun T 144 [rL (mkL (ctL ct_TRow) (mkL ct_TRow mk_TRow) xs k), i64 k] = some [i64 (k + (ctL (ctL ct_TRow) xs : Nat))] := by
 rw [Fun_k (t := tm144) rfl]; unfold tm144
 have hx : xs.length <= 1099511627776 := Nat.le_trans szL_len hl
 simp (disch := first|assumption|omega) only [S0,rA,rQ,rB,rT,rE, *]
 rw [heldLoop xs (ctL ct_TRow) (mkL ct_TRow mk_TRow) k rfl hk hb (by omega)]
 ·(refine fork_in ?_; repeat' (refine fork_eq ?_ ?_<;>intro _<;>try simp (disch := first|assumption|omega) only [S0,rA,rQ,rB,rT,rE, *]))
 ·intro i m hi hb hy hlt hat hm hc hlen
  have hq : szL sz_TRow (atI xs i) <= 1099511627776 := by
   have := szL_mem (f := (szL sz_TRow)) (at_mem hi)
   omega
  have hz : decide (m + (ctL ct_TRow (atI xs i) : Nat) < 0) = false := by simp; omega
  (refine fork_in ?_; repeat' (refine fork_eq ?_ ?_<;>intro _<;>try simp (disch := first|assumption|omega) only [S0,rA,rQ,rB,rT,rE,S_row,lhd_LTRow,lt0, *]))
 ·intro m hy hlt
  (refine fork_in ?_; repeat' (refine fork_eq ?_ ?_<;>intro _<;>try simp (disch := first|assumption|omega) only [S0,rA,rQ,rB,rT,rE, *]))
theorem lsz_TTable (x_n : Int) (x_rows : (List (List TRow))) (l : Int) (h0 : 0 <= l) (h1 : l <= 1048576) (hw : wf_TTable ⟨x_n, x_rows⟩) : Fun T 4 [i64 x_n, rL x_rows, i64 l] = some [i64 (szR l (sz_TTable ⟨x_n, x_rows⟩))] := by
 rw [Fun_k (t := tm4) rfl]; unfold tm4
 unfold wf_TTable at hw
 simp only at hw
 have w0 := hw
 by_cases c0 : ((szL (szL sz_TRow) x_rows : Nat) : Int) <= l
 rotate_left
 ·have e0 : szR (l) (szL (szL sz_TRow) x_rows) = -1 := if_neg c0
  have d0 : decide ((-1 : Int) < 0) = true := rfl
  have e : szR l (sz_TTable ⟨x_n, x_rows⟩) = -1 := by unfold szR sz_TTable; simp only []; split <;> omega
  (refine fork_in ?_; repeat' (refine fork_eq ?_ ?_<;>intro _<;>try simp (disch := first|assumption|omega) only [S0,rA,rQ,rB,rT,rE,lsz_LLTRow, *]))
 have e0 : szR (l) (szL (szL sz_TRow) x_rows) = l - (szL (szL sz_TRow) x_rows : Nat) := if_pos c0
 have d0 : decide (l - ((szL (szL sz_TRow) x_rows : Nat) : Int) < 0) = false := by simp; omega
 have e : szR l (sz_TTable ⟨x_n, x_rows⟩) = l - ((szL (szL sz_TRow) x_rows : Nat) : Int) := by unfold szR sz_TTable; simp only []; split <;> omega
 (refine fork_in ?_; repeat' (refine fork_eq ?_ ?_<;>intro _<;>try simp (disch := first|assumption|omega) only [S0,rA,rQ,rB,rT,rE,lsz_LLTRow, *]))
theorem lto_TTable (x_n : Int) (x_rows : (List (List TRow))) (hs : sz_TTable ⟨x_n, x_rows⟩ <= 1048576) : Fun T 18 [i64 x_n, rL x_rows] = some [i64 x_n, rL x_rows] := by
 rw [Fun_k (t := tm18) rfl]; unfold tm18
 unfold sz_TTable at hs
 simp only at hs
 have s0 : szL (szL sz_TRow) x_rows <= 1048576 := by omega
 (refine fork_in ?_; repeat' (refine fork_eq ?_ ?_<;>intro _<;>try simp (disch := first|assumption|omega) only [S0,rA,rQ,rB,rT,rE,lto_LLTRow, *]))
theorem leq_TTable (x_n : Int) (x_rows : (List (List TRow))) (y_n : Int) (y_rows : (List (List TRow))) (hs : sz_TTable ⟨x_n, x_rows⟩ <= 1099511627776) : Fun T 118 [i64 x_n, rL x_rows, i64 y_n, rL y_rows] = some [.bool (decide ((⟨x_n, x_rows⟩ : TTable) = ⟨y_n, y_rows⟩))] := by
 rw [Fun_k (t := tm118) rfl]; unfold tm118
 unfold sz_TTable at hs
 simp only at hs
 have s0 : szL (szL sz_TRow) x_rows <= 1099511627776 := by omega
 have e : decide ((⟨x_n, x_rows⟩ : TTable) = ⟨y_n, y_rows⟩) = ((x_n == y_n) && decide ((x_rows : (List (List TRow))) = y_rows)) := by
  simp only [TTable.mk.injEq, Bool.beq_eq_decide_eq, Bool.decide_and, Bool.and_assoc]
 rw [e]
 (refine fork_in ?_; repeat' (refine fork_eq ?_ ?_<;>intro _<;>try simp (disch := first|assumption|omega) only [S0,rA,rQ,rB,rT,rE,leq_LLTRow, *]))
theorem lmk_TTable (x_n : Int) (x_rows : (List (List TRow))) (k : Int) (hk : 0 <= k) (hb : k + (ctL (ctL ct_TRow) x_rows : Nat) <= 1152921504606846976) (hl0 : szL (szL sz_TRow) x_rows <= 1099511627776) : Fun T 142 [i64 x_n, rL x_rows, i64 k] = some [i64 (k + (ctL (ctL ct_TRow) x_rows : Nat)), rL (mkL (ctL ct_TRow) (mkL ct_TRow mk_TRow) x_rows (k))] := by
 rw [Fun_k (t := tm142) rfl]; unfold tm142
 (refine fork_in ?_; repeat' (refine fork_eq ?_ ?_<;>intro _<;>try simp (disch := first|assumption|omega) only [S0,rA,rQ,rB,rT,rE,lmk_LLTRow, *]))
theorem lhd_TTable (x_n : Int) (x_rows : (List (List TRow))) (k : Int) (hk : 0 <= k) (hb : k + (ctL (ctL ct_TRow) x_rows : Nat) <= 1152921504606846976) (hl0 : szL (szL sz_TRow) x_rows <= 1099511627776) : Fun T 143 [i64 x_n, rL (mkL (ctL ct_TRow) (mkL ct_TRow mk_TRow) x_rows (k)), i64 k] = some [i64 (k + (ctL (ctL ct_TRow) x_rows : Nat))] := by
 rw [Fun_k (t := tm143) rfl]; unfold tm143
 have z1 : decide (k + (ctL (ctL ct_TRow) x_rows : Nat) < 0) = false := by simp; omega
 (refine fork_in ?_; repeat' (refine fork_eq ?_ ?_<;>intro _<;>try simp (disch := first|assumption|omega) only [S0,rA,rQ,rB,rT,rE,lhd_LLTRow, *]))
theorem lsz_TLead (x_rep x_no x_ballot x_phase x_cmd_kind x_cmd_id x_cmd_src x_cmd_dst x_cmd_amt x_first_seq : Int) (x_first_deps : (List Int)) (x_attr_seq : Int) (x_attr_deps : (List Int)) (x_same : Bool) (x_who : (List Int)) (x_seen : (List TRow)) (l : Int) (h0 : 0 <= l) (h1 : l <= 1048576) (hw : wf_TLead ⟨x_rep, x_no, x_ballot, x_phase, ⟨x_cmd_kind, x_cmd_id, x_cmd_src, x_cmd_dst, x_cmd_amt⟩, ⟨x_first_seq, x_first_deps⟩, ⟨x_attr_seq, x_attr_deps⟩, x_same, x_who, x_seen⟩) : Fun T 11 [i64 x_rep, i64 x_no, i64 x_ballot, i64 x_phase, i64 x_cmd_kind, i64 x_cmd_id, i64 x_cmd_src, i64 x_cmd_dst, i64 x_cmd_amt, i64 x_first_seq, rL x_first_deps, i64 x_attr_seq, rL x_attr_deps, .bool x_same, rL x_who, rL x_seen, i64 l] = some [i64 (szR l (sz_TLead ⟨x_rep, x_no, x_ballot, x_phase, ⟨x_cmd_kind, x_cmd_id, x_cmd_src, x_cmd_dst, x_cmd_amt⟩, ⟨x_first_seq, x_first_deps⟩, ⟨x_attr_seq, x_attr_deps⟩, x_same, x_who, x_seen⟩))] := by
 rw [Fun_k (t := tm11) rfl]; unfold tm11
 unfold wf_TLead at hw
 simp only at hw
 obtain ⟨w0, w1, w2, w3⟩ := hw
 by_cases c0 : ((sz_TAttr ⟨x_first_seq, x_first_deps⟩ : Nat) : Int) <= l
 rotate_left
 ·have e0 : szR (l) (sz_TAttr ⟨x_first_seq, x_first_deps⟩) = -1 := if_neg c0
  have d0 : decide ((-1 : Int) < 0) = true := rfl
  have e : szR l (sz_TLead ⟨x_rep, x_no, x_ballot, x_phase, ⟨x_cmd_kind, x_cmd_id, x_cmd_src, x_cmd_dst, x_cmd_amt⟩, ⟨x_first_seq, x_first_deps⟩, ⟨x_attr_seq, x_attr_deps⟩, x_same, x_who, x_seen⟩) = -1 := by unfold szR sz_TLead; simp only []; split <;> omega
  (refine fork_in ?_; repeat' (refine fork_eq ?_ ?_<;>intro _<;>try simp (disch := first|assumption|omega) only [S0,rA,rQ,rB,rT,rE,lsz_TAttr,lsz_TAttr,lsz_LI,lsz_LTRow, *]))
 have e0 : szR (l) (sz_TAttr ⟨x_first_seq, x_first_deps⟩) = l - (sz_TAttr ⟨x_first_seq, x_first_deps⟩ : Nat) := if_pos c0
 have d0 : decide (l - ((sz_TAttr ⟨x_first_seq, x_first_deps⟩ : Nat) : Int) < 0) = false := by simp; omega
 by_cases c1 : ((sz_TAttr ⟨x_attr_seq, x_attr_deps⟩ : Nat) : Int) <= l - ((sz_TAttr ⟨x_first_seq, x_first_deps⟩ : Nat) : Int)
 rotate_left
 ·have e1 : szR (l - ((sz_TAttr ⟨x_first_seq, x_first_deps⟩ : Nat) : Int)) (sz_TAttr ⟨x_attr_seq, x_attr_deps⟩) = -1 := if_neg c1
  have d1 : decide ((-1 : Int) < 0) = true := rfl
  have e : szR l (sz_TLead ⟨x_rep, x_no, x_ballot, x_phase, ⟨x_cmd_kind, x_cmd_id, x_cmd_src, x_cmd_dst, x_cmd_amt⟩, ⟨x_first_seq, x_first_deps⟩, ⟨x_attr_seq, x_attr_deps⟩, x_same, x_who, x_seen⟩) = -1 := by unfold szR sz_TLead; simp only []; split <;> omega
  (refine fork_in ?_; repeat' (refine fork_eq ?_ ?_<;>intro _<;>try simp (disch := first|assumption|omega) only [S0,rA,rQ,rB,rT,rE,lsz_TAttr,lsz_TAttr,lsz_LI,lsz_LTRow, *]))
 have e1 : szR (l - ((sz_TAttr ⟨x_first_seq, x_first_deps⟩ : Nat) : Int)) (sz_TAttr ⟨x_attr_seq, x_attr_deps⟩) = l - ((sz_TAttr ⟨x_first_seq, x_first_deps⟩ : Nat) : Int) - (sz_TAttr ⟨x_attr_seq, x_attr_deps⟩ : Nat) := if_pos c1
 have d1 : decide (l - ((sz_TAttr ⟨x_first_seq, x_first_deps⟩ : Nat) : Int) - ((sz_TAttr ⟨x_attr_seq, x_attr_deps⟩ : Nat) : Int) < 0) = false := by simp; omega
 by_cases c2 : ((szL (fun _ => 0) x_who : Nat) : Int) <= l - ((sz_TAttr ⟨x_first_seq, x_first_deps⟩ : Nat) : Int) - ((sz_TAttr ⟨x_attr_seq, x_attr_deps⟩ : Nat) : Int)
 rotate_left
 ·have e2 : szR (l - ((sz_TAttr ⟨x_first_seq, x_first_deps⟩ : Nat) : Int) - ((sz_TAttr ⟨x_attr_seq, x_attr_deps⟩ : Nat) : Int)) (szL (fun _ => 0) x_who) = -1 := if_neg c2
  have d2 : decide ((-1 : Int) < 0) = true := rfl
  have e : szR l (sz_TLead ⟨x_rep, x_no, x_ballot, x_phase, ⟨x_cmd_kind, x_cmd_id, x_cmd_src, x_cmd_dst, x_cmd_amt⟩, ⟨x_first_seq, x_first_deps⟩, ⟨x_attr_seq, x_attr_deps⟩, x_same, x_who, x_seen⟩) = -1 := by unfold szR sz_TLead; simp only []; split <;> omega
  (refine fork_in ?_; repeat' (refine fork_eq ?_ ?_<;>intro _<;>try simp (disch := first|assumption|omega) only [S0,rA,rQ,rB,rT,rE,lsz_TAttr,lsz_TAttr,lsz_LI,lsz_LTRow, *]))
 have e2 : szR (l - ((sz_TAttr ⟨x_first_seq, x_first_deps⟩ : Nat) : Int) - ((sz_TAttr ⟨x_attr_seq, x_attr_deps⟩ : Nat) : Int)) (szL (fun _ => 0) x_who) = l - ((sz_TAttr ⟨x_first_seq, x_first_deps⟩ : Nat) : Int) - ((sz_TAttr ⟨x_attr_seq, x_attr_deps⟩ : Nat) : Int) - (szL (fun _ => 0) x_who : Nat) := if_pos c2
 have d2 : decide (l - ((sz_TAttr ⟨x_first_seq, x_first_deps⟩ : Nat) : Int) - ((sz_TAttr ⟨x_attr_seq, x_attr_deps⟩ : Nat) : Int) - ((szL (fun _ => 0) x_who : Nat) : Int) < 0) = false := by simp; omega
 by_cases c3 : ((szL sz_TRow x_seen : Nat) : Int) <= l - ((sz_TAttr ⟨x_first_seq, x_first_deps⟩ : Nat) : Int) - ((sz_TAttr ⟨x_attr_seq, x_attr_deps⟩ : Nat) : Int) - ((szL (fun _ => 0) x_who : Nat) : Int)
 rotate_left
 ·have e3 : szR (l - ((sz_TAttr ⟨x_first_seq, x_first_deps⟩ : Nat) : Int) - ((sz_TAttr ⟨x_attr_seq, x_attr_deps⟩ : Nat) : Int) - ((szL (fun _ => 0) x_who : Nat) : Int)) (szL sz_TRow x_seen) = -1 := if_neg c3
  have d3 : decide ((-1 : Int) < 0) = true := rfl
  have e : szR l (sz_TLead ⟨x_rep, x_no, x_ballot, x_phase, ⟨x_cmd_kind, x_cmd_id, x_cmd_src, x_cmd_dst, x_cmd_amt⟩, ⟨x_first_seq, x_first_deps⟩, ⟨x_attr_seq, x_attr_deps⟩, x_same, x_who, x_seen⟩) = -1 := by unfold szR sz_TLead; simp only []; split <;> omega
  (refine fork_in ?_; repeat' (refine fork_eq ?_ ?_<;>intro _<;>try simp (disch := first|assumption|omega) only [S0,rA,rQ,rB,rT,rE,lsz_TAttr,lsz_TAttr,lsz_LI,lsz_LTRow, *]))
 have e3 : szR (l - ((sz_TAttr ⟨x_first_seq, x_first_deps⟩ : Nat) : Int) - ((sz_TAttr ⟨x_attr_seq, x_attr_deps⟩ : Nat) : Int) - ((szL (fun _ => 0) x_who : Nat) : Int)) (szL sz_TRow x_seen) = l - ((sz_TAttr ⟨x_first_seq, x_first_deps⟩ : Nat) : Int) - ((sz_TAttr ⟨x_attr_seq, x_attr_deps⟩ : Nat) : Int) - ((szL (fun _ => 0) x_who : Nat) : Int) - (szL sz_TRow x_seen : Nat) := if_pos c3
 have d3 : decide (l - ((sz_TAttr ⟨x_first_seq, x_first_deps⟩ : Nat) : Int) - ((sz_TAttr ⟨x_attr_seq, x_attr_deps⟩ : Nat) : Int) - ((szL (fun _ => 0) x_who : Nat) : Int) - ((szL sz_TRow x_seen : Nat) : Int) < 0) = false := by simp; omega
 have e : szR l (sz_TLead ⟨x_rep, x_no, x_ballot, x_phase, ⟨x_cmd_kind, x_cmd_id, x_cmd_src, x_cmd_dst, x_cmd_amt⟩, ⟨x_first_seq, x_first_deps⟩, ⟨x_attr_seq, x_attr_deps⟩, x_same, x_who, x_seen⟩) = l - ((sz_TAttr ⟨x_first_seq, x_first_deps⟩ : Nat) : Int) - ((sz_TAttr ⟨x_attr_seq, x_attr_deps⟩ : Nat) : Int) - ((szL (fun _ => 0) x_who : Nat) : Int) - ((szL sz_TRow x_seen : Nat) : Int) := by unfold szR sz_TLead; simp only []; split <;> omega
 (refine fork_in ?_; repeat' (refine fork_eq ?_ ?_<;>intro _<;>try simp (disch := first|assumption|omega) only [S0,rA,rQ,rB,rT,rE,lsz_TAttr,lsz_TAttr,lsz_LI,lsz_LTRow, *]))
theorem lto_TLead (x_rep x_no x_ballot x_phase x_cmd_kind x_cmd_id x_cmd_src x_cmd_dst x_cmd_amt x_first_seq : Int) (x_first_deps : (List Int)) (x_attr_seq : Int) (x_attr_deps : (List Int)) (x_same : Bool) (x_who : (List Int)) (x_seen : (List TRow)) (hs : sz_TLead ⟨x_rep, x_no, x_ballot, x_phase, ⟨x_cmd_kind, x_cmd_id, x_cmd_src, x_cmd_dst, x_cmd_amt⟩, ⟨x_first_seq, x_first_deps⟩, ⟨x_attr_seq, x_attr_deps⟩, x_same, x_who, x_seen⟩ <= 1048576) : Fun T 26 [i64 x_rep, i64 x_no, i64 x_ballot, i64 x_phase, i64 x_cmd_kind, i64 x_cmd_id, i64 x_cmd_src, i64 x_cmd_dst, i64 x_cmd_amt, i64 x_first_seq, rL x_first_deps, i64 x_attr_seq, rL x_attr_deps, .bool x_same, rL x_who, rL x_seen] = some [i64 x_rep, i64 x_no, i64 x_ballot, i64 x_phase, i64 x_cmd_kind, i64 x_cmd_id, i64 x_cmd_src, i64 x_cmd_dst, i64 x_cmd_amt, i64 x_first_seq, rL x_first_deps, i64 x_attr_seq, rL x_attr_deps, .bool x_same, rL x_who, rL x_seen] := by
 rw [Fun_k (t := tm26) rfl]; unfold tm26
 unfold sz_TLead at hs
 simp only at hs
 have s0 : sz_TAttr ⟨x_first_seq, x_first_deps⟩ <= 1048576 := by omega
 have s1 : sz_TAttr ⟨x_attr_seq, x_attr_deps⟩ <= 1048576 := by omega
 have s2 : szL (fun _ => 0) x_who <= 1048576 := by omega
 have s3 : szL sz_TRow x_seen <= 1048576 := by omega
 (refine fork_in ?_; repeat' (refine fork_eq ?_ ?_<;>intro _<;>try simp (disch := first|assumption|omega) only [S0,rA,rQ,rB,rT,rE,lto_TCmd,lto_TAttr,lto_LI,lto_LTRow, *]))
theorem leq_TLead (x_rep x_no x_ballot x_phase x_cmd_kind x_cmd_id x_cmd_src x_cmd_dst x_cmd_amt x_first_seq : Int) (x_first_deps : (List Int)) (x_attr_seq : Int) (x_attr_deps : (List Int)) (x_same : Bool) (x_who : (List Int)) (x_seen : (List TRow)) (y_rep y_no y_ballot y_phase y_cmd_kind y_cmd_id y_cmd_src y_cmd_dst y_cmd_amt y_first_seq : Int) (y_first_deps : (List Int)) (y_attr_seq : Int) (y_attr_deps : (List Int)) (y_same : Bool) (y_who : (List Int)) (y_seen : (List TRow)) (hs : sz_TLead ⟨x_rep, x_no, x_ballot, x_phase, ⟨x_cmd_kind, x_cmd_id, x_cmd_src, x_cmd_dst, x_cmd_amt⟩, ⟨x_first_seq, x_first_deps⟩, ⟨x_attr_seq, x_attr_deps⟩, x_same, x_who, x_seen⟩ <= 1099511627776) : Fun T 129 [i64 x_rep, i64 x_no, i64 x_ballot, i64 x_phase, i64 x_cmd_kind, i64 x_cmd_id, i64 x_cmd_src, i64 x_cmd_dst, i64 x_cmd_amt, i64 x_first_seq, rL x_first_deps, i64 x_attr_seq, rL x_attr_deps, .bool x_same, rL x_who, rL x_seen, i64 y_rep, i64 y_no, i64 y_ballot, i64 y_phase, i64 y_cmd_kind, i64 y_cmd_id, i64 y_cmd_src, i64 y_cmd_dst, i64 y_cmd_amt, i64 y_first_seq, rL y_first_deps, i64 y_attr_seq, rL y_attr_deps, .bool y_same, rL y_who, rL y_seen] = some [.bool (decide ((⟨x_rep, x_no, x_ballot, x_phase, ⟨x_cmd_kind, x_cmd_id, x_cmd_src, x_cmd_dst, x_cmd_amt⟩, ⟨x_first_seq, x_first_deps⟩, ⟨x_attr_seq, x_attr_deps⟩, x_same, x_who, x_seen⟩ : TLead) = ⟨y_rep, y_no, y_ballot, y_phase, ⟨y_cmd_kind, y_cmd_id, y_cmd_src, y_cmd_dst, y_cmd_amt⟩, ⟨y_first_seq, y_first_deps⟩, ⟨y_attr_seq, y_attr_deps⟩, y_same, y_who, y_seen⟩))] := by
 rw [Fun_k (t := tm129) rfl]; unfold tm129
 unfold sz_TLead at hs
 simp only at hs
 have s0 : sz_TAttr ⟨x_first_seq, x_first_deps⟩ <= 1099511627776 := by omega
 have s1 : sz_TAttr ⟨x_attr_seq, x_attr_deps⟩ <= 1099511627776 := by omega
 have s2 : szL (fun _ => 0) x_who <= 1099511627776 := by omega
 have s3 : szL sz_TRow x_seen <= 1099511627776 := by omega
 have e : decide ((⟨x_rep, x_no, x_ballot, x_phase, ⟨x_cmd_kind, x_cmd_id, x_cmd_src, x_cmd_dst, x_cmd_amt⟩, ⟨x_first_seq, x_first_deps⟩, ⟨x_attr_seq, x_attr_deps⟩, x_same, x_who, x_seen⟩ : TLead) = ⟨y_rep, y_no, y_ballot, y_phase, ⟨y_cmd_kind, y_cmd_id, y_cmd_src, y_cmd_dst, y_cmd_amt⟩, ⟨y_first_seq, y_first_deps⟩, ⟨y_attr_seq, y_attr_deps⟩, y_same, y_who, y_seen⟩) = ((x_rep == y_rep) && (x_no == y_no) && (x_ballot == y_ballot) && (x_phase == y_phase) && decide ((⟨x_cmd_kind, x_cmd_id, x_cmd_src, x_cmd_dst, x_cmd_amt⟩ : TCmd) = ⟨y_cmd_kind, y_cmd_id, y_cmd_src, y_cmd_dst, y_cmd_amt⟩) && decide ((⟨x_first_seq, x_first_deps⟩ : TAttr) = ⟨y_first_seq, y_first_deps⟩) && decide ((⟨x_attr_seq, x_attr_deps⟩ : TAttr) = ⟨y_attr_seq, y_attr_deps⟩) && (x_same == y_same) && decide ((x_who : (List Int)) = y_who) && decide ((x_seen : (List TRow)) = y_seen)) := by
  simp only [TLead.mk.injEq, Bool.beq_eq_decide_eq, Bool.decide_and, Bool.and_assoc]
 rw [e]
 (refine fork_in ?_; repeat' (refine fork_eq ?_ ?_<;>intro _<;>try simp (disch := first|assumption|omega) only [S0,rA,rQ,rB,rT,rE,leq_TCmd,leq_TAttr,leq_LI,leq_LTRow, *]))
theorem lsz_LTLead (xs : (List TLead)) (l : Int) (h0 : 0 <= l) (h1 : l <= 1048576) (hw : xs.length <= 140737488351232 /\ ∀ y0 ∈ xs, wf_TLead y0) : Fun T 10 [rL xs, i64 l] = some [i64 (szR l (szL sz_TLead xs))] := by
 rw [Fun_k (t := tm10) rfl]; unfold tm10
 obtain ⟨hw1, hw2⟩ := hw
 by_cases c : (xs.length : Int) <= l
 ·have d : decide (l - (xs.length : Int) < 0) = false := by simp; omega
  simp (disch := first|assumption|omega) only [S0,rA,rQ,rB,rT,rE, *]
  rw [szLoop xs sz_TLead (l - xs.length) rfl (by omega) (by omega)]
  ·by_cases hd : ((xs.map sz_TLead).sum : Int) <= l - xs.length
   ·have e : szR l (szL sz_TLead xs) = l - xs.length - ((xs.map sz_TLead).sum : Nat) := by unfold szR; rw [show (szL sz_TLead xs) = xs.length + (xs.map sz_TLead).sum from rfl, if_pos (by omega)]; omega
    rw [decide_eq_true hd]
    (refine fork_in ?_; repeat' (refine fork_eq ?_ ?_<;>intro _<;>try simp (disch := first|assumption|omega) only [S0,rA,rQ,rB,rT,rE, *]))
   ·have e : szR l (szL sz_TLead xs) = -1 := by unfold szR; rw [show (szL sz_TLead xs) = xs.length + (xs.map sz_TLead).sum from rfl, if_neg (by omega)]
    rw [decide_eq_false hd]
    (refine fork_in ?_; repeat' (refine fork_eq ?_ ?_<;>intro _<;>try simp (disch := first|assumption|omega) only [S0,rA,rQ,rB,rT,rE, *]))
  ·intro i m hi hb hl hm hm' hf hr hd
   have hq := hw2 _ (at_mem hi)
   (refine fork_in ?_; repeat' (refine fork_eq ?_ ?_<;>intro _<;>try simp (disch := first|assumption|omega) only [S0,rA,rQ,rB,rT,rE,S_row,lsz_TLead, *]))
  ·intro i m hi hb hl hm hm' hf hr hd
   have hq := hw2 _ (at_mem hi)
   (refine fork_in ?_; repeat' (refine fork_eq ?_ ?_<;>intro _<;>try simp (disch := first|assumption|omega) only [S0,rA,rQ,rB,rT,rE,S_row,lsz_TLead, *]))
  ·intro m hl
   (refine fork_in ?_; repeat' (refine fork_eq ?_ ?_<;>intro _<;>try simp (disch := first|assumption|omega) only [S0,rA,rQ,rB,rT,rE, *]))
 ·have e : szR l (szL sz_TLead xs) = -1 := by unfold szR; rw [show (szL sz_TLead xs) = xs.length + (xs.map sz_TLead).sum from rfl, if_neg (by omega)]
  have d : decide (l - (xs.length : Int) < 0) = true := by simp; omega
  (refine fork_in ?_; repeat' (refine fork_eq ?_ ?_<;>intro _<;>try simp (disch := first|assumption|omega) only [S0,rA,rQ,rB,rT,rE, *]))
theorem lto_LTLead (xs : (List TLead)) (hs : szL sz_TLead xs <= 1048576) : Fun T 25 [rL xs] = some [rL xs] := by
 rw [Fun_k (t := tm25) rfl]; unfold tm25
 have hl : xs.length <= 1048576 := Nat.le_trans szL_len hs
 simp (disch := first|assumption|omega) only [S0,rA,rQ,rB,rT,rE, S_make, Int.toNat_natCast, *]
 rw [toLoop xs rfl]
 ·(refine fork_in ?_; repeat' (refine fork_eq ?_ ?_<;>intro _<;>try simp (disch := first|assumption|omega) only [S0,rA,rQ,rB,rT,rE, *]))
 ·intro i ys hi hb hb' hl'
  have hq : sz_TLead (atI xs i) <= 1048576 := by
   have := szL_mem (f := sz_TLead) (at_mem hi)
   omega
  (refine fork_in ?_; repeat' (refine fork_eq ?_ ?_<;>intro _<;>try simp (disch := first|assumption|omega) only [S0,rA,rQ,rB,rT,rE,S_row,S_set,lto_TLead, *]))
 ·intro ys hl'
  (refine fork_in ?_; repeat' (refine fork_eq ?_ ?_<;>intro _<;>try simp (disch := first|assumption|omega) only [S0,rA,rQ,rB,rT,rE, *]))
theorem leq_LTLead (xs ys : (List TLead)) (hs : szL sz_TLead xs <= 1099511627776) : Fun T 128 [rL xs, rL ys] = some [.bool (decide (xs = ys))] := by
 rw [Fun_k (t := tm128) rfl]; unfold tm128
 have hx : xs.length <= 1099511627776 := Nat.le_trans szL_len hs
 by_cases hl : ys.length = xs.length
 ·simp (disch := first|assumption|omega) only [S0,rA,rQ,rB,rT,rE, *]
  rw [scanX 1 xs.length (fun i => decide (atI xs i = atI ys i)) [.bool false], allB_eq hl.symm]
  ·(refine fork_in ?_; repeat' (refine fork_eq ?_ ?_<;>intro _<;>try simp (disch := first|assumption|omega) only [S0,rA,rQ,rB,rT,rE, *]))
  ·intro i hi hp
   have hb : InB xs (i : Int) := InB_nat.2 hi
   have hb' : InB ys (i : Int) := InB_nat.2 (by omega)
   have h2 : decide ((i : Int) < xs.length) = true := by simp; omega
   have hq : sz_TLead (atI xs i) <= 1099511627776 := by
    have := szL_mem (f := sz_TLead) (at_mem hi)
    omega
   (refine fork_in ?_; repeat' (refine fork_eq ?_ ?_<;>intro _<;>try simp (disch := first|assumption|omega) only [S0,rA,rQ,rB,rT,rE,S_row,leq_TLead, *]))
  ·intro i hi hp
   have hb : InB xs (i : Int) := InB_nat.2 hi
   have hb' : InB ys (i : Int) := InB_nat.2 (by omega)
   have h2 : decide ((i : Int) < xs.length) = true := by simp; omega
   have hq : sz_TLead (atI xs i) <= 1099511627776 := by
    have := szL_mem (f := sz_TLead) (at_mem hi)
    omega
   (refine fork_in ?_; repeat' (refine fork_eq ?_ ?_<;>intro _<;>try simp (disch := first|assumption|omega) only [S0,rA,rQ,rB,rT,rE,S_row,leq_TLead, *]))
  ·have h2 : decide ((xs.length : Int) < xs.length) = false := by simp
   (refine fork_in ?_; repeat' (refine fork_eq ?_ ?_<;>intro _<;>try simp (disch := first|assumption|omega) only [S0,rA,rQ,rB,rT,rE, *]))
 ·have hl' : ((xs.length : Int) == (ys.length : Int)) = false := by simp; omega
  have e := eq_len (fun h => hl h.symm)
  (refine fork_in ?_; repeat' (refine fork_eq ?_ ?_<;>intro _<;>try simp (disch := first|assumption|omega) only [S0,rA,rQ,rB,rT,rE, *]))
theorem lmk_LTLead (xs : (List TLead)) (k : Int) (hk : 0 <= k) (hb : k + (ctL ct_TLead xs : Nat) <= 1152921504606846976) (hl : szL sz_TLead xs <= 1099511627776) : Fun T 139 [rL xs, i64 k] = some [i64 (k + (ctL ct_TLead xs : Nat)), rL (mkL ct_TLead mk_TLead xs k)] := by
 rw [Fun_k (t := tm139) rfl]; unfold tm139
 have hx : xs.length <= 1099511627776 := Nat.le_trans szL_len hl
 simp (disch := first|assumption|omega) only [S0,rA,rQ,rB,rT,rE, *]
 rw [markLoop xs ct_TLead mk_TLead k rfl rfl rfl hk hb ?_ ?_ (by omega)]
 ·(refine fork_in ?_; repeat' (refine fork_eq ?_ ?_<;>intro _<;>try simp (disch := first|assumption|omega) only [S0,rA,rQ,rB,rT,rE, *]))
 ·intro i ys m hi hy hb hlt hat hm hc hlen
  have ec : m + 1 + 1 + 1 + 1 + 1 + 1 + 1 + 1 + 1 + 1 + (ctL (fun _ => 1) (atI xs (i : Int)).first.deps : Nat) + 1 + (ctL (fun _ => 1) (atI xs (i : Int)).attr.deps : Nat) + 1 + (ctL (fun _ => 1) (atI xs (i : Int)).who : Nat) + (ctL ct_TRow (atI xs (i : Int)).seen : Nat) = m + (ct_TLead (atI xs i) : Nat) := by rw [ctu_TLead]; omega
  have hq : sz_TLead (atI xs i) <= 1099511627776 := by
   have := szL_mem (f := sz_TLead) (at_mem hi)
   omega
  rw [szu_TLead] at hq
  rw [ctu_TLead] at hc
  have hl__first_deps : (atI xs i).first.deps.length <= 1099511627776 := by omega
  have hl__attr_deps : (atI xs i).attr.deps.length <= 1099511627776 := by omega
  have hl__who : (atI xs i).who.length <= 1099511627776 := by omega
  have hl__seen : szL sz_TRow (atI xs i).seen <= 1099511627776 := by omega
  (refine fork_in ?_; repeat' (refine fork_eq ?_ ?_<;>intro _<;>try simp (disch := first|assumption|omega|(simp only [S_upd]; assumption)) only [S0,rA,rQ,rB,rT,rE,S_row,S_set,S_upd,lmk_LI,lmk_LTRow, *]))
  all_goals (try simp only [mk_TLead, ec])
 ·intro ys m hy hlt
  (refine fork_in ?_; repeat' (refine fork_eq ?_ ?_<;>intro _<;>try simp (disch := first|assumption|omega) only [S0,rA,rQ,rB,rT,rE, *]))
theorem lsz_TRep (x_me x_table_n : Int) (x_table_rows : (List (List TRow))) (x_leads : (List TLead)) (l : Int) (h0 : 0 <= l) (h1 : l <= 1048576) (hw : wf_TRep ⟨x_me, ⟨x_table_n, x_table_rows⟩, x_leads⟩) : Fun T 3 [i64 x_me, i64 x_table_n, rL x_table_rows, rL x_leads, i64 l] = some [i64 (szR l (sz_TRep ⟨x_me, ⟨x_table_n, x_table_rows⟩, x_leads⟩))] := by
 rw [Fun_k (t := tm3) rfl]; unfold tm3
 unfold wf_TRep at hw
 simp only at hw
 obtain ⟨w0, w1⟩ := hw
 by_cases c0 : ((sz_TTable ⟨x_table_n, x_table_rows⟩ : Nat) : Int) <= l
 rotate_left
 ·have e0 : szR (l) (sz_TTable ⟨x_table_n, x_table_rows⟩) = -1 := if_neg c0
  have d0 : decide ((-1 : Int) < 0) = true := rfl
  have e : szR l (sz_TRep ⟨x_me, ⟨x_table_n, x_table_rows⟩, x_leads⟩) = -1 := by unfold szR sz_TRep; simp only []; split <;> omega
  (refine fork_in ?_; repeat' (refine fork_eq ?_ ?_<;>intro _<;>try simp (disch := first|assumption|omega) only [S0,rA,rQ,rB,rT,rE,lsz_TTable,lsz_LTLead, *]))
 have e0 : szR (l) (sz_TTable ⟨x_table_n, x_table_rows⟩) = l - (sz_TTable ⟨x_table_n, x_table_rows⟩ : Nat) := if_pos c0
 have d0 : decide (l - ((sz_TTable ⟨x_table_n, x_table_rows⟩ : Nat) : Int) < 0) = false := by simp; omega
 by_cases c1 : ((szL sz_TLead x_leads : Nat) : Int) <= l - ((sz_TTable ⟨x_table_n, x_table_rows⟩ : Nat) : Int)
 rotate_left
 ·have e1 : szR (l - ((sz_TTable ⟨x_table_n, x_table_rows⟩ : Nat) : Int)) (szL sz_TLead x_leads) = -1 := if_neg c1
  have d1 : decide ((-1 : Int) < 0) = true := rfl
  have e : szR l (sz_TRep ⟨x_me, ⟨x_table_n, x_table_rows⟩, x_leads⟩) = -1 := by unfold szR sz_TRep; simp only []; split <;> omega
  (refine fork_in ?_; repeat' (refine fork_eq ?_ ?_<;>intro _<;>try simp (disch := first|assumption|omega) only [S0,rA,rQ,rB,rT,rE,lsz_TTable,lsz_LTLead, *]))
 have e1 : szR (l - ((sz_TTable ⟨x_table_n, x_table_rows⟩ : Nat) : Int)) (szL sz_TLead x_leads) = l - ((sz_TTable ⟨x_table_n, x_table_rows⟩ : Nat) : Int) - (szL sz_TLead x_leads : Nat) := if_pos c1
 have d1 : decide (l - ((sz_TTable ⟨x_table_n, x_table_rows⟩ : Nat) : Int) - ((szL sz_TLead x_leads : Nat) : Int) < 0) = false := by simp; omega
 have e : szR l (sz_TRep ⟨x_me, ⟨x_table_n, x_table_rows⟩, x_leads⟩) = l - ((sz_TTable ⟨x_table_n, x_table_rows⟩ : Nat) : Int) - ((szL sz_TLead x_leads : Nat) : Int) := by unfold szR sz_TRep; simp only []; split <;> omega
 (refine fork_in ?_; repeat' (refine fork_eq ?_ ?_<;>intro _<;>try simp (disch := first|assumption|omega) only [S0,rA,rQ,rB,rT,rE,lsz_TTable,lsz_LTLead, *]))
theorem lto_TRep (x_me x_table_n : Int) (x_table_rows : (List (List TRow))) (x_leads : (List TLead)) (hs : sz_TRep ⟨x_me, ⟨x_table_n, x_table_rows⟩, x_leads⟩ <= 1048576) : Fun T 17 [i64 x_me, i64 x_table_n, rL x_table_rows, rL x_leads] = some [i64 x_me, i64 x_table_n, rL x_table_rows, rL x_leads] := by
 rw [Fun_k (t := tm17) rfl]; unfold tm17
 unfold sz_TRep at hs
 simp only at hs
 have s0 : sz_TTable ⟨x_table_n, x_table_rows⟩ <= 1048576 := by omega
 have s1 : szL sz_TLead x_leads <= 1048576 := by omega
 (refine fork_in ?_; repeat' (refine fork_eq ?_ ?_<;>intro _<;>try simp (disch := first|assumption|omega) only [S0,rA,rQ,rB,rT,rE,lto_TTable,lto_LTLead, *]))
theorem leq_TRep (x_me x_table_n : Int) (x_table_rows : (List (List TRow))) (x_leads : (List TLead)) (y_me y_table_n : Int) (y_table_rows : (List (List TRow))) (y_leads : (List TLead)) (hs : sz_TRep ⟨x_me, ⟨x_table_n, x_table_rows⟩, x_leads⟩ <= 1099511627776) : Fun T 127 [i64 x_me, i64 x_table_n, rL x_table_rows, rL x_leads, i64 y_me, i64 y_table_n, rL y_table_rows, rL y_leads] = some [.bool (decide ((⟨x_me, ⟨x_table_n, x_table_rows⟩, x_leads⟩ : TRep) = ⟨y_me, ⟨y_table_n, y_table_rows⟩, y_leads⟩))] := by
 rw [Fun_k (t := tm127) rfl]; unfold tm127
 unfold sz_TRep at hs
 simp only at hs
 have s0 : sz_TTable ⟨x_table_n, x_table_rows⟩ <= 1099511627776 := by omega
 have s1 : szL sz_TLead x_leads <= 1099511627776 := by omega
 have e : decide ((⟨x_me, ⟨x_table_n, x_table_rows⟩, x_leads⟩ : TRep) = ⟨y_me, ⟨y_table_n, y_table_rows⟩, y_leads⟩) = ((x_me == y_me) && decide ((⟨x_table_n, x_table_rows⟩ : TTable) = ⟨y_table_n, y_table_rows⟩) && decide ((x_leads : (List TLead)) = y_leads)) := by
  simp only [TRep.mk.injEq, Bool.beq_eq_decide_eq, Bool.decide_and, Bool.and_assoc]
 rw [e]
 (refine fork_in ?_; repeat' (refine fork_eq ?_ ?_<;>intro _<;>try simp (disch := first|assumption|omega) only [S0,rA,rQ,rB,rT,rE,leq_TTable,leq_LTLead, *]))
theorem lsz_LTRep (xs : (List TRep)) (l : Int) (h0 : 0 <= l) (h1 : l <= 1048576) (hw : xs.length <= 140737488351232 /\ ∀ y0 ∈ xs, wf_TRep y0) : Fun T 2 [rL xs, i64 l] = some [i64 (szR l (szL sz_TRep xs))] := by
 rw [Fun_k (t := tm2) rfl]; unfold tm2
 obtain ⟨hw1, hw2⟩ := hw
 by_cases c : (xs.length : Int) <= l
 ·have d : decide (l - (xs.length : Int) < 0) = false := by simp; omega
  simp (disch := first|assumption|omega) only [S0,rA,rQ,rB,rT,rE, *]
  rw [szLoop xs sz_TRep (l - xs.length) rfl (by omega) (by omega)]
  ·by_cases hd : ((xs.map sz_TRep).sum : Int) <= l - xs.length
   ·have e : szR l (szL sz_TRep xs) = l - xs.length - ((xs.map sz_TRep).sum : Nat) := by unfold szR; rw [show (szL sz_TRep xs) = xs.length + (xs.map sz_TRep).sum from rfl, if_pos (by omega)]; omega
    rw [decide_eq_true hd]
    (refine fork_in ?_; repeat' (refine fork_eq ?_ ?_<;>intro _<;>try simp (disch := first|assumption|omega) only [S0,rA,rQ,rB,rT,rE, *]))
   ·have e : szR l (szL sz_TRep xs) = -1 := by unfold szR; rw [show (szL sz_TRep xs) = xs.length + (xs.map sz_TRep).sum from rfl, if_neg (by omega)]
    rw [decide_eq_false hd]
    (refine fork_in ?_; repeat' (refine fork_eq ?_ ?_<;>intro _<;>try simp (disch := first|assumption|omega) only [S0,rA,rQ,rB,rT,rE, *]))
  ·intro i m hi hb hl hm hm' hf hr hd
   have hq := hw2 _ (at_mem hi)
   (refine fork_in ?_; repeat' (refine fork_eq ?_ ?_<;>intro _<;>try simp (disch := first|assumption|omega) only [S0,rA,rQ,rB,rT,rE,S_row,lsz_TRep, *]))
  ·intro i m hi hb hl hm hm' hf hr hd
   have hq := hw2 _ (at_mem hi)
   (refine fork_in ?_; repeat' (refine fork_eq ?_ ?_<;>intro _<;>try simp (disch := first|assumption|omega) only [S0,rA,rQ,rB,rT,rE,S_row,lsz_TRep, *]))
  ·intro m hl
   (refine fork_in ?_; repeat' (refine fork_eq ?_ ?_<;>intro _<;>try simp (disch := first|assumption|omega) only [S0,rA,rQ,rB,rT,rE, *]))
 ·have e : szR l (szL sz_TRep xs) = -1 := by unfold szR; rw [show (szL sz_TRep xs) = xs.length + (xs.map sz_TRep).sum from rfl, if_neg (by omega)]
  have d : decide (l - (xs.length : Int) < 0) = true := by simp; omega
  (refine fork_in ?_; repeat' (refine fork_eq ?_ ?_<;>intro _<;>try simp (disch := first|assumption|omega) only [S0,rA,rQ,rB,rT,rE, *]))
theorem lto_LTRep (xs : (List TRep)) (hs : szL sz_TRep xs <= 1048576) : Fun T 16 [rL xs] = some [rL xs] := by
 rw [Fun_k (t := tm16) rfl]; unfold tm16
 have hl : xs.length <= 1048576 := Nat.le_trans szL_len hs
 simp (disch := first|assumption|omega) only [S0,rA,rQ,rB,rT,rE, S_make, Int.toNat_natCast, *]
 rw [toLoop xs rfl]
 ·(refine fork_in ?_; repeat' (refine fork_eq ?_ ?_<;>intro _<;>try simp (disch := first|assumption|omega) only [S0,rA,rQ,rB,rT,rE, *]))
 ·intro i ys hi hb hb' hl'
  have hq : sz_TRep (atI xs i) <= 1048576 := by
   have := szL_mem (f := sz_TRep) (at_mem hi)
   omega
  (refine fork_in ?_; repeat' (refine fork_eq ?_ ?_<;>intro _<;>try simp (disch := first|assumption|omega) only [S0,rA,rQ,rB,rT,rE,S_row,S_set,lto_TRep, *]))
 ·intro ys hl'
  (refine fork_in ?_; repeat' (refine fork_eq ?_ ?_<;>intro _<;>try simp (disch := first|assumption|omega) only [S0,rA,rQ,rB,rT,rE, *]))
theorem leq_LTRep (xs ys : (List TRep)) (hs : szL sz_TRep xs <= 1099511627776) : Fun T 126 [rL xs, rL ys] = some [.bool (decide (xs = ys))] := by
 rw [Fun_k (t := tm126) rfl]; unfold tm126
 have hx : xs.length <= 1099511627776 := Nat.le_trans szL_len hs
 by_cases hl : ys.length = xs.length
 ·simp (disch := first|assumption|omega) only [S0,rA,rQ,rB,rT,rE, *]
  rw [scanX 1 xs.length (fun i => decide (atI xs i = atI ys i)) [.bool false], allB_eq hl.symm]
  ·(refine fork_in ?_; repeat' (refine fork_eq ?_ ?_<;>intro _<;>try simp (disch := first|assumption|omega) only [S0,rA,rQ,rB,rT,rE, *]))
  ·intro i hi hp
   have hb : InB xs (i : Int) := InB_nat.2 hi
   have hb' : InB ys (i : Int) := InB_nat.2 (by omega)
   have h2 : decide ((i : Int) < xs.length) = true := by simp; omega
   have hq : sz_TRep (atI xs i) <= 1099511627776 := by
    have := szL_mem (f := sz_TRep) (at_mem hi)
    omega
   (refine fork_in ?_; repeat' (refine fork_eq ?_ ?_<;>intro _<;>try simp (disch := first|assumption|omega) only [S0,rA,rQ,rB,rT,rE,S_row,leq_TRep, *]))
  ·intro i hi hp
   have hb : InB xs (i : Int) := InB_nat.2 hi
   have hb' : InB ys (i : Int) := InB_nat.2 (by omega)
   have h2 : decide ((i : Int) < xs.length) = true := by simp; omega
   have hq : sz_TRep (atI xs i) <= 1099511627776 := by
    have := szL_mem (f := sz_TRep) (at_mem hi)
    omega
   (refine fork_in ?_; repeat' (refine fork_eq ?_ ?_<;>intro _<;>try simp (disch := first|assumption|omega) only [S0,rA,rQ,rB,rT,rE,S_row,leq_TRep, *]))
  ·have h2 : decide ((xs.length : Int) < xs.length) = false := by simp
   (refine fork_in ?_; repeat' (refine fork_eq ?_ ?_<;>intro _<;>try simp (disch := first|assumption|omega) only [S0,rA,rQ,rB,rT,rE, *]))
 ·have hl' : ((xs.length : Int) == (ys.length : Int)) = false := by simp; omega
  have e := eq_len (fun h => hl h.symm)
  (refine fork_in ?_; repeat' (refine fork_eq ?_ ?_<;>intro _<;>try simp (disch := first|assumption|omega) only [S0,rA,rQ,rB,rT,rE, *]))
theorem lmk_LTRep (xs : (List TRep)) (k : Int) (hk : 0 <= k) (hb : k + (ctL ct_TRep xs : Nat) <= 1152921504606846976) (hl : szL sz_TRep xs <= 1099511627776) : Fun T 135 [rL xs, i64 k] = some [i64 (k + (ctL ct_TRep xs : Nat)), rL (mkL ct_TRep mk_TRep xs k)] := by
 rw [Fun_k (t := tm135) rfl]; unfold tm135
 have hx : xs.length <= 1099511627776 := Nat.le_trans szL_len hl
 simp (disch := first|assumption|omega) only [S0,rA,rQ,rB,rT,rE, *]
 rw [markLoop xs ct_TRep mk_TRep k rfl rfl rfl hk hb ?_ ?_ (by omega)]
 ·(refine fork_in ?_; repeat' (refine fork_eq ?_ ?_<;>intro _<;>try simp (disch := first|assumption|omega) only [S0,rA,rQ,rB,rT,rE, *]))
 ·intro i ys m hi hy hb hlt hat hm hc hlen
  have ec : m + 1 + 1 + (ctL (ctL ct_TRow) (atI xs (i : Int)).table.rows : Nat) + (ctL ct_TLead (atI xs (i : Int)).leads : Nat) = m + (ct_TRep (atI xs i) : Nat) := by rw [ctu_TRep]; omega
  have hq : sz_TRep (atI xs i) <= 1099511627776 := by
   have := szL_mem (f := sz_TRep) (at_mem hi)
   omega
  rw [szu_TRep] at hq
  rw [ctu_TRep] at hc
  have hl__table_rows : szL (szL sz_TRow) (atI xs i).table.rows <= 1099511627776 := by omega
  have hl__leads : szL sz_TLead (atI xs i).leads <= 1099511627776 := by omega
  (refine fork_in ?_; repeat' (refine fork_eq ?_ ?_<;>intro _<;>try simp (disch := first|assumption|omega|(simp only [S_upd]; assumption)) only [S0,rA,rQ,rB,rT,rE,S_row,S_set,S_upd,lmk_LLTRow,lmk_LTLead, *]))
  all_goals (try simp only [mk_TRep, ec])
 ·intro ys m hy hlt
  (refine fork_in ?_; repeat' (refine fork_eq ?_ ?_<;>intro _<;>try simp (disch := first|assumption|omega) only [S0,rA,rQ,rB,rT,rE, *]))
theorem lsz_TMsg (x_kind x_src x_dst x_rep x_no x_ballot x_vote x_state x_cmd_kind x_cmd_id x_cmd_src x_cmd_dst x_cmd_amt x_attr_seq : Int) (x_attr_deps : (List Int)) (l : Int) (h0 : 0 <= l) (h1 : l <= 1048576) (hw : wf_TMsg ⟨x_kind, x_src, x_dst, x_rep, x_no, x_ballot, x_vote, x_state, ⟨x_cmd_kind, x_cmd_id, x_cmd_src, x_cmd_dst, x_cmd_amt⟩, ⟨x_attr_seq, x_attr_deps⟩⟩) : Fun T 13 [i64 x_kind, i64 x_src, i64 x_dst, i64 x_rep, i64 x_no, i64 x_ballot, i64 x_vote, i64 x_state, i64 x_cmd_kind, i64 x_cmd_id, i64 x_cmd_src, i64 x_cmd_dst, i64 x_cmd_amt, i64 x_attr_seq, rL x_attr_deps, i64 l] = some [i64 (szR l (sz_TMsg ⟨x_kind, x_src, x_dst, x_rep, x_no, x_ballot, x_vote, x_state, ⟨x_cmd_kind, x_cmd_id, x_cmd_src, x_cmd_dst, x_cmd_amt⟩, ⟨x_attr_seq, x_attr_deps⟩⟩))] := by
 rw [Fun_k (t := tm13) rfl]; unfold tm13
 unfold wf_TMsg at hw
 simp only at hw
 have w0 := hw
 by_cases c0 : ((sz_TAttr ⟨x_attr_seq, x_attr_deps⟩ : Nat) : Int) <= l
 rotate_left
 ·have e0 : szR (l) (sz_TAttr ⟨x_attr_seq, x_attr_deps⟩) = -1 := if_neg c0
  have d0 : decide ((-1 : Int) < 0) = true := rfl
  have e : szR l (sz_TMsg ⟨x_kind, x_src, x_dst, x_rep, x_no, x_ballot, x_vote, x_state, ⟨x_cmd_kind, x_cmd_id, x_cmd_src, x_cmd_dst, x_cmd_amt⟩, ⟨x_attr_seq, x_attr_deps⟩⟩) = -1 := by unfold szR sz_TMsg; simp only []; split <;> omega
  (refine fork_in ?_; repeat' (refine fork_eq ?_ ?_<;>intro _<;>try simp (disch := first|assumption|omega) only [S0,rA,rQ,rB,rT,rE,lsz_TAttr, *]))
 have e0 : szR (l) (sz_TAttr ⟨x_attr_seq, x_attr_deps⟩) = l - (sz_TAttr ⟨x_attr_seq, x_attr_deps⟩ : Nat) := if_pos c0
 have d0 : decide (l - ((sz_TAttr ⟨x_attr_seq, x_attr_deps⟩ : Nat) : Int) < 0) = false := by simp; omega
 have e : szR l (sz_TMsg ⟨x_kind, x_src, x_dst, x_rep, x_no, x_ballot, x_vote, x_state, ⟨x_cmd_kind, x_cmd_id, x_cmd_src, x_cmd_dst, x_cmd_amt⟩, ⟨x_attr_seq, x_attr_deps⟩⟩) = l - ((sz_TAttr ⟨x_attr_seq, x_attr_deps⟩ : Nat) : Int) := by unfold szR sz_TMsg; simp only []; split <;> omega
 (refine fork_in ?_; repeat' (refine fork_eq ?_ ?_<;>intro _<;>try simp (disch := first|assumption|omega) only [S0,rA,rQ,rB,rT,rE,lsz_TAttr, *]))
theorem lto_TMsg (x_kind x_src x_dst x_rep x_no x_ballot x_vote x_state x_cmd_kind x_cmd_id x_cmd_src x_cmd_dst x_cmd_amt x_attr_seq : Int) (x_attr_deps : (List Int)) (hs : sz_TMsg ⟨x_kind, x_src, x_dst, x_rep, x_no, x_ballot, x_vote, x_state, ⟨x_cmd_kind, x_cmd_id, x_cmd_src, x_cmd_dst, x_cmd_amt⟩, ⟨x_attr_seq, x_attr_deps⟩⟩ <= 1048576) : Fun T 28 [i64 x_kind, i64 x_src, i64 x_dst, i64 x_rep, i64 x_no, i64 x_ballot, i64 x_vote, i64 x_state, i64 x_cmd_kind, i64 x_cmd_id, i64 x_cmd_src, i64 x_cmd_dst, i64 x_cmd_amt, i64 x_attr_seq, rL x_attr_deps] = some [i64 x_kind, i64 x_src, i64 x_dst, i64 x_rep, i64 x_no, i64 x_ballot, i64 x_vote, i64 x_state, i64 x_cmd_kind, i64 x_cmd_id, i64 x_cmd_src, i64 x_cmd_dst, i64 x_cmd_amt, i64 x_attr_seq, rL x_attr_deps] := by
 rw [Fun_k (t := tm28) rfl]; unfold tm28
 unfold sz_TMsg at hs
 simp only at hs
 have s0 : sz_TAttr ⟨x_attr_seq, x_attr_deps⟩ <= 1048576 := by omega
 (refine fork_in ?_; repeat' (refine fork_eq ?_ ?_<;>intro _<;>try simp (disch := first|assumption|omega) only [S0,rA,rQ,rB,rT,rE,lto_TCmd,lto_TAttr, *]))
theorem leq_TMsg (x_kind x_src x_dst x_rep x_no x_ballot x_vote x_state x_cmd_kind x_cmd_id x_cmd_src x_cmd_dst x_cmd_amt x_attr_seq : Int) (x_attr_deps : (List Int)) (y_kind y_src y_dst y_rep y_no y_ballot y_vote y_state y_cmd_kind y_cmd_id y_cmd_src y_cmd_dst y_cmd_amt y_attr_seq : Int) (y_attr_deps : (List Int)) (hs : sz_TMsg ⟨x_kind, x_src, x_dst, x_rep, x_no, x_ballot, x_vote, x_state, ⟨x_cmd_kind, x_cmd_id, x_cmd_src, x_cmd_dst, x_cmd_amt⟩, ⟨x_attr_seq, x_attr_deps⟩⟩ <= 1099511627776) : Fun T 131 [i64 x_kind, i64 x_src, i64 x_dst, i64 x_rep, i64 x_no, i64 x_ballot, i64 x_vote, i64 x_state, i64 x_cmd_kind, i64 x_cmd_id, i64 x_cmd_src, i64 x_cmd_dst, i64 x_cmd_amt, i64 x_attr_seq, rL x_attr_deps, i64 y_kind, i64 y_src, i64 y_dst, i64 y_rep, i64 y_no, i64 y_ballot, i64 y_vote, i64 y_state, i64 y_cmd_kind, i64 y_cmd_id, i64 y_cmd_src, i64 y_cmd_dst, i64 y_cmd_amt, i64 y_attr_seq, rL y_attr_deps] = some [.bool (decide ((⟨x_kind, x_src, x_dst, x_rep, x_no, x_ballot, x_vote, x_state, ⟨x_cmd_kind, x_cmd_id, x_cmd_src, x_cmd_dst, x_cmd_amt⟩, ⟨x_attr_seq, x_attr_deps⟩⟩ : TMsg) = ⟨y_kind, y_src, y_dst, y_rep, y_no, y_ballot, y_vote, y_state, ⟨y_cmd_kind, y_cmd_id, y_cmd_src, y_cmd_dst, y_cmd_amt⟩, ⟨y_attr_seq, y_attr_deps⟩⟩))] := by
 rw [Fun_k (t := tm131) rfl]; unfold tm131
 unfold sz_TMsg at hs
 simp only at hs
 have s0 : sz_TAttr ⟨x_attr_seq, x_attr_deps⟩ <= 1099511627776 := by omega
 have e : decide ((⟨x_kind, x_src, x_dst, x_rep, x_no, x_ballot, x_vote, x_state, ⟨x_cmd_kind, x_cmd_id, x_cmd_src, x_cmd_dst, x_cmd_amt⟩, ⟨x_attr_seq, x_attr_deps⟩⟩ : TMsg) = ⟨y_kind, y_src, y_dst, y_rep, y_no, y_ballot, y_vote, y_state, ⟨y_cmd_kind, y_cmd_id, y_cmd_src, y_cmd_dst, y_cmd_amt⟩, ⟨y_attr_seq, y_attr_deps⟩⟩) = ((x_kind == y_kind) && (x_src == y_src) && (x_dst == y_dst) && (x_rep == y_rep) && (x_no == y_no) && (x_ballot == y_ballot) && (x_vote == y_vote) && (x_state == y_state) && decide ((⟨x_cmd_kind, x_cmd_id, x_cmd_src, x_cmd_dst, x_cmd_amt⟩ : TCmd) = ⟨y_cmd_kind, y_cmd_id, y_cmd_src, y_cmd_dst, y_cmd_amt⟩) && decide ((⟨x_attr_seq, x_attr_deps⟩ : TAttr) = ⟨y_attr_seq, y_attr_deps⟩)) := by
  simp only [TMsg.mk.injEq, Bool.beq_eq_decide_eq, Bool.decide_and, Bool.and_assoc]
 rw [e]
 (refine fork_in ?_; repeat' (refine fork_eq ?_ ?_<;>intro _<;>try simp (disch := first|assumption|omega) only [S0,rA,rQ,rB,rT,rE,leq_TCmd,leq_TAttr, *]))
theorem lsz_LTMsg (xs : (List TMsg)) (l : Int) (h0 : 0 <= l) (h1 : l <= 1048576) (hw : xs.length <= 140737488351232 /\ ∀ y0 ∈ xs, wf_TMsg y0) : Fun T 12 [rL xs, i64 l] = some [i64 (szR l (szL sz_TMsg xs))] := by
 rw [Fun_k (t := tm12) rfl]; unfold tm12
 obtain ⟨hw1, hw2⟩ := hw
 by_cases c : (xs.length : Int) <= l
 ·have d : decide (l - (xs.length : Int) < 0) = false := by simp; omega
  simp (disch := first|assumption|omega) only [S0,rA,rQ,rB,rT,rE, *]
  rw [szLoop xs sz_TMsg (l - xs.length) rfl (by omega) (by omega)]
  ·by_cases hd : ((xs.map sz_TMsg).sum : Int) <= l - xs.length
   ·have e : szR l (szL sz_TMsg xs) = l - xs.length - ((xs.map sz_TMsg).sum : Nat) := by unfold szR; rw [show (szL sz_TMsg xs) = xs.length + (xs.map sz_TMsg).sum from rfl, if_pos (by omega)]; omega
    rw [decide_eq_true hd]
    (refine fork_in ?_; repeat' (refine fork_eq ?_ ?_<;>intro _<;>try simp (disch := first|assumption|omega) only [S0,rA,rQ,rB,rT,rE, *]))
   ·have e : szR l (szL sz_TMsg xs) = -1 := by unfold szR; rw [show (szL sz_TMsg xs) = xs.length + (xs.map sz_TMsg).sum from rfl, if_neg (by omega)]
    rw [decide_eq_false hd]
    (refine fork_in ?_; repeat' (refine fork_eq ?_ ?_<;>intro _<;>try simp (disch := first|assumption|omega) only [S0,rA,rQ,rB,rT,rE, *]))
  ·intro i m hi hb hl hm hm' hf hr hd
   have hq := hw2 _ (at_mem hi)
   (refine fork_in ?_; repeat' (refine fork_eq ?_ ?_<;>intro _<;>try simp (disch := first|assumption|omega) only [S0,rA,rQ,rB,rT,rE,S_row,lsz_TMsg, *]))
  ·intro i m hi hb hl hm hm' hf hr hd
   have hq := hw2 _ (at_mem hi)
   (refine fork_in ?_; repeat' (refine fork_eq ?_ ?_<;>intro _<;>try simp (disch := first|assumption|omega) only [S0,rA,rQ,rB,rT,rE,S_row,lsz_TMsg, *]))
  ·intro m hl
   (refine fork_in ?_; repeat' (refine fork_eq ?_ ?_<;>intro _<;>try simp (disch := first|assumption|omega) only [S0,rA,rQ,rB,rT,rE, *]))
 ·have e : szR l (szL sz_TMsg xs) = -1 := by unfold szR; rw [show (szL sz_TMsg xs) = xs.length + (xs.map sz_TMsg).sum from rfl, if_neg (by omega)]
  have d : decide (l - (xs.length : Int) < 0) = true := by simp; omega
  (refine fork_in ?_; repeat' (refine fork_eq ?_ ?_<;>intro _<;>try simp (disch := first|assumption|omega) only [S0,rA,rQ,rB,rT,rE, *]))
theorem lto_LTMsg (xs : (List TMsg)) (hs : szL sz_TMsg xs <= 1048576) : Fun T 27 [rL xs] = some [rL xs] := by
 rw [Fun_k (t := tm27) rfl]; unfold tm27
 have hl : xs.length <= 1048576 := Nat.le_trans szL_len hs
 simp (disch := first|assumption|omega) only [S0,rA,rQ,rB,rT,rE, S_make, Int.toNat_natCast, *]
 rw [toLoop xs rfl]
 ·(refine fork_in ?_; repeat' (refine fork_eq ?_ ?_<;>intro _<;>try simp (disch := first|assumption|omega) only [S0,rA,rQ,rB,rT,rE, *]))
 ·intro i ys hi hb hb' hl'
  have hq : sz_TMsg (atI xs i) <= 1048576 := by
   have := szL_mem (f := sz_TMsg) (at_mem hi)
   omega
  (refine fork_in ?_; repeat' (refine fork_eq ?_ ?_<;>intro _<;>try simp (disch := first|assumption|omega) only [S0,rA,rQ,rB,rT,rE,S_row,S_set,lto_TMsg, *]))
 ·intro ys hl'
  (refine fork_in ?_; repeat' (refine fork_eq ?_ ?_<;>intro _<;>try simp (disch := first|assumption|omega) only [S0,rA,rQ,rB,rT,rE, *]))
theorem leq_LTMsg (xs ys : (List TMsg)) (hs : szL sz_TMsg xs <= 1099511627776) : Fun T 130 [rL xs, rL ys] = some [.bool (decide (xs = ys))] := by
 rw [Fun_k (t := tm130) rfl]; unfold tm130
 have hx : xs.length <= 1099511627776 := Nat.le_trans szL_len hs
 by_cases hl : ys.length = xs.length
 ·simp (disch := first|assumption|omega) only [S0,rA,rQ,rB,rT,rE, *]
  rw [scanX 1 xs.length (fun i => decide (atI xs i = atI ys i)) [.bool false], allB_eq hl.symm]
  ·(refine fork_in ?_; repeat' (refine fork_eq ?_ ?_<;>intro _<;>try simp (disch := first|assumption|omega) only [S0,rA,rQ,rB,rT,rE, *]))
  ·intro i hi hp
   have hb : InB xs (i : Int) := InB_nat.2 hi
   have hb' : InB ys (i : Int) := InB_nat.2 (by omega)
   have h2 : decide ((i : Int) < xs.length) = true := by simp; omega
   have hq : sz_TMsg (atI xs i) <= 1099511627776 := by
    have := szL_mem (f := sz_TMsg) (at_mem hi)
    omega
   (refine fork_in ?_; repeat' (refine fork_eq ?_ ?_<;>intro _<;>try simp (disch := first|assumption|omega) only [S0,rA,rQ,rB,rT,rE,S_row,leq_TMsg, *]))
  ·intro i hi hp
   have hb : InB xs (i : Int) := InB_nat.2 hi
   have hb' : InB ys (i : Int) := InB_nat.2 (by omega)
   have h2 : decide ((i : Int) < xs.length) = true := by simp; omega
   have hq : sz_TMsg (atI xs i) <= 1099511627776 := by
    have := szL_mem (f := sz_TMsg) (at_mem hi)
    omega
   (refine fork_in ?_; repeat' (refine fork_eq ?_ ?_<;>intro _<;>try simp (disch := first|assumption|omega) only [S0,rA,rQ,rB,rT,rE,S_row,leq_TMsg, *]))
  ·have h2 : decide ((xs.length : Int) < xs.length) = false := by simp
   (refine fork_in ?_; repeat' (refine fork_eq ?_ ?_<;>intro _<;>try simp (disch := first|assumption|omega) only [S0,rA,rQ,rB,rT,rE, *]))
 ·have hl' : ((xs.length : Int) == (ys.length : Int)) = false := by simp; omega
  have e := eq_len (fun h => hl h.symm)
  (refine fork_in ?_; repeat' (refine fork_eq ?_ ?_<;>intro _<;>try simp (disch := first|assumption|omega) only [S0,rA,rQ,rB,rT,rE, *]))
theorem lmk_LTMsg (xs : (List TMsg)) (k : Int) (hk : 0 <= k) (hb : k + (ctL ct_TMsg xs : Nat) <= 1152921504606846976) (hl : szL sz_TMsg xs <= 1099511627776) : Fun T 140 [rL xs, i64 k] = some [i64 (k + (ctL ct_TMsg xs : Nat)), rL (mkL ct_TMsg mk_TMsg xs k)] := by
 rw [Fun_k (t := tm140) rfl]; unfold tm140
 have hx : xs.length <= 1099511627776 := Nat.le_trans szL_len hl
 simp (disch := first|assumption|omega) only [S0,rA,rQ,rB,rT,rE, *]
 rw [markLoop xs ct_TMsg mk_TMsg k rfl rfl rfl hk hb ?_ ?_ (by omega)]
 ·(refine fork_in ?_; repeat' (refine fork_eq ?_ ?_<;>intro _<;>try simp (disch := first|assumption|omega) only [S0,rA,rQ,rB,rT,rE, *]))
 ·intro i ys m hi hy hb hlt hat hm hc hlen
  have ec : m + 1 + 1 + 1 + 1 + 1 + 1 + 1 + 1 + 1 + 1 + 1 + 1 + 1 + 1 + (ctL (fun _ => 1) (atI xs (i : Int)).attr.deps : Nat) = m + (ct_TMsg (atI xs i) : Nat) := by rw [ctu_TMsg]; omega
  have hq : sz_TMsg (atI xs i) <= 1099511627776 := by
   have := szL_mem (f := sz_TMsg) (at_mem hi)
   omega
  rw [szu_TMsg] at hq
  rw [ctu_TMsg] at hc
  have hl__attr_deps : (atI xs i).attr.deps.length <= 1099511627776 := by omega
  (refine fork_in ?_; repeat' (refine fork_eq ?_ ?_<;>intro _<;>try simp (disch := first|assumption|omega|(simp only [S_upd]; assumption)) only [S0,rA,rQ,rB,rT,rE,S_row,S_set,S_upd,lmk_LI, *]))
  all_goals (try simp only [mk_TMsg, ec])
 ·intro ys m hy hlt
  (refine fork_in ?_; repeat' (refine fork_eq ?_ ?_<;>intro _<;>try simp (disch := first|assumption|omega) only [S0,rA,rQ,rB,rT,rE, *]))
theorem lto_TAsked (x_rep x_no x_cmd_kind x_cmd_id x_cmd_src x_cmd_dst x_cmd_amt : Int) : Fun T 30 [i64 x_rep, i64 x_no, i64 x_cmd_kind, i64 x_cmd_id, i64 x_cmd_src, i64 x_cmd_dst, i64 x_cmd_amt] = some [i64 x_rep, i64 x_no, i64 x_cmd_kind, i64 x_cmd_id, i64 x_cmd_src, i64 x_cmd_dst, i64 x_cmd_amt] := by
 rw [Fun_k (t := tm30) rfl]; unfold tm30
 (refine fork_in ?_; repeat' (refine fork_eq ?_ ?_<;>intro _<;>try simp (disch := first|assumption|omega) only [S0,rA,rQ,rB,rT,rE,lto_TCmd, *]))
theorem leq_TAsked (x_rep x_no x_cmd_kind x_cmd_id x_cmd_src x_cmd_dst x_cmd_amt : Int) (y_rep y_no y_cmd_kind y_cmd_id y_cmd_src y_cmd_dst y_cmd_amt : Int) : Fun T 133 [i64 x_rep, i64 x_no, i64 x_cmd_kind, i64 x_cmd_id, i64 x_cmd_src, i64 x_cmd_dst, i64 x_cmd_amt, i64 y_rep, i64 y_no, i64 y_cmd_kind, i64 y_cmd_id, i64 y_cmd_src, i64 y_cmd_dst, i64 y_cmd_amt] = some [.bool (decide ((⟨x_rep, x_no, ⟨x_cmd_kind, x_cmd_id, x_cmd_src, x_cmd_dst, x_cmd_amt⟩⟩ : TAsked) = ⟨y_rep, y_no, ⟨y_cmd_kind, y_cmd_id, y_cmd_src, y_cmd_dst, y_cmd_amt⟩⟩))] := by
 rw [Fun_k (t := tm133) rfl]; unfold tm133
 have e : decide ((⟨x_rep, x_no, ⟨x_cmd_kind, x_cmd_id, x_cmd_src, x_cmd_dst, x_cmd_amt⟩⟩ : TAsked) = ⟨y_rep, y_no, ⟨y_cmd_kind, y_cmd_id, y_cmd_src, y_cmd_dst, y_cmd_amt⟩⟩) = ((x_rep == y_rep) && (x_no == y_no) && decide ((⟨x_cmd_kind, x_cmd_id, x_cmd_src, x_cmd_dst, x_cmd_amt⟩ : TCmd) = ⟨y_cmd_kind, y_cmd_id, y_cmd_src, y_cmd_dst, y_cmd_amt⟩)) := by
  simp only [TAsked.mk.injEq, Bool.beq_eq_decide_eq, Bool.decide_and, Bool.and_assoc]
 rw [e]
 (refine fork_in ?_; repeat' (refine fork_eq ?_ ?_<;>intro _<;>try simp (disch := first|assumption|omega) only [S0,rA,rQ,rB,rT,rE,leq_TCmd, *]))
theorem lsz_LTAsked (xs : (List TAsked)) (l : Int) (h0 : 0 <= l) (h1 : l <= 1048576) (hw : xs.length <= 140737488351232) : Fun T 14 [rL xs, i64 l] = some [i64 (szR l (szL (fun _ => 0) xs))] := by
 rw [Fun_k (t := tm14) rfl]; unfold tm14
 have es : szL (fun _ => 0) xs = xs.length := szL_zero
 rw [es]
 by_cases c : (xs.length : Int) <= l
 ·have e : szR l xs.length = l - xs.length := if_pos c
  have d : decide (l - (xs.length : Int) < 0) = false := by simp; omega
  (refine fork_in ?_; repeat' (refine fork_eq ?_ ?_<;>intro _<;>try simp (disch := first|assumption|omega) only [S0,rA,rQ,rB,rT,rE, *]))
 ·have e : szR l xs.length = -1 := if_neg c
  have d : decide (l - (xs.length : Int) < 0) = true := by simp; omega
  (refine fork_in ?_; repeat' (refine fork_eq ?_ ?_<;>intro _<;>try simp (disch := first|assumption|omega) only [S0,rA,rQ,rB,rT,rE, *]))
theorem lto_LTAsked (xs : (List TAsked)) (hs : szL (fun _ => 0) xs <= 1048576) : Fun T 29 [rL xs] = some [rL xs] := by
 rw [Fun_k (t := tm29) rfl]; unfold tm29
 have hl : xs.length <= 1048576 := Nat.le_trans szL_len hs
 simp (disch := first|assumption|omega) only [S0,rA,rQ,rB,rT,rE, S_make, Int.toNat_natCast, *]
 rw [toLoop xs rfl]
 ·(refine fork_in ?_; repeat' (refine fork_eq ?_ ?_<;>intro _<;>try simp (disch := first|assumption|omega) only [S0,rA,rQ,rB,rT,rE, *]))
 ·intro i ys hi hb hb' hl'
  (refine fork_in ?_; repeat' (refine fork_eq ?_ ?_<;>intro _<;>try simp (disch := first|assumption|omega) only [S0,rA,rQ,rB,rT,rE,S_row,S_set,lto_TAsked, *]))
 ·intro ys hl'
  (refine fork_in ?_; repeat' (refine fork_eq ?_ ?_<;>intro _<;>try simp (disch := first|assumption|omega) only [S0,rA,rQ,rB,rT,rE, *]))
theorem leq_LTAsked (xs ys : (List TAsked)) (hs : szL (fun _ => 0) xs <= 1099511627776) : Fun T 132 [rL xs, rL ys] = some [.bool (decide (xs = ys))] := by
 rw [Fun_k (t := tm132) rfl]; unfold tm132
 have hx : xs.length <= 1099511627776 := Nat.le_trans szL_len hs
 by_cases hl : ys.length = xs.length
 ·simp (disch := first|assumption|omega) only [S0,rA,rQ,rB,rT,rE, *]
  rw [scanX 1 xs.length (fun i => decide (atI xs i = atI ys i)) [.bool false], allB_eq hl.symm]
  ·(refine fork_in ?_; repeat' (refine fork_eq ?_ ?_<;>intro _<;>try simp (disch := first|assumption|omega) only [S0,rA,rQ,rB,rT,rE, *]))
  ·intro i hi hp
   have hb : InB xs (i : Int) := InB_nat.2 hi
   have hb' : InB ys (i : Int) := InB_nat.2 (by omega)
   have h2 : decide ((i : Int) < xs.length) = true := by simp; omega
   (refine fork_in ?_; repeat' (refine fork_eq ?_ ?_<;>intro _<;>try simp (disch := first|assumption|omega) only [S0,rA,rQ,rB,rT,rE,S_row,leq_TAsked, *]))
  ·intro i hi hp
   have hb : InB xs (i : Int) := InB_nat.2 hi
   have hb' : InB ys (i : Int) := InB_nat.2 (by omega)
   have h2 : decide ((i : Int) < xs.length) = true := by simp; omega
   (refine fork_in ?_; repeat' (refine fork_eq ?_ ?_<;>intro _<;>try simp (disch := first|assumption|omega) only [S0,rA,rQ,rB,rT,rE,S_row,leq_TAsked, *]))
  ·have h2 : decide ((xs.length : Int) < xs.length) = false := by simp
   (refine fork_in ?_; repeat' (refine fork_eq ?_ ?_<;>intro _<;>try simp (disch := first|assumption|omega) only [S0,rA,rQ,rB,rT,rE, *]))
 ·have hl' : ((xs.length : Int) == (ys.length : Int)) = false := by simp; omega
  have e := eq_len (fun h => hl h.symm)
  (refine fork_in ?_; repeat' (refine fork_eq ?_ ?_<;>intro _<;>try simp (disch := first|assumption|omega) only [S0,rA,rQ,rB,rT,rE, *]))
theorem lmk_LTAsked (xs : (List TAsked)) (k : Int) (hk : 0 <= k) (hb : k + (ctL ct_TAsked xs : Nat) <= 1152921504606846976) (hl : xs.length <= 1099511627776) : Fun T 141 [rL xs, i64 k] = some [i64 (k + (ctL ct_TAsked xs : Nat)), rL (mkL ct_TAsked mk_TAsked xs k)] := by
 rw [Fun_k (t := tm141) rfl]; unfold tm141
 have hx : xs.length <= 1099511627776 := hl
 simp (disch := first|assumption|omega) only [S0,rA,rQ,rB,rT,rE, *]
 rw [markLoop xs ct_TAsked mk_TAsked k rfl rfl rfl hk hb ?_ ?_ (by omega)]
 ·(refine fork_in ?_; repeat' (refine fork_eq ?_ ?_<;>intro _<;>try simp (disch := first|assumption|omega) only [S0,rA,rQ,rB,rT,rE, *]))
 ·intro i ys m hi hy hb hlt hat hm hc hlen
  have ec : m + 1 + 1 + 1 + 1 + 1 + 1 + 1 = m + (ct_TAsked (atI xs i) : Nat) := by rw [ctu_TAsked]; omega
  rw [ctu_TAsked] at hc
  (refine fork_in ?_; repeat' (refine fork_eq ?_ ?_<;>intro _<;>try simp (disch := first|assumption|omega|(simp only [S_upd]; assumption)) only [S0,rA,rQ,rB,rT,rE,S_row,S_set,S_upd, *]))
  all_goals (try simp only [mk_TAsked, ec])
 ·intro ys m hy hlt
  (refine fork_in ?_; repeat' (refine fork_eq ?_ ?_<;>intro _<;>try simp (disch := first|assumption|omega) only [S0,rA,rQ,rB,rT,rE, *]))
theorem lsz_TNet (x_reps : (List TRep)) (x_bag : (List TMsg)) (x_asked : (List TAsked)) (l : Int) (h0 : 0 <= l) (h1 : l <= 1048576) (hw : wf_TNet ⟨x_reps, x_bag, x_asked⟩) : Fun T 1 [rL x_reps, rL x_bag, rL x_asked, i64 l] = some [i64 (szR l (sz_TNet ⟨x_reps, x_bag, x_asked⟩))] := by
 rw [Fun_k (t := tm1) rfl]; unfold tm1
 unfold wf_TNet at hw
 simp only at hw
 obtain ⟨w0, w1, w2⟩ := hw
 by_cases c0 : ((szL sz_TRep x_reps : Nat) : Int) <= l
 rotate_left
 ·have e0 : szR (l) (szL sz_TRep x_reps) = -1 := if_neg c0
  have d0 : decide ((-1 : Int) < 0) = true := rfl
  have e : szR l (sz_TNet ⟨x_reps, x_bag, x_asked⟩) = -1 := by unfold szR sz_TNet; simp only []; split <;> omega
  (refine fork_in ?_; repeat' (refine fork_eq ?_ ?_<;>intro _<;>try simp (disch := first|assumption|omega) only [S0,rA,rQ,rB,rT,rE,lsz_LTRep,lsz_LTMsg,lsz_LTAsked, *]))
 have e0 : szR (l) (szL sz_TRep x_reps) = l - (szL sz_TRep x_reps : Nat) := if_pos c0
 have d0 : decide (l - ((szL sz_TRep x_reps : Nat) : Int) < 0) = false := by simp; omega
 by_cases c1 : ((szL sz_TMsg x_bag : Nat) : Int) <= l - ((szL sz_TRep x_reps : Nat) : Int)
 rotate_left
 ·have e1 : szR (l - ((szL sz_TRep x_reps : Nat) : Int)) (szL sz_TMsg x_bag) = -1 := if_neg c1
  have d1 : decide ((-1 : Int) < 0) = true := rfl
  have e : szR l (sz_TNet ⟨x_reps, x_bag, x_asked⟩) = -1 := by unfold szR sz_TNet; simp only []; split <;> omega
  (refine fork_in ?_; repeat' (refine fork_eq ?_ ?_<;>intro _<;>try simp (disch := first|assumption|omega) only [S0,rA,rQ,rB,rT,rE,lsz_LTRep,lsz_LTMsg,lsz_LTAsked, *]))
 have e1 : szR (l - ((szL sz_TRep x_reps : Nat) : Int)) (szL sz_TMsg x_bag) = l - ((szL sz_TRep x_reps : Nat) : Int) - (szL sz_TMsg x_bag : Nat) := if_pos c1
 have d1 : decide (l - ((szL sz_TRep x_reps : Nat) : Int) - ((szL sz_TMsg x_bag : Nat) : Int) < 0) = false := by simp; omega
 by_cases c2 : ((szL (fun _ => 0) x_asked : Nat) : Int) <= l - ((szL sz_TRep x_reps : Nat) : Int) - ((szL sz_TMsg x_bag : Nat) : Int)
 rotate_left
 ·have e2 : szR (l - ((szL sz_TRep x_reps : Nat) : Int) - ((szL sz_TMsg x_bag : Nat) : Int)) (szL (fun _ => 0) x_asked) = -1 := if_neg c2
  have d2 : decide ((-1 : Int) < 0) = true := rfl
  have e : szR l (sz_TNet ⟨x_reps, x_bag, x_asked⟩) = -1 := by unfold szR sz_TNet; simp only []; split <;> omega
  (refine fork_in ?_; repeat' (refine fork_eq ?_ ?_<;>intro _<;>try simp (disch := first|assumption|omega) only [S0,rA,rQ,rB,rT,rE,lsz_LTRep,lsz_LTMsg,lsz_LTAsked, *]))
 have e2 : szR (l - ((szL sz_TRep x_reps : Nat) : Int) - ((szL sz_TMsg x_bag : Nat) : Int)) (szL (fun _ => 0) x_asked) = l - ((szL sz_TRep x_reps : Nat) : Int) - ((szL sz_TMsg x_bag : Nat) : Int) - (szL (fun _ => 0) x_asked : Nat) := if_pos c2
 have d2 : decide (l - ((szL sz_TRep x_reps : Nat) : Int) - ((szL sz_TMsg x_bag : Nat) : Int) - ((szL (fun _ => 0) x_asked : Nat) : Int) < 0) = false := by simp; omega
 have e : szR l (sz_TNet ⟨x_reps, x_bag, x_asked⟩) = l - ((szL sz_TRep x_reps : Nat) : Int) - ((szL sz_TMsg x_bag : Nat) : Int) - ((szL (fun _ => 0) x_asked : Nat) : Int) := by unfold szR sz_TNet; simp only []; split <;> omega
 (refine fork_in ?_; repeat' (refine fork_eq ?_ ?_<;>intro _<;>try simp (disch := first|assumption|omega) only [S0,rA,rQ,rB,rT,rE,lsz_LTRep,lsz_LTMsg,lsz_LTAsked, *]))
theorem lto_TNet (x_reps : (List TRep)) (x_bag : (List TMsg)) (x_asked : (List TAsked)) (hs : sz_TNet ⟨x_reps, x_bag, x_asked⟩ <= 1048576) : Fun T 15 [rL x_reps, rL x_bag, rL x_asked] = some [rL x_reps, rL x_bag, rL x_asked] := by
 rw [Fun_k (t := tm15) rfl]; unfold tm15
 unfold sz_TNet at hs
 simp only at hs
 have s0 : szL sz_TRep x_reps <= 1048576 := by omega
 have s1 : szL sz_TMsg x_bag <= 1048576 := by omega
 have s2 : szL (fun _ => 0) x_asked <= 1048576 := by omega
 (refine fork_in ?_; repeat' (refine fork_eq ?_ ?_<;>intro _<;>try simp (disch := first|assumption|omega) only [S0,rA,rQ,rB,rT,rE,lto_LTRep,lto_LTMsg,lto_LTAsked, *]))
theorem leq_TNet (x_reps : (List TRep)) (x_bag : (List TMsg)) (x_asked : (List TAsked)) (y_reps : (List TRep)) (y_bag : (List TMsg)) (y_asked : (List TAsked)) (hs : sz_TNet ⟨x_reps, x_bag, x_asked⟩ <= 1099511627776) : Fun T 125 [rL x_reps, rL x_bag, rL x_asked, rL y_reps, rL y_bag, rL y_asked] = some [.bool (decide ((⟨x_reps, x_bag, x_asked⟩ : TNet) = ⟨y_reps, y_bag, y_asked⟩))] := by
 rw [Fun_k (t := tm125) rfl]; unfold tm125
 unfold sz_TNet at hs
 simp only at hs
 have s0 : szL sz_TRep x_reps <= 1099511627776 := by omega
 have s1 : szL sz_TMsg x_bag <= 1099511627776 := by omega
 have s2 : szL (fun _ => 0) x_asked <= 1099511627776 := by omega
 have e : decide ((⟨x_reps, x_bag, x_asked⟩ : TNet) = ⟨y_reps, y_bag, y_asked⟩) = (decide ((x_reps : (List TRep)) = y_reps) && decide ((x_bag : (List TMsg)) = y_bag) && decide ((x_asked : (List TAsked)) = y_asked)) := by
  simp only [TNet.mk.injEq, Bool.beq_eq_decide_eq, Bool.decide_and, Bool.and_assoc]
 rw [e]
 (refine fork_in ?_; repeat' (refine fork_eq ?_ ?_<;>intro _<;>try simp (disch := first|assumption|omega) only [S0,rA,rQ,rB,rT,rE,leq_LTRep,leq_LTMsg,leq_LTAsked, *]))
theorem lmk_TNet (x_reps : (List TRep)) (x_bag : (List TMsg)) (x_asked : (List TAsked)) (k : Int) (hk : 0 <= k) (hb : k + (ctL ct_TRep x_reps + ctL ct_TMsg x_bag + ctL ct_TAsked x_asked : Nat) <= 1152921504606846976) (hl0 : szL sz_TRep x_reps <= 1099511627776) (hl1 : szL sz_TMsg x_bag <= 1099511627776) (hl2 : x_asked.length <= 1099511627776) : Fun T 134 [rL x_reps, rL x_bag, rL x_asked, i64 k] = some [i64 (k + (ctL ct_TRep x_reps : Nat) + (ctL ct_TMsg x_bag : Nat) + (ctL ct_TAsked x_asked : Nat)), rL (mkL ct_TRep mk_TRep x_reps (k)), rL (mkL ct_TMsg mk_TMsg x_bag (k + (ctL ct_TRep x_reps : Nat))), rL (mkL ct_TAsked mk_TAsked x_asked (k + (ctL ct_TRep x_reps : Nat) + (ctL ct_TMsg x_bag : Nat)))] := by
 rw [Fun_k (t := tm134) rfl]; unfold tm134
 (refine fork_in ?_; repeat' (refine fork_eq ?_ ?_<;>intro _<;>try simp (disch := first|assumption|omega) only [S0,rA,rQ,rB,rT,rE,lmk_LTRep,lmk_LTMsg,lmk_LTAsked, *]))
theorem impl_within (x lo up : Int) : Fun T 69 [i64 x, i64 lo, i64 up] = some [.bool (inR x lo up)] := by
 rw [Fun_k (t := tm69) rfl]; unfold tm69; unfold inR
 (refine fork_in ?_; repeat' (refine fork_eq ?_ ?_<;>intro _<;>try simp (disch := first|assumption|omega) only [S0,rA,rQ,rB,rT,rE, *]))
theorem spec_l1In (x lo up : Int) : Fun T 36 [i64 x, i64 lo, i64 up] = some [.bool (inR x lo up)] := by
 rw [Fun_k (t := tm36) rfl]; unfold tm36; unfold inR
 (refine fork_in ?_; repeat' (refine fork_eq ?_ ?_<;>intro _<;>try simp (disch := first|assumption|omega) only [S0,rA,rQ,rB,rT,rE, *]))
theorem impl_IsGroup (n : Int) : Fun T 64 [i64 n] = some [.bool (isGrp n)] := by
 rw [Fun_k (t := tm64) rfl]; unfold tm64; unfold isGrp
 (refine fork_in ?_; repeat' (refine fork_eq ?_ ?_<;>intro _<;>try simp (disch := first|assumption|omega) only [S0,rA,rQ,rB,rT,rE, *]))
theorem spec_IsGroup (n : Int) : Fun T 33 [i64 n] = some [.bool (isGrp n)] := by
 rw [Fun_k (t := tm33) rfl]; unfold tm33; unfold isGrp
 (refine fork_in ?_; repeat' (refine fork_eq ?_ ?_<;>intro _<;>try simp (disch := first|assumption|omega) only [S0,rA,rQ,rB,rT,rE, *]))
theorem impl_isAccount (n : Int) : Fun T 76 [i64 n] = some [.bool (inR n 0 3)] := by
 rw [Fun_k (t := tm76) rfl]; unfold tm76
 (refine fork_in ?_; repeat' (refine fork_eq ?_ ?_<;>intro _<;>try simp (disch := first|assumption|omega) only [S0,rA,rQ,rB,rT,rE,impl_within, *]))
theorem spec_l2Account (n : Int) : Fun T 39 [i64 n] = some [.bool (inR n 0 3)] := by
 rw [Fun_k (t := tm39) rfl]; unfold tm39
 (refine fork_in ?_; repeat' (refine fork_eq ?_ ?_<;>intro _<;>try simp (disch := first|assumption|omega) only [S0,rA,rQ,rB,rT,rE,spec_l1In, *]))
theorem spec_l2Code (k i f t a : Int) : Fun T 38 [i64 k, i64 i, i64 f, i64 t, i64 a] = some [i64 (cmdCode ⟨k, i, f, t, a⟩)] := by
 rw [Fun_k (t := tm38) rfl]; unfold tm38; unfold cmdCode
 (refine fork_in ?_; repeat' (refine fork_eq ?_ ?_<;>intro _<;>try simp (disch := first|assumption|omega) only [S0,rA,rQ,rB,rT,rE,spec_l2Account,spec_l1In, *]))
theorem spec_GoodCmd (k i f t a : Int) : Fun T 37 [i64 k, i64 i, i64 f, i64 t, i64 a] = some [.bool (cmdOk ⟨k, i, f, t, a⟩)] := by
 rw [Fun_k (t := tm37) rfl]; unfold tm37; unfold cmdOk
 (refine fork_in ?_; repeat' (refine fork_eq ?_ ?_<;>intro _<;>try simp (disch := first|assumption|omega) only [S0,rA,rQ,rB,rT,rE,spec_l2Code,S_eqs,cmdCode0, *]))
 all_goals (refine bool_fin ?_; simp only [Bool.and_eq_true, Bool.or_eq_true, Bool.not_eq_true', Bool.not_eq_false', Bool.and_eq_false_iff, Bool.or_eq_false_iff, Bool.false_eq_true, beq_iff_eq, beq_eq_false_iff_ne, decide_eq_true_eq, decide_eq_false_iff_not, ne_eq] at *; grind)
theorem impl_GoodCmd (k i f t a : Int) : Fun T 75 [i64 k, i64 i, i64 f, i64 t, i64 a] = some [.bool (cmdOk ⟨k, i, f, t, a⟩)] := by
 rw [Fun_k (t := tm75) rfl]; unfold tm75; unfold cmdOk
 (refine fork_in ?_; repeat' (refine fork_eq ?_ ?_<;>intro _<;>try simp (disch := first|assumption|omega) only [S0,rA,rQ,rB,rT,rE,impl_within,impl_isAccount,S_eqs, *]))
theorem spec_l3Inst (n rep no : Int) (hg : isGrp n = true) : Fun T 35 [i64 n, i64 rep, i64 no] = some [.bool (inst n rep no)] := by
 rw [Fun_k (t := tm35) rfl]; unfold tm35; unfold inst
 have hn := isGrp_rng hg
 (refine fork_in ?_; repeat' (refine fork_eq ?_ ?_<;>intro _<;>try simp (disch := first|assumption|omega) only [S0,rA,rQ,rB,rT,rE,spec_l1In, *]))
theorem impl_isInstance (n rep no : Int) : Fun T 70 [i64 n, i64 rep, i64 no] = some [.bool (isGrp n && inst n rep no)] := by
 rw [Fun_k (t := tm70) rfl]; unfold tm70; unfold inst
 cases hg : isGrp n
 ·(refine fork_in ?_; repeat' (refine fork_eq ?_ ?_<;>intro _<;>try simp (disch := first|assumption|omega) only [S0,rA,rQ,rB,rT,rE,impl_IsGroup, *]))
 have hn := isGrp_rng hg
 (refine fork_in ?_; repeat' (refine fork_eq ?_ ?_<;>intro _<;>try simp (disch := first|assumption|omega) only [S0,rA,rQ,rB,rT,rE,impl_IsGroup,impl_within, *]))
theorem spec_l1All (xs : List Int) (lo up : Int) (hx : xs.length <= 1099511627776) : Fun T 47 [rL xs, i64 lo, i64 up] = some [.bool (xs.all fun x => inR x lo up)] := by
 rw [Fun_k (t := tm47) rfl]; unfold tm47
 simp (disch := first|assumption|omega) only [S0,rA,rQ,rB,rT,rE, S_row, *]
 rw [allX 1 xs (fun x => inR x lo up) [.bool false]]
 ·(refine fork_in ?_; repeat' (refine fork_eq ?_ ?_<;>intro _<;>try simp (disch := first|assumption|omega) only [S0,rA,rQ,rB,rT,rE, *]))
 ·intro i hi hb hl hp
  (refine fork_in ?_; repeat' (refine fork_eq ?_ ?_<;>intro _<;>try simp (disch := first|assumption|omega) only [S0,rA,rQ,rB,rT,rE,S_row,spec_l1In, *]))
 ·intro i hi hb hl hp
  (refine fork_in ?_; repeat' (refine fork_eq ?_ ?_<;>intro _<;>try simp (disch := first|assumption|omega) only [S0,rA,rQ,rB,rT,rE,S_row,spec_l1In, *]))
 ·intro hl
  (refine fork_in ?_; repeat' (refine fork_eq ?_ ?_<;>intro _<;>try simp (disch := first|assumption|omega) only [S0,rA,rQ,rB,rT,rE, *]))
theorem spec_l3Attr (n s : Int) (xs : List Int) (hx : xs.length <= 1099511627776) : Fun T 46 [i64 n, i64 s, rL xs] = some [.bool (attrOk n ⟨s, xs⟩)] := by
 rw [Fun_k (t := tm46) rfl]; unfold tm46; unfold attrOk
 (refine fork_in ?_; repeat' (refine fork_eq ?_ ?_<;>intro _<;>try simp (disch := first|assumption|omega) only [S0,rA,rQ,rB,rT,rE,spec_l1In,spec_l1All, *]))
theorem impl_GoodAttr_1 (x : Int) : Fun T 80 [i64 x] = some [.bool (!inR x 0 6)] := by
 rw [Fun_k (t := tm80) rfl]; unfold tm80
 (refine fork_in ?_; repeat' (refine fork_eq ?_ ?_<;>intro _<;>try simp (disch := first|assumption|omega) only [S0,rA,rQ,rB,rT,rE,impl_within, *]))
theorem ix_GoodAttr_1  (xs : List Int) (hx : xs.length <= 1099511627776) : Fun T 79 [rL xs] = some [i64 (ixF (fun x => !inR x 0 6) xs)] := by
 rw [Fun_k (t := tm79) rfl]; unfold tm79
 simp (disch := first|assumption|omega) only [S0,rA,rQ,rB,rT,rE, S_row, *]
 rw [findX 1 xs (fun x => !inR x 0 6) (fun i => [i64 i])]
 ·cases h : xs.any (fun x => !inR x 0 6)
  ·have e : ixF (fun x => !inR x 0 6) xs = -1 := by
    have h2 := ixF_any (fun x => !inR x 0 6) xs
    rw [h] at h2
    unfold ixF at h2 ⊢
    split at h2 <;> simp_all
   rw [e]; simp (disch := first|assumption|omega) only [S0,rA,rQ,rB,rT,rE]
  ·simp (disch := first|assumption|omega) only [S0,rA,rQ,rB,rT,rE]
 ·intro i hi hb hl hp
  (refine fork_in ?_; repeat' (refine fork_eq ?_ ?_<;>intro _<;>try simp (disch := first|assumption|omega) only [S0,rA,rQ,rB,rT,rE,S_row,impl_GoodAttr_1, *]))
 ·intro i hi hb hl hp
  (refine fork_in ?_; repeat' (refine fork_eq ?_ ?_<;>intro _<;>try simp (disch := first|assumption|omega) only [S0,rA,rQ,rB,rT,rE,S_row,impl_GoodAttr_1, *]))
 ·intro hl
  (refine fork_in ?_; repeat' (refine fork_eq ?_ ?_<;>intro _<;>try simp (disch := first|assumption|omega) only [S0,rA,rQ,rB,rT,rE, *]))
theorem ct_GoodAttr_1  (xs : List Int) (hx : xs.length <= 1099511627776) : Fun T 78 [rL xs] = some [.bool (xs.any (fun x => !inR x 0 6))] := by
 rw [Fun_k (t := tm78) rfl]; unfold tm78
 (refine fork_in ?_; repeat' (refine fork_eq ?_ ?_<;>intro _<;>try simp (disch := first|assumption|omega) only [S0,rA,rQ,rB,rT,rE,ix_GoodAttr_1,ixF_any, *]))
theorem impl_GoodAttr (n s : Int) (xs : List Int) (hx : xs.length <= 1099511627776) : Fun T 77 [i64 n, i64 s, rL xs] = some [.bool (isGrp n && attrOk n ⟨s, xs⟩)] := by
 rw [Fun_k (t := tm77) rfl]; unfold tm77; unfold attrOk
 have e : xs.any (fun x => !inR x 0 6) = !xs.all fun x => inR x 0 6 := by rw [List.not_all_eq_any_not]
 (refine fork_in ?_; repeat' (refine fork_eq ?_ ?_<;>intro _<;>try simp (disch := first|assumption|omega) only [S0,rA,rQ,rB,rT,rE,impl_IsGroup,impl_within,ct_GoodAttr_1,e,Bool.not_not, *]))
theorem spec_l1Same (xs ys : List Int) (hx : xs.length <= 1099511627776) : Fun T 45 [rL xs, rL ys] = some [.bool (decide (xs = ys))] := by
 rw [Fun_k (t := tm45) rfl]; unfold tm45
 by_cases hl : ys.length = xs.length
 ·simp (disch := first|assumption|omega) only [S0,rA,rQ,rB,rT,rE, *]
  rw [scanX 1 xs.length (fun i => decide (atI xs i = atI ys i)) [.bool false], allB_eq hl.symm]
  ·(refine fork_in ?_; repeat' (refine fork_eq ?_ ?_<;>intro _<;>try simp (disch := first|assumption|omega) only [S0,rA,rQ,rB,rT,rE, *]))
  ·intro i hi hp
   have hb : InB xs (i : Int) := InB_nat.2 hi
   have hb' : InB ys (i : Int) := InB_nat.2 (by omega)
   have h2 : decide ((i : Int) < xs.length) = true := by simp; omega
   have h3 : (atI xs i == atI ys i) = true := by simpa using hp
   (refine fork_in ?_; repeat' (refine fork_eq ?_ ?_<;>intro _<;>try simp (disch := first|assumption|omega) only [S0,rA,rQ,rB,rT,rE,S_row, *]))
  ·intro i hi hp
   have hb : InB xs (i : Int) := InB_nat.2 hi
   have hb' : InB ys (i : Int) := InB_nat.2 (by omega)
   have h2 : decide ((i : Int) < xs.length) = true := by simp; omega
   have h3 : (atI xs i == atI ys i) = false := by simpa using hp
   (refine fork_in ?_; repeat' (refine fork_eq ?_ ?_<;>intro _<;>try simp (disch := first|assumption|omega) only [S0,rA,rQ,rB,rT,rE,S_row, *]))
  ·have h2 : decide ((xs.length : Int) < xs.length) = false := by simp
   (refine fork_in ?_; repeat' (refine fork_eq ?_ ?_<;>intro _<;>try simp (disch := first|assumption|omega) only [S0,rA,rQ,rB,rT,rE, *]))
 ·have hl' : ((xs.length : Int) == (ys.length : Int)) = false := by simp; omega
  have e := eq_len (fun h => hl h.symm)
  (refine fork_in ?_; repeat' (refine fork_eq ?_ ?_<;>intro _<;>try simp (disch := first|assumption|omega) only [S0,rA,rQ,rB,rT,rE, *]))
theorem slices_Equal_int (xs ys : List Int) (hx : xs.length <= 1099511627776) : Fun T 83 [rL xs, rL ys] = some [.bool (decide (xs = ys))] := by
 rw [Fun_k (t := tm83) rfl]; unfold tm83
 by_cases hl : ys.length = xs.length
 ·simp (disch := first|assumption|omega) only [S0,rA,rQ,rB,rT,rE, *]
  rw [scanX 1 xs.length (fun i => decide (atI xs i = atI ys i)) [.bool false], allB_eq hl.symm]
  ·(refine fork_in ?_; repeat' (refine fork_eq ?_ ?_<;>intro _<;>try simp (disch := first|assumption|omega) only [S0,rA,rQ,rB,rT,rE, *]))
  ·intro i hi hp
   have hb : InB xs (i : Int) := InB_nat.2 hi
   have hb' : InB ys (i : Int) := InB_nat.2 (by omega)
   have h2 : decide ((i : Int) < xs.length) = true := by simp; omega
   have h3 : (atI xs i == atI ys i) = true := by simpa using hp
   (refine fork_in ?_; repeat' (refine fork_eq ?_ ?_<;>intro _<;>try simp (disch := first|assumption|omega) only [S0,rA,rQ,rB,rT,rE,S_row, *]))
  ·intro i hi hp
   have hb : InB xs (i : Int) := InB_nat.2 hi
   have hb' : InB ys (i : Int) := InB_nat.2 (by omega)
   have h2 : decide ((i : Int) < xs.length) = true := by simp; omega
   have h3 : (atI xs i == atI ys i) = false := by simpa using hp
   (refine fork_in ?_; repeat' (refine fork_eq ?_ ?_<;>intro _<;>try simp (disch := first|assumption|omega) only [S0,rA,rQ,rB,rT,rE,S_row, *]))
  ·have h2 : decide ((xs.length : Int) < xs.length) = false := by simp
   (refine fork_in ?_; repeat' (refine fork_eq ?_ ?_<;>intro _<;>try simp (disch := first|assumption|omega) only [S0,rA,rQ,rB,rT,rE, *]))
 ·have hl' : ((xs.length : Int) == (ys.length : Int)) = false := by simp; omega
  have e := eq_len (fun h => hl h.symm)
  (refine fork_in ?_; repeat' (refine fork_eq ?_ ?_<;>intro _<;>try simp (disch := first|assumption|omega) only [S0,rA,rQ,rB,rT,rE, *]))
theorem spec_SameAttr (s s' : Int) (xs ys : List Int) (hx : xs.length <= 1099511627776) : Fun T 44 [i64 s, rL xs, i64 s', rL ys] = some [.bool (decide ((⟨s, xs⟩ : TAttr) = ⟨s', ys⟩))] := by
 rw [Fun_k (t := tm44) rfl]; unfold tm44
 have e : decide ((⟨s, xs⟩ : TAttr) = ⟨s', ys⟩) = (s == s' && decide (xs = ys)) := by simp [TAttr.mk.injEq, Bool.beq_eq_decide_eq]
 (refine fork_in ?_; repeat' (refine fork_eq ?_ ?_<;>intro _<;>try simp (disch := first|assumption|omega) only [S0,rA,rQ,rB,rT,rE,spec_l1Same,e, *]))
theorem impl_SameAttr (s s' : Int) (xs ys : List Int) (hx : xs.length <= 1099511627776) : Fun T 82 [i64 s, rL xs, i64 s', rL ys] = some [.bool (decide ((⟨s, xs⟩ : TAttr) = ⟨s', ys⟩))] := by
 rw [Fun_k (t := tm82) rfl]; unfold tm82
 have e : decide ((⟨s, xs⟩ : TAttr) = ⟨s', ys⟩) = (s == s' && decide (xs = ys)) := by simp [TAttr.mk.injEq, Bool.beq_eq_decide_eq]
 (refine fork_in ?_; repeat' (refine fork_eq ?_ ?_<;>intro _<;>try simp (disch := first|assumption|omega) only [S0,rA,rQ,rB,rT,rE,slices_Equal_int,e, *]))
theorem spec_l3None (n : Int) (hg : isGrp n = true) : Fun T 43 [i64 n] = some [i64 (none0 n).seq, rL (none0 n).deps] := by
 rw [Fun_k (t := tm43) rfl]; unfold tm43; unfold none0
 have hn := isGrp_rng hg
 (refine fork_in ?_; repeat' (refine fork_eq ?_ ?_<;>intro _<;>try simp (disch := first|assumption|omega) only [S0,rA,rQ,rB,rT,rE,S_make, *]))
theorem impl_noneAttr (n : Int) (hg : isGrp n = true) : Fun T 81 [i64 n] = some [i64 (none0 n).seq, rL (none0 n).deps] := by
 rw [Fun_k (t := tm81) rfl]; unfold tm81; unfold none0
 have hn := isGrp_rng hg
 (refine fork_in ?_; repeat' (refine fork_eq ?_ ?_<;>intro _<;>try simp (disch := first|assumption|omega) only [S0,rA,rQ,rB,rT,rE,S_make, *]))
theorem spec_l4Row (n bal vot sta k i f t a sq : Int) (xs : List Int) (hg : isGrp n = true) (hx : xs.length <= 1099511627776) :
  Fun T 42 [i64 n, i64 bal, i64 vot, i64 sta, i64 k, i64 i, i64 f, i64 t, i64 a, i64 sq, rL xs] = some [.bool (rowOk n ⟨bal, vot, sta, ⟨k, i, f, t, a⟩, ⟨sq, xs⟩⟩)] := by
 rw [Fun_k (t := tm42) rfl]; unfold tm42; unfold rowOk
 (refine fork_in ?_; repeat' (refine fork_eq ?_ ?_<;>intro _<;>try simp (disch := first|assumption|omega) only [S0,rA,rQ,rB,rT,rE,spec_l1In,S_eqs,spec_l3None,spec_SameAttr,spec_GoodCmd,spec_l3Attr, *]))
theorem impl_goodRow (n bal vot sta k i f t a sq : Int) (xs : List Int) (hg : isGrp n = true) (hx : xs.length <= 1099511627776) :
  Fun T 74 [i64 n, i64 bal, i64 vot, i64 sta, i64 k, i64 i, i64 f, i64 t, i64 a, i64 sq, rL xs] = some [.bool (rowOk n ⟨bal, vot, sta, ⟨k, i, f, t, a⟩, ⟨sq, xs⟩⟩)] := by
 rw [Fun_k (t := tm74) rfl]; unfold tm74; unfold rowOk
 have h1 := @cmdZ_ok ⟨k, i, f, t, a⟩
 have h2 := none0_ok hg
 have h3 : decide ((⟨sq, xs⟩ : TAttr) = none0 n) = true -> attrOk n ⟨sq, xs⟩ = true := fun h => by rw [of_decide_eq_true h]; exact h2
 (refine fork_in ?_; repeat' (refine fork_eq ?_ ?_<;>intro _<;>try simp (disch := first|assumption|omega) only [S0,rA,rQ,rB,rT,rE,impl_within,S_eqs,impl_noneAttr,impl_SameAttr,impl_GoodCmd,impl_GoodAttr, *]))
 all_goals (refine bool_fin ?_; simp only [Bool.and_eq_true, Bool.or_eq_true, Bool.not_eq_true', Bool.not_eq_false', Bool.and_eq_false_iff, Bool.or_eq_false_iff, Bool.false_eq_true, beq_iff_eq, beq_eq_false_iff_ne, decide_eq_true_eq, decide_eq_false_iff_not, ne_eq] at *; grind)
theorem slices_Clone_int (xs : List Int) (hx : xs.length <= 10000000000) : Fun T 73 [rL xs] = some [rL xs] := by
 rw [Fun_ext (e := ex73) rfl]
 cases xs with
 | nil => rfl
 | cons x xs =>
  show Fun (entTab [(73, .tm tm73)]) 73 [rL (x :: xs)] = _
  rw [Fun_k (t := tm73) rfl]
  unfold tm73
  have hx' : (x :: xs).length <= 100000000000 := by omega
  have h0 : (Prim.mk 1 0).run [] = some [.rows 1 []] := rfl
  have h1 : (x :: xs).isEmpty = false := rfl
  simp (disch := first | assumption | omega) only [SA, SB, SC, SP, SQ, SZ, reduceIte, reduceCtorEq, Nat.reduceAdd, Nat.reduceEqDiff, rL_ne, rL_emp, h0, h1, S_app]
theorem impl_Attr_copied (s : Int) (xs : List Int) (hx : xs.length <= 10000000000) : Fun T 72 [i64 s, rL xs] = some [i64 s, rL xs] := by
 rw [Fun_k (t := tm72) rfl]; unfold tm72
 (refine fork_in ?_; repeat' (refine fork_eq ?_ ?_<;>intro _<;>try simp (disch := first|assumption|omega) only [S0,rA,rQ,rB,rT,rE,slices_Clone_int, *]))
theorem impl_Msg_row (m_kind m_src m_dst m_rep m_no m_ballot m_vote m_state m_cmd_kind m_cmd_id m_cmd_src m_cmd_dst m_cmd_amt m_attr_seq : Int) (m_attr_deps : (List Int)) (hx : m_attr_deps.length <= 10000000000) : Fun T 71 [i64 m_kind, i64 m_src, i64 m_dst, i64 m_rep, i64 m_no, i64 m_ballot, i64 m_vote, i64 m_state, i64 m_cmd_kind, i64 m_cmd_id, i64 m_cmd_src, i64 m_cmd_dst, i64 m_cmd_amt, i64 m_attr_seq, rL m_attr_deps] = some [i64 m_ballot, i64 m_vote, i64 m_state, i64 m_cmd_kind, i64 m_cmd_id, i64 m_cmd_src, i64 m_cmd_dst, i64 m_cmd_amt, i64 m_attr_seq, rL m_attr_deps] := by
 rw [Fun_k (t := tm71) rfl]; unfold tm71
 (refine fork_in ?_; repeat' (refine fork_eq ?_ ?_<;>intro _<;>try simp (disch := first|assumption|omega) only [S0,rA,rQ,rB,rT,rE,impl_Attr_copied, *]))
theorem spec_GoodMsg (n : Int) (m_kind m_src m_dst m_rep m_no m_ballot m_vote m_state m_cmd_kind m_cmd_id m_cmd_src m_cmd_dst m_cmd_amt m_attr_seq : Int) (m_attr_deps : (List Int)) (hx : m_attr_deps.length <= 10000000000) : Fun T 51 [i64 n, i64 m_kind, i64 m_src, i64 m_dst, i64 m_rep, i64 m_no, i64 m_ballot, i64 m_vote, i64 m_state, i64 m_cmd_kind, i64 m_cmd_id, i64 m_cmd_src, i64 m_cmd_dst, i64 m_cmd_amt, i64 m_attr_seq, rL m_attr_deps] = some [.bool (msgOk n ⟨m_kind, m_src, m_dst, m_rep, m_no, m_ballot, m_vote, m_state, ⟨m_cmd_kind, m_cmd_id, m_cmd_src, m_cmd_dst, m_cmd_amt⟩, ⟨m_attr_seq, m_attr_deps⟩⟩)] := by
 rw [Fun_k (t := tm51) rfl]; unfold tm51; unfold msgOk
 have hx' : m_attr_deps.length <= 1099511627776 := by omega
 cases hg : isGrp n
 ·(refine fork_in ?_; repeat' (refine fork_eq ?_ ?_<;>intro _<;>try simp (disch := first|assumption|omega) only [S0,rA,rQ,rB,rT,rE,spec_IsGroup, *]))
 have hn := isGrp_rng hg
 (refine fork_in ?_; repeat' (refine fork_eq ?_ ?_<;>intro _<;>try simp (disch := first|assumption|omega) only [S0,rA,rQ,rB,rT,rE,spec_IsGroup,spec_l1In,spec_l3Inst,spec_l4Row,spec_l3Attr,spec_GoodCmd,S_eqs,spec_l3None,spec_SameAttr, *]))
 all_goals (refine bool_fin ?_; simp only [Bool.and_eq_true, Bool.or_eq_true, Bool.not_eq_true', Bool.not_eq_false', Bool.and_eq_false_iff, Bool.or_eq_false_iff, Bool.false_eq_true, beq_iff_eq, beq_eq_false_iff_ne, decide_eq_true_eq, decide_eq_false_iff_not, ne_eq] at *; grind)
theorem impl_GoodMsg (n : Int) (m_kind m_src m_dst m_rep m_no m_ballot m_vote m_state m_cmd_kind m_cmd_id m_cmd_src m_cmd_dst m_cmd_amt m_attr_seq : Int) (m_attr_deps : (List Int)) (hx : m_attr_deps.length <= 10000000000) : Fun T 68 [i64 n, i64 m_kind, i64 m_src, i64 m_dst, i64 m_rep, i64 m_no, i64 m_ballot, i64 m_vote, i64 m_state, i64 m_cmd_kind, i64 m_cmd_id, i64 m_cmd_src, i64 m_cmd_dst, i64 m_cmd_amt, i64 m_attr_seq, rL m_attr_deps] = some [.bool (msgOk n ⟨m_kind, m_src, m_dst, m_rep, m_no, m_ballot, m_vote, m_state, ⟨m_cmd_kind, m_cmd_id, m_cmd_src, m_cmd_dst, m_cmd_amt⟩, ⟨m_attr_seq, m_attr_deps⟩⟩)] := by
 rw [Fun_k (t := tm68) rfl]; unfold tm68; unfold msgOk
 have hx' : m_attr_deps.length <= 1099511627776 := by omega
 cases hg : isGrp n
 ·(refine fork_in ?_; repeat' (refine fork_eq ?_ ?_<;>intro _<;>try simp (disch := first|assumption|omega) only [S0,rA,rQ,rB,rT,rE,impl_isInstance,impl_within, *]))
 have hn := isGrp_rng hg
 have hk : inR m_kind 1 7 = true -> 1 <= m_kind /\ m_kind <= 7 := by simp [inR]
 (refine fork_in ?_; repeat' (refine fork_eq ?_ ?_<;>intro _<;>try simp (disch := first|assumption|omega) only [S0,rA,rQ,rB,rT,rE,impl_isInstance,impl_within,impl_Msg_row,impl_goodRow,impl_GoodAttr,impl_GoodCmd,S_eqs,impl_noneAttr,impl_SameAttr, *]))
 all_goals (refine bool_fin ?_; simp only [Bool.and_eq_true, Bool.or_eq_true, Bool.not_eq_true', Bool.not_eq_false', Bool.and_eq_false_iff, Bool.or_eq_false_iff, Bool.false_eq_true, beq_iff_eq, beq_eq_false_iff_ne, decide_eq_true_eq, decide_eq_false_iff_not, ne_eq] at *; grind)
theorem spec_GoodTable (n : Int) (rows : List (List TRow)) (hs : smTab rows) : Fun T 41 [i64 n, rL rows] = some [.bool (tabOk ⟨n, rows⟩)] := by
 rw [Fun_k (t := tm41) rfl]; unfold tm41; unfold tabOk
 obtain ⟨hs1, hs2⟩ := hs
 cases hg : isGrp n
 ·(refine fork_in ?_; repeat' (refine fork_eq ?_ ?_<;>intro _<;>try simp (disch := first|assumption|omega) only [S0,rA,rQ,rB,rT,rE,spec_IsGroup, *]))
 cases hl : (rows.length : Int) == n
 ·(refine fork_in ?_; repeat' (refine fork_eq ?_ ?_<;>intro _<;>try simp (disch := first|assumption|omega) only [S0,rA,rQ,rB,rT,rE,spec_IsGroup, *]))
 simp (disch := first|assumption|omega) only [S0,rA,rQ,rB,rT,rE, spec_IsGroup, *]
 rw [allF 1 rows (fun l => l.all (fun r => rowOk n r) && decide ((l.length : Int) <= 6)) [.bool false]]
 ·(refine fork_in ?_; repeat' (refine fork_eq ?_ ?_<;>intro _<;>try simp (disch := first|assumption|omega) only [S0,rA,rQ,rB,rT,rE, *]))
 ·intro i hi hb hlt hm
  obtain ⟨hq1, hq2⟩ := hs2 _ hm
  simp (disch := first|assumption|omega) only [S0,rA,rQ,rB,rT,rE, S_row, *]
  rw [allF 3 (atI rows i) (fun r => rowOk n r) [.bool false]]
  ·have e : decide (6 < ((atI rows (i : Int)).length : Int)) = !decide (((atI rows (i : Int)).length : Int) <= 6) := by
    by_cases h : ((atI rows (i : Int)).length : Int) <= 6
    ·simp [h]
    ·simp [h]; omega
   (refine fork_in ?_; repeat' (refine fork_eq ?_ ?_<;>intro _<;>try simp (disch := first|assumption|omega) only [S0,rA,rQ,rB,rT,rE,e, *]))
  ·intro j hj hb2 hlt2 hm2
   have hq3 := hq2 _ hm2
   have hq4 : (atI (atI rows (i : Int)) (j : Int)).attr.deps.length <= 1099511627776 := by omega
   (refine fork_in ?_; repeat' (refine fork_eq ?_ ?_<;>intro _<;>try simp (disch := first|assumption|omega) only [S0,rA,rQ,rB,rT,rE,S_row,spec_l4Row, *]))
  ·intro hl2
   (refine fork_in ?_; repeat' (refine fork_eq ?_ ?_<;>intro _<;>try simp (disch := first|assumption|omega) only [S0,rA,rQ,rB,rT,rE, *]))
 ·intro hl2
  (refine fork_in ?_; repeat' (refine fork_eq ?_ ?_<;>intro _<;>try simp (disch := first|assumption|omega) only [S0,rA,rQ,rB,rT,rE, *]))
theorem impl_GoodTable_1_1 (r_ballot r_vote r_state r_cmd_kind r_cmd_id r_cmd_src r_cmd_dst r_cmd_amt r_attr_seq : Int) (r_attr_deps : (List Int)) (n : Int) (rows : List (List TRow)) (hg : isGrp n = true) (hx : r_attr_deps.length <= 1099511627776) : Fun T 91 [i64 r_ballot, i64 r_vote, i64 r_state, i64 r_cmd_kind, i64 r_cmd_id, i64 r_cmd_src, i64 r_cmd_dst, i64 r_cmd_amt, i64 r_attr_seq, rL r_attr_deps, i64 n, rL rows] = some [.bool (!rowOk n ⟨r_ballot, r_vote, r_state, ⟨r_cmd_kind, r_cmd_id, r_cmd_src, r_cmd_dst, r_cmd_amt⟩, ⟨r_attr_seq, r_attr_deps⟩⟩)] := by
 rw [Fun_k (t := tm91) rfl]; unfold tm91
 (refine fork_in ?_; repeat' (refine fork_eq ?_ ?_<;>intro _<;>try simp (disch := first|assumption|omega) only [S0,rA,rQ,rB,rT,rE,impl_goodRow, *]))
theorem ix_GoodTable_1_1 (n : Int) (rows : List (List TRow)) (hg : isGrp n = true) (xs : List TRow) (hx : xs.length <= 1099511627776) (hq : ∀ x ∈ xs, x.attr.deps.length <= 1099511627776) : Fun T 90 [rL xs, i64 n, rL rows] = some [i64 (ixF (fun r => !rowOk n r) xs)] := by
 rw [Fun_k (t := tm90) rfl]; unfold tm90
 simp (disch := first|assumption|omega) only [S0,rA,rQ,rB,rT,rE, S_row, *]
 rw [findX 1 xs (fun r => !rowOk n r) (fun i => [i64 i])]
 ·cases h : xs.any (fun r => !rowOk n r)
  ·have e : ixF (fun r => !rowOk n r) xs = -1 := by
    have h2 := ixF_any (fun r => !rowOk n r) xs
    rw [h] at h2
    unfold ixF at h2 ⊢
    split at h2 <;> simp_all
   rw [e]; simp (disch := first|assumption|omega) only [S0,rA,rQ,rB,rT,rE]
  ·simp (disch := first|assumption|omega) only [S0,rA,rQ,rB,rT,rE]
 ·intro i hi hb hl hp
  have hq' := hq _ (at_mem hi)
  try simp only at hq' hp
  (refine fork_in ?_; repeat' (refine fork_eq ?_ ?_<;>intro _<;>try simp (disch := first|assumption|omega) only [S0,rA,rQ,rB,rT,rE,S_row,impl_GoodTable_1_1, *]))
 ·intro i hi hb hl hp
  have hq' := hq _ (at_mem hi)
  try simp only at hq' hp
  (refine fork_in ?_; repeat' (refine fork_eq ?_ ?_<;>intro _<;>try simp (disch := first|assumption|omega) only [S0,rA,rQ,rB,rT,rE,S_row,impl_GoodTable_1_1, *]))
 ·intro hl
  (refine fork_in ?_; repeat' (refine fork_eq ?_ ?_<;>intro _<;>try simp (disch := first|assumption|omega) only [S0,rA,rQ,rB,rT,rE, *]))
theorem ct_GoodTable_1_1 (n : Int) (rows : List (List TRow)) (hg : isGrp n = true) (xs : List TRow) (hx : xs.length <= 1099511627776) (hq : ∀ x ∈ xs, x.attr.deps.length <= 1099511627776) : Fun T 89 [rL xs, i64 n, rL rows] = some [.bool (xs.any (fun r => !rowOk n r))] := by
 rw [Fun_k (t := tm89) rfl]; unfold tm89
 (refine fork_in ?_; repeat' (refine fork_eq ?_ ?_<;>intro _<;>try simp (disch := first|assumption|omega) only [S0,rA,rQ,rB,rT,rE,ix_GoodTable_1_1,ixF_any, *]))
theorem impl_GoodTable_1 (l : List TRow) (n : Int) (rows : List (List TRow)) (hg : isGrp n = true) (hx : l.length <= 1099511627776) (hq : ∀ x ∈ l, x.attr.deps.length <= 1099511627776) : Fun T 88 [rL l, i64 n, rL rows] = some [.bool (decide (6 < (l.length : Int)) || l.any fun r => !rowOk n r)] := by
 rw [Fun_k (t := tm88) rfl]; unfold tm88
 (refine fork_in ?_; repeat' (refine fork_eq ?_ ?_<;>intro _<;>try simp (disch := first|assumption|omega) only [S0,rA,rQ,rB,rT,rE,ct_GoodTable_1_1, *]))
theorem ix_GoodTable_1 (n : Int) (rows : List (List TRow)) (hg : isGrp n = true) (xs : List (List TRow)) (hx : xs.length <= 1099511627776) (hq : ∀ x ∈ xs, x.length <= 1099511627776 /\ ∀ y ∈ x, y.attr.deps.length <= 1099511627776) : Fun T 87 [rL xs, i64 n, rL rows] = some [i64 (ixF (fun l => decide (6 < (l.length : Int)) || l.any fun r => !rowOk n r) xs)] := by
 rw [Fun_k (t := tm87) rfl]; unfold tm87
 simp (disch := first|assumption|omega) only [S0,rA,rQ,rB,rT,rE, S_row, *]
 rw [findX 1 xs (fun l => decide (6 < (l.length : Int)) || l.any fun r => !rowOk n r) (fun i => [i64 i])]
 ·cases h : xs.any (fun l => decide (6 < (l.length : Int)) || l.any fun r => !rowOk n r)
  ·have e : ixF (fun l => decide (6 < (l.length : Int)) || l.any fun r => !rowOk n r) xs = -1 := by
    have h2 := ixF_any (fun l => decide (6 < (l.length : Int)) || l.any fun r => !rowOk n r) xs
    rw [h] at h2
    unfold ixF at h2 ⊢
    split at h2 <;> simp_all
   rw [e]; simp (disch := first|assumption|omega) only [S0,rA,rQ,rB,rT,rE]
  ·simp (disch := first|assumption|omega) only [S0,rA,rQ,rB,rT,rE]
 ·intro i hi hb hl hp
  have hq' := hq _ (at_mem hi)
  try simp only at hq' hp
  obtain ⟨hq1, hq2⟩ := hq'
  (refine fork_in ?_; repeat' (refine fork_eq ?_ ?_<;>intro _<;>try simp (disch := first|assumption|omega) only [S0,rA,rQ,rB,rT,rE,S_row,impl_GoodTable_1, *]))
 ·intro i hi hb hl hp
  have hq' := hq _ (at_mem hi)
  try simp only at hq' hp
  obtain ⟨hq1, hq2⟩ := hq'
  (refine fork_in ?_; repeat' (refine fork_eq ?_ ?_<;>intro _<;>try simp (disch := first|assumption|omega) only [S0,rA,rQ,rB,rT,rE,S_row,impl_GoodTable_1, *]))
 ·intro hl
  (refine fork_in ?_; repeat' (refine fork_eq ?_ ?_<;>intro _<;>try simp (disch := first|assumption|omega) only [S0,rA,rQ,rB,rT,rE, *]))
theorem ct_GoodTable_1 (n : Int) (rows : List (List TRow)) (hg : isGrp n = true) (xs : List (List TRow)) (hx : xs.length <= 1099511627776) (hq : ∀ x ∈ xs, x.length <= 1099511627776 /\ ∀ y ∈ x, y.attr.deps.length <= 1099511627776) : Fun T 86 [rL xs, i64 n, rL rows] = some [.bool (xs.any (fun l => decide (6 < (l.length : Int)) || l.any fun r => !rowOk n r))] := by
 rw [Fun_k (t := tm86) rfl]; unfold tm86
 (refine fork_in ?_; repeat' (refine fork_eq ?_ ?_<;>intro _<;>try simp (disch := first|assumption|omega) only [S0,rA,rQ,rB,rT,rE,ix_GoodTable_1,ixF_any, *]))
theorem impl_GoodTable (n : Int) (rows : List (List TRow)) (hs : smTab rows) : Fun T 85 [i64 n, rL rows] = some [.bool (tabOk ⟨n, rows⟩)] := by
 rw [Fun_k (t := tm85) rfl]; unfold tm85; unfold tabOk
 obtain ⟨hs1, hs2⟩ := hs
 have hs3 : ∀ x ∈ rows, x.length <= 1099511627776 /\ ∀ y ∈ x, y.attr.deps.length <= 1099511627776 := fun x hx => ⟨by have := (hs2 x hx).1; omega, fun y hy => by have := (hs2 x hx).2 y hy; omega⟩
 have e : (rows.any fun l => decide (6 < (l.length : Int)) || l.any fun r => !rowOk n r) = !rows.all fun l => l.all (fun r => rowOk n r) && decide ((l.length : Int) <= 6) := by
  rw [List.not_all_eq_any_not]
  congr 1
  funext l
  rw [<- List.not_all_eq_any_not, Bool.not_and, Bool.or_comm]
  congr 1
  by_cases h : (l.length : Int) <= 6
  ·simp [h]
  ·simp [h]; omega
 (refine fork_in ?_; repeat' (refine fork_eq ?_ ?_<;>intro _<;>try simp (disch := first|assumption|omega) only [S0,rA,rQ,rB,rT,rE,impl_IsGroup,ct_GoodTable_1,e,Bool.not_not, *]))
theorem spec_l1Own (xs : List Int) (hx : xs.length <= 10000000000) : Fun T 57 [rL xs] = some [rL xs] := by
 rw [Fun_k (t := tm57) rfl]; unfold tm57
 have h0 : (Prim.mk 1 0).run [] = some [.rows 1 []] := rfl
 (refine fork_in ?_; repeat' (refine fork_eq ?_ ?_<;>intro _<;>try simp (disch := first|assumption|omega) only [S0,rA,rQ,rB,rT,rE,h0,S_app, *]))
theorem spec_l4OwnAttr (s : Int) (xs : List Int) (hx : xs.length <= 10000000000) : Fun T 56 [i64 s, rL xs] = some [i64 s, rL xs] := by
 rw [Fun_k (t := tm56) rfl]; unfold tm56
 (refine fork_in ?_; repeat' (refine fork_eq ?_ ?_<;>intro _<;>try simp (disch := first|assumption|omega) only [S0,rA,rQ,rB,rT,rE,spec_l1Own, *]))
theorem spec_l4OwnRow (r_ballot r_vote r_state r_cmd_kind r_cmd_id r_cmd_src r_cmd_dst r_cmd_amt r_attr_seq : Int) (r_attr_deps : (List Int)) (hx : r_attr_deps.length <= 10000000000) : Fun T 55 [i64 r_ballot, i64 r_vote, i64 r_state, i64 r_cmd_kind, i64 r_cmd_id, i64 r_cmd_src, i64 r_cmd_dst, i64 r_cmd_amt, i64 r_attr_seq, rL r_attr_deps] = some [i64 r_ballot, i64 r_vote, i64 r_state, i64 r_cmd_kind, i64 r_cmd_id, i64 r_cmd_src, i64 r_cmd_dst, i64 r_cmd_amt, i64 r_attr_seq, rL r_attr_deps] := by
 rw [Fun_k (t := tm55) rfl]; unfold tm55
 (refine fork_in ?_; repeat' (refine fork_eq ?_ ?_<;>intro _<;>try simp (disch := first|assumption|omega) only [S0,rA,rQ,rB,rT,rE,spec_l4OwnAttr, *]))
theorem impl_Row_copied (r_ballot r_vote r_state r_cmd_kind r_cmd_id r_cmd_src r_cmd_dst r_cmd_amt r_attr_seq : Int) (r_attr_deps : (List Int)) (hx : r_attr_deps.length <= 10000000000) : Fun T 114 [i64 r_ballot, i64 r_vote, i64 r_state, i64 r_cmd_kind, i64 r_cmd_id, i64 r_cmd_src, i64 r_cmd_dst, i64 r_cmd_amt, i64 r_attr_seq, rL r_attr_deps] = some [i64 r_ballot, i64 r_vote, i64 r_state, i64 r_cmd_kind, i64 r_cmd_id, i64 r_cmd_src, i64 r_cmd_dst, i64 r_cmd_amt, i64 r_attr_seq, rL r_attr_deps] := by
 rw [Fun_k (t := tm114) rfl]; unfold tm114
 (refine fork_in ?_; repeat' (refine fork_eq ?_ ?_<;>intro _<;>try simp (disch := first|assumption|omega) only [S0,rA,rQ,rB,rT,rE,impl_Attr_copied, *]))
theorem spec_l4At (n : Int) (rows : List (List TRow)) (rep no : Int) (hg : isGrp n = true) (hs : smTab rows) (hb : InB rows rep) (h1 : 1 <= no) (h2 : no <= 1000) : Fun T 54 [i64 n, rL rows, i64 rep, i64 no] = some [i64 (trow ⟨n, rows⟩ rep no).ballot, i64 (trow ⟨n, rows⟩ rep no).vote, i64 (trow ⟨n, rows⟩ rep no).state, i64 (trow ⟨n, rows⟩ rep no).cmd.kind, i64 (trow ⟨n, rows⟩ rep no).cmd.id, i64 (trow ⟨n, rows⟩ rep no).cmd.src, i64 (trow ⟨n, rows⟩ rep no).cmd.dst, i64 (trow ⟨n, rows⟩ rep no).cmd.amt, i64 (trow ⟨n, rows⟩ rep no).attr.seq, rL (trow ⟨n, rows⟩ rep no).attr.deps] := by
 rw [Fun_k (t := tm54) rfl]; unfold tm54; unfold trow row0
 have hq := hs.2 _ (at_memI hb)
 by_cases h : no <= (atI rows rep).length
 ·have h3 : decide (((atI rows rep).length : Int) < no) = false := by simp; omega
  have hb2 : InB (atI rows rep) (no - 1) := by unfold InB; omega
  have hq2 := hq.2 _ (at_memI hb2)
  (refine fork_in ?_; repeat' (refine fork_eq ?_ ?_<;>intro _<;>try simp (disch := first|assumption|omega) only [S0,rA,rQ,rB,rT,rE,S_row,spec_l4OwnRow, *]))
 ·have h3 : decide (((atI rows rep).length : Int) < no) = true := by simp; omega
  (refine fork_in ?_; repeat' (refine fork_eq ?_ ?_<;>intro _<;>try simp (disch := first|assumption|omega) only [S0,rA,rQ,rB,rT,rE,S_row,spec_l3None, *]))
theorem impl_Table_row (n : Int) (rows : List (List TRow)) (rep no : Int) (hg : isGrp n = true) (hs : smTab rows) (hb : InB rows rep) (h1 : 1 <= no) (h2 : no <= 1000) : Fun T 113 [i64 n, rL rows, i64 rep, i64 no] = some [i64 (trow ⟨n, rows⟩ rep no).ballot, i64 (trow ⟨n, rows⟩ rep no).vote, i64 (trow ⟨n, rows⟩ rep no).state, i64 (trow ⟨n, rows⟩ rep no).cmd.kind, i64 (trow ⟨n, rows⟩ rep no).cmd.id, i64 (trow ⟨n, rows⟩ rep no).cmd.src, i64 (trow ⟨n, rows⟩ rep no).cmd.dst, i64 (trow ⟨n, rows⟩ rep no).cmd.amt, i64 (trow ⟨n, rows⟩ rep no).attr.seq, rL (trow ⟨n, rows⟩ rep no).attr.deps] := by
 rw [Fun_k (t := tm113) rfl]; unfold tm113; unfold trow row0
 have hq := hs.2 _ (at_memI hb)
 by_cases h : no <= (atI rows rep).length
 ·have h3 : decide (no <= ((atI rows rep).length : Int)) = true := by simp; omega
  have hb2 : InB (atI rows rep) (no - 1) := by unfold InB; omega
  have hq2 := hq.2 _ (at_memI hb2)
  (refine fork_in ?_; repeat' (refine fork_eq ?_ ?_<;>intro _<;>try simp (disch := first|assumption|omega) only [S0,rA,rQ,rB,rT,rE,S_row,impl_Row_copied, *]))
 ·have h3 : decide (no <= ((atI rows rep).length : Int)) = false := by simp; omega
  (refine fork_in ?_; repeat' (refine fork_eq ?_ ?_<;>intro _<;>try simp (disch := first|assumption|omega) only [S0,rA,rQ,rB,rT,rE,S_row,impl_noneAttr, *]))
theorem spec_l4New (n : Int) (hg : isGrp n = true) : Fun T 59 [i64 n] = some [i64 n, rL (List.replicate n.toNat ([] : List TRow))] := by
 rw [Fun_k (t := tm59) rfl]; unfold tm59
 have hn := isGrp_rng hg
 (refine fork_in ?_; repeat' (refine fork_eq ?_ ?_<;>intro _<;>try simp (disch := first|assumption|omega) only [S0,rA,rQ,rB,rT,rE,S_make, *]))
theorem spec_l4Own (n : Int) (rows : List (List TRow)) (hg : isGrp n = true) (hl : (rows.length : Int) = n) (hs : smTab rows) : Fun T 61 [i64 n, rL rows] = some [i64 n, rL rows] := by
 rw [Fun_k (t := tm61) rfl]; unfold tm61
 obtain ⟨hs1, hs2⟩ := hs
 have hn := isGrp_rng hg
 have e0 : List.replicate n.toNat ([] : List TRow) = upto [] rows 0 := by rw [upto_zero]; congr 1; omega
 simp (disch := first | assumption | omega) only [SA, SB, SC, SP, SQ, SZ, reduceIte, reduceCtorEq, Nat.reduceAdd, Nat.reduceEqDiff, spec_l4New]
 rw [loopN rows.length (fun i => [i64 i, rL (upto [] rows i)]) (.yield 1, [rL rows]) (by rw [e0]; rfl) (by simp)]
 ·(refine fork_in ?_; repeat' (refine fork_eq ?_ ?_<;>intro _<;>try simp (disch := first|assumption|omega) only [S0,rA,rQ,rB,rT,rE, *]))
 ·intro i hi hlt
  have hb : InB rows (i : Int) := InB_nat.2 hi
  have hq := hs2 _ (at_mem hi)
  have hu : (upto [] rows i).length = rows.length := upto_len [] rows (Nat.le_of_lt hi)
  have hbu : InB (upto [] rows i) (i : Int) := InB_nat.2 (by rw [hu]; exact hi)
  have hu0 : upto [] rows i = setI (upto [] rows i) i ((atI rows (i : Int)).take 0) := by
   have : atI (upto [] rows i) (i : Int) = [] := by
    unfold upto
    rw [atI_nat, List.getD_eq_getElem?_getD, List.getElem?_append_right (by rw [List.length_take]; omega), List.getElem?_replicate]
    split <;> rfl
   have h3 := setI_at hbu
   rw [this] at h3
   rw [List.take_zero]; exact h3.symm
  have hu1 : setI (upto [] rows i) i (atI rows (i : Int)) = upto [] rows (i + 1) := by
   rw [setI]
   exact upto_set [] rows (by rw [atI_get hi]; exact List.getElem?_eq_getElem hi)
  obtain ⟨hq1, hq2⟩ := hq
  have hr : rows.length <= 10 := by omega
  simp (disch := first|assumption|omega) only [S0,rA,rQ,rB,rT,rE, S_row, hlt]
  rw [loopN (atI rows (i : Int)).length (fun j => [i64 j, rL (setI (upto [] rows i) i ((atI rows (i : Int)).take j))]) (.yield 3, [rL (upto [] rows (i + 1))]) (by rw [<- hu0]; rfl) (by simp)]
  ·clear hu hu0 hu1
   simp (disch := first|assumption|omega) only [S0,rA,rQ,rB,rT,rE]
  ·intro j hj hlt2
   have hb2 : InB (atI rows (i : Int)) (j : Int) := InB_nat.2 hj
   have hq3 := hq2 _ (at_mem hj)
   have ha : atI (setI (upto [] rows i) (i : Int) ((atI rows (i : Int)).take j)) (i : Int) = (atI rows (i : Int)).take j := by
    have := S_upd
    exact this.1 hbu
   have hbs : InB (setI (upto [] rows i) (i : Int) ((atI rows (i : Int)).take j)) (i : Int) := InB_nat.2 (by rw [setI, List.length_set, hu]; exact hi)
   have hta := take_at hj
   have hll : ((atI rows (i : Int)).take j).length + 1 <= 100000000000 := by rw [List.length_take]; omega
   have hll2 : ((atI rows (i : Int)).take j).length + ([atI (atI rows (i : Int)) (j : Int)] : List TRow).length <= 100000000000 := hll
   clear hu hu0 hu1
   simp (disch := first|assumption|omega) only [S0,rA,rQ,rB,rT,rE, S_row, S_set, S_mk, S_app, S_hole, S_upd, spec_l4OwnRow, hlt2, ha, hta]
  ·intro hlt2
   rw [List.take_length]
   clear hu hu0
   (refine fork_in ?_; repeat' (refine fork_eq ?_ ?_<;>intro _<;>try simp (disch := first|assumption|omega) only [S0,rA,rQ,rB,rT,rE, *]))
 ·intro hlt
  rw [upto_all]
  simp (disch := first|assumption|omega) only [S0,rA,rQ,rB,rT,rE, hlt]
theorem spec_l4Set (n : Int) (rows : List (List TRow)) (rep no : Int) (r_ballot r_vote r_state r_cmd_kind r_cmd_id r_cmd_src r_cmd_dst r_cmd_amt r_attr_seq : Int) (r_attr_deps : (List Int)) (hg : isGrp n = true) (hl : (rows.length : Int) = n) (hs : smTab rows) (hb : InB rows rep) (h1 : 1 <= no) (h2 : no <= 1000) (hx : r_attr_deps.length <= 10000000000) :
  Fun T 60 [i64 n, rL rows, i64 rep, i64 no, i64 r_ballot, i64 r_vote, i64 r_state, i64 r_cmd_kind, i64 r_cmd_id, i64 r_cmd_src, i64 r_cmd_dst, i64 r_cmd_amt, i64 r_attr_seq, rL r_attr_deps] = some [i64 (tset ⟨n, rows⟩ rep no ⟨r_ballot, r_vote, r_state, ⟨r_cmd_kind, r_cmd_id, r_cmd_src, r_cmd_dst, r_cmd_amt⟩, ⟨r_attr_seq, r_attr_deps⟩⟩).n, rL (tset ⟨n, rows⟩ rep no ⟨r_ballot, r_vote, r_state, ⟨r_cmd_kind, r_cmd_id, r_cmd_src, r_cmd_dst, r_cmd_amt⟩, ⟨r_attr_seq, r_attr_deps⟩⟩).rows] := by
 rw [Fun_k (t := tm60) rfl]; unfold tm60; unfold tset
 have hq := hs.2 _ (at_memI hb)
 have hq1 := hq.1
 simp (maxSteps := 2000000) (disch := first | assumption | omega) only [SA, SB, SC, SP, SQ, SZ, reduceIte, reduceCtorEq, Nat.reduceAdd, Nat.reduceEqDiff, spec_l4Own, hg, hl]
 rw [whileE (T := T) (.yield 1, [rL (setI rows rep (ext n (atI rows rep) no))]) (fun j : Nat => (no - (atI rows rep).length).toNat - j) (fun j => j <= (no - (atI rows rep).length).toNat) (fun j => [rL (setI rows rep (atI rows rep ++ List.replicate j (row0 n)))]) 0 (by rw [List.replicate_zero, List.append_nil, setI_at hb]; rfl) (by omega) (by simp)]
 ·have hb2 : InB (setI rows rep (ext n (atI rows rep) no)) rep := by unfold InB; rw [setI, List.length_set]; exact hb
  have ha : atI (setI rows rep (ext n (atI rows rep) no)) rep = ext n (atI rows rep) no := S_upd.1 hb
  have hb3 : InB (ext n (atI rows rep) no) (no - 1) := by unfold InB; rw [ext_len (by omega)]; omega
  simp (disch := first|assumption|omega) only [S0,rA,rQ,rB,rT,rE, S_row, S_set, S_upd, spec_l4OwnRow, ha]
 ·intro j hj
  have hb2 : InB (setI rows rep (atI rows rep ++ List.replicate j (row0 n))) rep := by unfold InB; rw [setI, List.length_set]; exact hb
  have ha : atI (setI rows rep (atI rows rep ++ List.replicate j (row0 n))) rep = atI rows rep ++ List.replicate j (row0 n) := S_upd.1 hb
  have hlen : ((atI rows rep ++ List.replicate j (row0 n)).length : Int) = (atI rows rep).length + j := by simp
  have hrep : (atI rows rep ++ List.replicate j (row0 n)) ++ [row0 n] = atI rows rep ++ List.replicate (j + 1) (row0 n) := by rw [List.append_assoc, <- List.replicate_succ']
  have hll : (atI rows rep ++ List.replicate j (row0 n)).length + ([row0 n] : List TRow).length <= 100000000000 := by simp only [List.length_append, List.length_replicate, List.length_cons, List.length_nil]; omega
  unfold row0 at hrep hll ha hb2 hlen ⊢
  by_cases hc : (atI rows rep).length + j < no
  ·have hc' : decide (((atI rows rep).length : Int) + j < no) = true := by simpa using hc
   refine .inl ⟨j + 1, ?_, by omega, by omega⟩
   simp (disch := first|assumption|omega) only [S0,rA,rQ,rB,rT,rE, S_row, S_set, S_mk, S_app, S_hole, S_upd, spec_l3None, ha, hlen, hc', hrep]
  ·have hc' : decide (((atI rows rep).length : Int) + j < no) = false := by simpa using hc
   have hj2 : j = (no - (atI rows rep).length).toNat := by omega
   refine .inr ?_
   simp (disch := first|assumption|omega) only [S0,rA,rQ,rB,rT,rE, S_row, S_set, S_mk, S_app, S_hole, S_upd, ha, hlen, hc']
   rw [hj2]; rfl
theorem impl_Table_set (n : Int) (rows : List (List TRow)) (rep no : Int) (r_ballot r_vote r_state r_cmd_kind r_cmd_id r_cmd_src r_cmd_dst r_cmd_amt r_attr_seq : Int) (r_attr_deps : (List Int)) (hg : isGrp n = true) (hs : smTab rows) (hb : InB rows rep) (h1 : 1 <= no) (h2 : no <= 1000) (hx : r_attr_deps.length <= 10000000000) :
  Fun T 117 [i64 rep, i64 no, i64 r_ballot, i64 r_vote, i64 r_state, i64 r_cmd_kind, i64 r_cmd_id, i64 r_cmd_src, i64 r_cmd_dst, i64 r_cmd_amt, i64 r_attr_seq, rL r_attr_deps, i64 n, rL rows] = some [i64 (tset ⟨n, rows⟩ rep no ⟨r_ballot, r_vote, r_state, ⟨r_cmd_kind, r_cmd_id, r_cmd_src, r_cmd_dst, r_cmd_amt⟩, ⟨r_attr_seq, r_attr_deps⟩⟩).n, rL (tset ⟨n, rows⟩ rep no ⟨r_ballot, r_vote, r_state, ⟨r_cmd_kind, r_cmd_id, r_cmd_src, r_cmd_dst, r_cmd_amt⟩, ⟨r_attr_seq, r_attr_deps⟩⟩).rows] := by
 rw [Fun_k (t := tm117) rfl]; unfold tm117; unfold tset
 have hq := hs.2 _ (at_memI hb)
 have hq1 := hq.1
 simp (disch := first|assumption|omega) only [S0,rA,rQ,rB,rT,rE]
 rw [whileE (T := T) (.yield 1, [rL (setI rows rep (ext n (atI rows rep) no))]) (fun j : Nat => (no - (atI rows rep).length).toNat - j) (fun j => j <= (no - (atI rows rep).length).toNat) (fun j => [rL (setI rows rep (atI rows rep ++ List.replicate j (row0 n)))]) 0 (by rw [List.replicate_zero, List.append_nil, setI_at hb]; rfl) (by omega) (by simp)]
 ·have hb2 : InB (setI rows rep (ext n (atI rows rep) no)) rep := by unfold InB; rw [setI, List.length_set]; exact hb
  have ha : atI (setI rows rep (ext n (atI rows rep) no)) rep = ext n (atI rows rep) no := S_upd.1 hb
  have hb3 : InB (ext n (atI rows rep) no) (no - 1) := by unfold InB; rw [ext_len (by omega)]; omega
  simp (disch := first|assumption|omega) only [S0,rA,rQ,rB,rT,rE, S_row, S_set, S_upd, impl_Row_copied, ha]
 ·intro j hj
  have hb2 : InB (setI rows rep (atI rows rep ++ List.replicate j (row0 n))) rep := by unfold InB; rw [setI, List.length_set]; exact hb
  have ha : atI (setI rows rep (atI rows rep ++ List.replicate j (row0 n))) rep = atI rows rep ++ List.replicate j (row0 n) := S_upd.1 hb
  have hlen : ((atI rows rep ++ List.replicate j (row0 n)).length : Int) = (atI rows rep).length + j := by simp
  have hrep : (atI rows rep ++ List.replicate j (row0 n)) ++ [row0 n] = atI rows rep ++ List.replicate (j + 1) (row0 n) := by rw [List.append_assoc, <- List.replicate_succ']
  have hll : (atI rows rep ++ List.replicate j (row0 n)).length + ([row0 n] : List TRow).length <= 100000000000 := by simp only [List.length_append, List.length_replicate, List.length_cons, List.length_nil]; omega
  unfold row0 at hrep hll ha hb2 hlen ⊢
  by_cases hc : (atI rows rep).length + j < no
  ·have hc' : decide (((atI rows rep).length : Int) + j < no) = true := by simpa using hc
   refine .inl ⟨j + 1, ?_, by omega, by omega⟩
   simp (disch := first|assumption|omega) only [S0,rA,rQ,rB,rT,rE, S_row, S_set, S_mk, S_app, S_hole, S_upd, impl_noneAttr, ha, hlen, hc', hrep]
  ·have hc' : decide (((atI rows rep).length : Int) + j < no) = false := by simpa using hc
   have hj2 : j = (no - (atI rows rep).length).toNat := by omega
   refine .inr ?_
   simp (disch := first|assumption|omega) only [S0,rA,rQ,rB,rT,rE, S_row, S_set, S_mk, S_app, S_hole, S_upd, ha, hlen, hc']
   rw [hj2]; rfl
theorem spec_l1Has (xs : List Int) (n : Int) (hx : xs.length <= 1099511627776) : Fun T 50 [rL xs, i64 n] = some [.bool (hasM xs n)] := by
 rw [Fun_k (t := tm50) rfl]; unfold tm50; unfold hasM
 simp (disch := first|assumption|omega) only [S0,rA,rQ,rB,rT,rE]
 rw [findX 1 xs (fun x => x == n) (fun _ => [.bool true])]
 ·(refine fork_in ?_; repeat' (refine fork_eq ?_ ?_<;>intro _<;>try simp (disch := first|assumption|omega) only [S0,rA,rQ,rB,rT,rE, *]))
 ·intro i hi hb hl hp
  (refine fork_in ?_; repeat' (refine fork_eq ?_ ?_<;>intro _<;>try simp (disch := first|assumption|omega) only [S0,rA,rQ,rB,rT,rE,S_row, *]))
 ·intro i hi hb hl hp
  (refine fork_in ?_; repeat' (refine fork_eq ?_ ?_<;>intro _<;>try simp (disch := first|assumption|omega) only [S0,rA,rQ,rB,rT,rE,S_row, *]))
 ·intro hl
  simp (disch := first|assumption|omega) only [S0,rA,rQ,rB,rT,rE, hl]
theorem slices_Index_int (xs : List Int) (n : Int) (hx : xs.length <= 1099511627776) : Fun T 99 [rL xs, i64 n] = some [i64 (ixF (fun x => n == x) xs)] := by
 rw [Fun_k (t := tm99) rfl]; unfold tm99
 simp (disch := first|assumption|omega) only [S0,rA,rQ,rB,rT,rE]
 rw [findX 1 xs (fun x => n == x) (fun i => [i64 i])]
 ·cases h : xs.any (fun x => n == x)
  ·have e : ixF (fun x => n == x) xs = -1 := by
    have h2 := ixF_any (fun x => n == x) xs
    rw [h] at h2
    unfold ixF at h2 ⊢
    split at h2 <;> simp_all
   rw [e]; simp (disch := first|assumption|omega) only [S0,rA,rQ,rB,rT,rE]
  ·simp (disch := first|assumption|omega) only [S0,rA,rQ,rB,rT,rE]
 ·intro i hi hb hl hp
  (refine fork_in ?_; repeat' (refine fork_eq ?_ ?_<;>intro _<;>try simp (disch := first|assumption|omega) only [S0,rA,rQ,rB,rT,rE,S_row, *]))
 ·intro i hi hb hl hp
  (refine fork_in ?_; repeat' (refine fork_eq ?_ ?_<;>intro _<;>try simp (disch := first|assumption|omega) only [S0,rA,rQ,rB,rT,rE,S_row, *]))
 ·intro hl
  simp (disch := first|assumption|omega) only [S0,rA,rQ,rB,rT,rE, hl]
theorem slices_Contains_int (xs : List Int) (n : Int) (hx : xs.length <= 1099511627776) : Fun T 98 [rL xs, i64 n] = some [.bool (hasM xs n)] := by
 rw [Fun_k (t := tm98) rfl]; unfold tm98
 have e : hasM xs n = xs.any fun x => n == x := by
  unfold hasM
  congr 1
  funext x
  rw [Bool.eq_iff_iff, beq_iff_eq, beq_iff_eq]
  exact eq_comm
 simp (disch := first|assumption|omega) only [S0,rA,rQ,rB,rT,rE, slices_Index_int, ixF_any, e]
theorem spec_l4Committed (n : Int) (rows : List (List TRow)) (hs : ∀ l ∈ rows, l.length <= 6) (hl : rows.length <= 100) : Fun T 53 [i64 n, rL rows] = some [rL (comM rows)] := by
 rw [Fun_k (t := tm53) rfl]; unfold tm53; unfold comM
 simp (disch := first|assumption|omega) only [S0,rA,rQ,rB,rT,rE]
 rw [loopN rows.length (fun k => [rL (comN rows k), i64 k]) (.yield 1, [rL (comN rows rows.length)]) rfl (by simp)]
 ·simp (disch := first|assumption|omega) only [S0,rA,rQ,rB,rT,rE]
 ·intro k hk hlt
  have hb : InB rows (k : Int) := InB_nat.2 hk
  have h6 := hs _ (at_mem hk)
  have hln := comN_len hs (m := k) (by omega)
  simp (disch := first|assumption|omega) only [S0,rA,rQ,rB,rT,rE, S_row, hlt]
  rw [loopN (atI rows (k : Int)).length (fun i => [rL (comN rows k ++ comRowN (atI rows (k : Int)) k i), i64 i]) (.yield 3, [rL (comN rows (k + 1))]) (by show [rL (comN rows k), _] = _; simp [comRowN, Atom.val]) (by simp)]
  ·simp (disch := first|assumption|omega) only [S0,rA,rQ,rB,rT,rE]
  ·intro i hi hlt2
   have hb2 : InB (atI rows (k : Int)) (i : Int) := InB_nat.2 hi
   have hlc := comRowN_len (atI rows (k : Int)) k i
   have hll : (comN rows k ++ comRowN (atI rows (k : Int)) k i).length + ([[(k : Int), (i : Int) + 1]] : List (List Int)).length <= 100000000000 := by
    rw [List.length_append]; simp only [List.length_cons, List.length_nil]; omega
   have e := comRowN_succ (atI rows (k : Int)) k i
   cases hst : (atI (atI rows (k : Int)) (i : Int)).state == 3
   ·rw [hst] at e
    simp only [Bool.false_eq_true, if_false, List.append_nil] at e
    simp (disch := first|assumption|omega) only [S0,rA,rQ,rB,rT,rE, S_row, hlt2, hst, e]
   ·rw [hst] at e
    simp only [if_true] at e
    simp (disch := first|assumption|omega) only [S0,rA,rQ,rB,rT,rE, S_row, S_mk, S_app, hlt2, hst, e, <- List.append_assoc]
  ·intro hlt2
   rw [<- comN_succ]
   simp (disch := first|assumption|omega) only [S0,rA,rQ,rB,rT,rE, hlt2]
 ·intro hlt
  simp (disch := first|assumption|omega) only [S0,rA,rQ,rB,rT,rE, hlt]
theorem impl_Table_committed_1 (k m : Int) (r_ballot r_vote r_state r_cmd_kind r_cmd_id r_cmd_src r_cmd_dst r_cmd_amt r_attr_seq : Int) (r_attr_deps : (List Int)) (out : List (List Int)) (hl : out.length <= 10000000000) : Fun T 112 [i64 k, i64 m, i64 r_ballot, i64 r_vote, i64 r_state, i64 r_cmd_kind, i64 r_cmd_id, i64 r_cmd_src, i64 r_cmd_dst, i64 r_cmd_amt, i64 r_attr_seq, rL r_attr_deps, rL out] = some [rL (out ++ if r_state == 3 then [[k, m]] else [])] := by
 rw [Fun_k (t := tm112) rfl]; unfold tm112
 have hll : out.length + ([[k, m]] : List (List Int)).length <= 100000000000 := by simp only [List.length_cons, List.length_nil]; omega
 cases hst : r_state == 3
 ·simp (disch := first|assumption|omega) only [S0,rA,rQ,rB,rT,rE, hst, List.append_nil, Bool.false_eq_true]
 ·simp (disch := first|assumption|omega) only [S0,rA,rQ,rB,rT,rE, S_mk, S_app, hst]
theorem each_committed (n : Int) (rows : List (List TRow)) (hs : ∀ l ∈ rows, l.length <= 6) (hl : rows.length <= 100) : Fun T 111 [i64 n, rL rows, .rows 1 []] = some [rL (comM rows)] := by
 rw [Fun_k (t := tm111) rfl]; unfold tm111; unfold comM
 simp (disch := first|assumption|omega) only [S0,rA,rQ,rB,rT,rE]
 rw [loopN rows.length (fun k => [i64 k, rL (comN rows k)]) (.yield 1, [rL (comN rows rows.length)]) rfl (by simp)]
 ·simp (disch := first|assumption|omega) only [S0,rA,rQ,rB,rT,rE]
 ·intro k hk hlt
  have hb : InB rows (k : Int) := InB_nat.2 hk
  have h6 := hs _ (at_mem hk)
  have hln := comN_len hs (m := k) (by omega)
  simp (disch := first|assumption|omega) only [S0,rA,rQ,rB,rT,rE, S_row, hlt]
  rw [loopN (atI rows (k : Int)).length (fun i => [i64 i, rL (comN rows k ++ comRowN (atI rows (k : Int)) k i)]) (.yield 3, [rL (comN rows (k + 1))]) (by show [_, rL (comN rows k)] = _; simp [comRowN, Atom.val]) (by simp)]
  ·simp (disch := first|assumption|omega) only [S0,rA,rQ,rB,rT,rE]
  ·intro i hi hlt2
   have hb2 : InB (atI rows (k : Int)) (i : Int) := InB_nat.2 hi
   have hlc := comRowN_len (atI rows (k : Int)) k i
   have hll : (comN rows k ++ comRowN (atI rows (k : Int)) k i).length <= 10000000000 := by
    rw [List.length_append]; omega
   have e := comRowN_succ (atI rows (k : Int)) k i
   simp (disch := first|assumption|omega) only [S0,rA,rQ,rB,rT,rE, S_row, impl_Table_committed_1, hlt2, e, List.append_assoc]
  ·intro hlt2
   rw [<- comN_succ]
   simp (disch := first|assumption|omega) only [S0,rA,rQ,rB,rT,rE, hlt2]
 ·intro hlt
  simp (disch := first|assumption|omega) only [S0,rA,rQ,rB,rT,rE, hlt]
theorem impl_Table_committed (n : Int) (rows : List (List TRow)) (hs : ∀ l ∈ rows, l.length <= 6) (hl : rows.length <= 100) : Fun T 110 [i64 n, rL rows] = some [rL (comM rows)] := by
 rw [Fun_k (t := tm110) rfl]; unfold tm110
 have h0 : (Prim.mk 1 0).run [] = some [.rows 1 []] := rfl
 simp (disch := first|assumption|omega) only [S0,rA,rQ,rB,rT,rE, h0, each_committed]
theorem cmp_isNaN (a : Int) : Fun T 105 [i64 a] = some [.bool false] := by
 rw [Fun_k (t := tm105) rfl]; unfold tm105
 simp (disch := first|assumption|omega) only [S0,rA,rQ,rB,rT,rE]
theorem cmp_Compare (a b : Int) : Fun T 104 [i64 a, i64 b] = some [i64 (cmp1 a b)] := by
 rw [Fun_k (t := tm104) rfl]; unfold tm104; unfold cmp1
 by_cases h : a < b
 ·simp (disch := first|assumption|omega) only [S0,rA,rQ,rB,rT,rE, cmp_isNaN, h]
 ·by_cases h2 : b < a
  ·simp (disch := first|assumption|omega) only [S0,rA,rQ,rB,rT,rE, cmp_isNaN, h, h2]
  ·simp (disch := first|assumption|omega) only [S0,rA,rQ,rB,rT,rE, cmp_isNaN, h, h2]
theorem slices_Compare_int (xs ys : List Int) (hx : xs.length <= 1099511627776) (hy : ys.length <= 1099511627776) : Fun T 103 [rL xs, rL ys] = some [i64 (cmpM xs ys)] := by
 rw [Fun_k (t := tm103) rfl]; unfold tm103; unfold cmpM
 simp (disch := first|assumption|omega) only [S0,rA,rQ,rB,rT,rE]
 rw [whileE (T := T) (match cmpD xs ys with | some c => (.ret, [i64 c]) | none => (.yield 1, [])) (fun i : Nat => xs.length - i) (fun i => i <= xs.length /\ cmpD (xs.drop i) (ys.drop i) = cmpD xs ys) (fun i => [i64 i]) 0 rfl ⟨by omega, by simp⟩ (by split <;> simp)]
 ·cases cmpD xs ys with
  | some c => simp (disch := first|assumption|omega) only [S0,rA,rQ,rB,rT,rE]
  | none =>
   cases h : decide ((xs.length : Int) < ys.length)
   ·simp (disch := first|assumption|omega) only [S0,rA,rQ,rB,rT,rE, h, Bool.false_eq_true]
   ·simp (disch := first|assumption|omega) only [S0,rA,rQ,rB,rT,rE, h]
 ·rintro i ⟨hi, he⟩
  rcases Nat.lt_or_ge i xs.length with hlt | hge
  ·have h1 : decide ((i : Int) < xs.length) = true := by simp; omega
   have hb : InB xs (i : Int) := InB_nat.2 hlt
   rcases Nat.lt_or_ge i ys.length with hlt2 | hge2
   ·have h2 : decide ((ys.length : Int) <= i) = false := by simp; omega
    have hb2 : InB ys (i : Int) := InB_nat.2 hlt2
    rw [cmpD_drop hlt hlt2] at he
    by_cases h3 : atI xs (i : Int) < atI ys (i : Int)
    ·rw [if_pos h3] at he
     have e : cmp1 (atI xs (i : Int)) (atI ys (i : Int)) = -1 := if_pos h3
     rw [<- he]
     refine .inr ?_
     simp (disch := first|assumption|omega) only [S0,rA,rQ,rB,rT,rE, S_row, cmp_Compare, h1, h2, e]
    ·rw [if_neg h3] at he
     by_cases h4 : atI ys (i : Int) < atI xs (i : Int)
     ·rw [if_pos h4] at he
      have e : cmp1 (atI xs (i : Int)) (atI ys (i : Int)) = 1 := by unfold cmp1; rw [if_neg h3, if_pos h4]
      rw [<- he]
      refine .inr ?_
      simp (disch := first|assumption|omega) only [S0,rA,rQ,rB,rT,rE, S_row, cmp_Compare, h1, h2, e]
     ·rw [if_neg h4] at he
      have e : cmp1 (atI xs (i : Int)) (atI ys (i : Int)) = 0 := by unfold cmp1; rw [if_neg h3, if_neg h4]
      refine .inl ⟨i + 1, ?_, ⟨by omega, he⟩, by omega⟩
      simp (disch := first|assumption|omega) only [S0,rA,rQ,rB,rT,rE, S_row, cmp_Compare, h1, h2, e]
   ·have h2 : decide ((ys.length : Int) <= i) = true := by simp; omega
    rw [cmpD_end hlt hge2] at he
    rw [<- he]
    refine .inr ?_
    simp (disch := first|assumption|omega) only [S0,rA,rQ,rB,rT,rE, S_row, h1, h2]
  ·have h1 : decide ((i : Int) < xs.length) = false := by simp; omega
   rw [List.drop_eq_nil_of_le hge] at he
   have he' : cmpD xs ys = none := by rw [<- he]; rfl
   rw [he']
   refine .inr ?_
   simp (disch := first|assumption|omega) only [S0,rA,rQ,rB,rT,rE, h1]
theorem spec_l1Rising (xs : List Int) (lo up : Int) (hx : xs.length <= 10000000000) : Fun T 49 [rL xs, i64 lo, i64 up] = some [.bool (risM xs lo up)] := by
 rw [Fun_k (t := tm49) rfl]; unfold tm49; unfold risM
 simp (disch := first|assumption|omega) only [S0,rA,rQ,rB,rT,rE]
 rw [scanF 1 xs.length (fun i => inR (atI xs (i : Int)) lo up && riseB xs i) [.bool false]]
 ·(refine fork_in ?_; repeat' (refine fork_eq ?_ ?_<;>intro _<;>try simp (disch := first|assumption|omega) only [S0,rA,rQ,rB,rT,rE, *]))
 ·intro i hi hlt
  have hb : InB xs (i : Int) := InB_nat.2 hi
  unfold riseB
  cases h1 : inR (atI xs (i : Int)) lo up
  ·simp (disch := first|assumption|omega) only [S0,rA,rQ,rB,rT,rE, S_row, spec_l1In, hlt, h1]
  ·cases i with
   | zero =>
    have hlt0 : decide ((0 : Int) < xs.length) = true := hlt
    have hb0 : InB xs 0 := hb
    have h10 : inR (atI xs 0) lo up = true := h1
    have d0 : decide ((0 : Int) < 0) = false := rfl
    have d1 : decide ((0 : Nat) < 0) = false := rfl
    simp (disch := first|assumption|omega) only [S0,rA,rQ,rB,rT,rE, S_row, spec_l1In, hlt0, h10, d0, d1, Int.natCast_zero, Nat.lt_irrefl, Int.cast_ofNat_Int]
   | succ i =>
    have hb2 : InB xs ((i : Int) + 1 - 1) := by unfold InB; omega
    have d1 : decide ((0 : Int) < (i : Int) + 1) = true := decide_eq_true (by omega)
    have d2 : decide (0 < i + 1) = true := decide_eq_true (by omega)
    have hb3 : InB xs ((i : Int) + 1) := hb
    have hlt3 : decide ((i : Int) + 1 < xs.length) = true := hlt
    have h13 : inR (atI xs ((i : Int) + 1)) lo up = true := h1
    cases h2 : decide (atI xs ((i : Int) + 1) <= atI xs ((i : Int) + 1 - 1))
    ·simp (disch := first|assumption|omega) only [S0,rA,rQ,rB,rT,rE, S_row, spec_l1In, hlt3, h13, d1, d2, h2]
    ·simp (disch := first|assumption|omega) only [S0,rA,rQ,rB,rT,rE, S_row, spec_l1In, hlt3, h13, d1, d2, h2]
 ·intro hlt
  simp (disch := first|assumption|omega) only [S0,rA,rQ,rB,rT,rE, hlt]
theorem impl_rise (xs : List Int) (hx : xs.length <= 10000000000) : Fun T 94 [rL xs] = some [.bool (allB (riseB xs) xs.length)] := by
 rw [Fun_k (t := tm94) rfl]; unfold tm94
 have e : allB (riseB xs) xs.length = allB (fun i => decide (i < 1) || !decide (atI xs (i : Int) <= atI xs ((i : Int) - 1))) xs.length := by
  refine allB_congr fun i hi => ?_
  unfold riseB
  cases i with
  | zero => rfl
  | succ i => simp
 rw [e]
 simp (disch := first|assumption|omega) only [S0,rA,rQ,rB,rT,rE]
 have h1 : (D.int .i64 1) = i64 ((1 : Nat) : Int) := rfl
 rw [h1, scanS 1 1 xs.length (fun i => !decide (atI xs (i : Int) <= atI xs ((i : Int) - 1))) [.bool false]]
 ·(refine fork_in ?_; repeat' (refine fork_eq ?_ ?_<;>intro _<;>try simp (disch := first|assumption|omega) only [S0,rA,rQ,rB,rT,rE, *]))
 ·intro i hs hi hlt
  have hb : InB xs (i : Int) := InB_nat.2 hi
  have hb2 : InB xs ((i : Int) - 1) := by unfold InB; omega
  have hz : ((0 : Nat) : Int) + 1 = 1 := rfl
  cases hq : decide (atI xs (i : Int) <= atI xs ((i : Int) - 1)) <;> simp (disch := first|assumption|omega) only [S0,rA,rQ,rB,rT,rE, S_row, hlt, hz, hq]
 ·intro i hi hlt
  simp (disch := first|assumption|omega) only [S0,rA,rQ,rB,rT,rE, hlt]
theorem impl_areMembers_1 (x n : Int) (hg : isGrpN n) : Fun T 97 [i64 x, i64 n] = some [.bool (!inR x 0 (n - 1))] := by
 rw [Fun_k (t := tm97) rfl]; unfold tm97
 unfold isGrpN at hg
 simp (disch := first|assumption|omega) only [S0,rA,rQ,rB,rT,rE, impl_within]
theorem ix_areMembers_1 (n : Int) (hg : isGrpN n) (xs : List Int) (hx : xs.length <= 1099511627776) : Fun T 96 [rL xs, i64 n] = some [i64 (ixF (fun x => !inR x 0 (n - 1)) xs)] := by
 rw [Fun_k (t := tm96) rfl]; unfold tm96
 simp (disch := first|assumption|omega) only [S0,rA,rQ,rB,rT,rE, S_row, *]
 rw [findX 1 xs (fun x => !inR x 0 (n - 1)) (fun i => [i64 i])]
 ·cases h : xs.any (fun x => !inR x 0 (n - 1))
  ·have e : ixF (fun x => !inR x 0 (n - 1)) xs = -1 := by
    have h2 := ixF_any (fun x => !inR x 0 (n - 1)) xs
    rw [h] at h2
    unfold ixF at h2 ⊢
    split at h2 <;> simp_all
   rw [e]; simp (disch := first|assumption|omega) only [S0,rA,rQ,rB,rT,rE]
  ·simp (disch := first|assumption|omega) only [S0,rA,rQ,rB,rT,rE]
 ·intro i hi hb hl hp
  (refine fork_in ?_; repeat' (refine fork_eq ?_ ?_<;>intro _<;>try simp (disch := first|assumption|omega) only [S0,rA,rQ,rB,rT,rE,S_row,impl_areMembers_1, *]))
 ·intro i hi hb hl hp
  (refine fork_in ?_; repeat' (refine fork_eq ?_ ?_<;>intro _<;>try simp (disch := first|assumption|omega) only [S0,rA,rQ,rB,rT,rE,S_row,impl_areMembers_1, *]))
 ·intro hl
  (refine fork_in ?_; repeat' (refine fork_eq ?_ ?_<;>intro _<;>try simp (disch := first|assumption|omega) only [S0,rA,rQ,rB,rT,rE, *]))
theorem ct_areMembers_1 (n : Int) (hg : isGrpN n) (xs : List Int) (hx : xs.length <= 1099511627776) : Fun T 95 [rL xs, i64 n] = some [.bool (xs.any (fun x => !inR x 0 (n - 1)))] := by
 rw [Fun_k (t := tm95) rfl]; unfold tm95
 (refine fork_in ?_; repeat' (refine fork_eq ?_ ?_<;>intro _<;>try simp (disch := first|assumption|omega) only [S0,rA,rQ,rB,rT,rE,ix_areMembers_1,ixF_any, *]))
theorem impl_areMembers (n : Int) (xs : List Int) (hg : isGrpN n) (hx : xs.length <= 10000000000) : Fun T 93 [i64 n, rL xs] = some [.bool (risM xs 0 (n - 1))] := by
 rw [Fun_k (t := tm93) rfl]; unfold tm93; unfold risM
 have hx' : xs.length <= 1099511627776 := by omega
 have e : xs.any (fun x => !inR x 0 (n - 1)) = !xs.all fun x => inR x 0 (n - 1) := by rw [List.not_all_eq_any_not]
 rw [allB_and, allB_all xs (fun x => inR x 0 (n - 1)), Bool.and_comm]
 cases h : allB (riseB xs) xs.length
 ·simp (disch := first|assumption|omega) only [S0,rA,rQ,rB,rT,rE, impl_rise, h]
 ·simp (disch := first|assumption|omega) only [S0,rA,rQ,rB,rT,rE, impl_rise, ct_areMembers_1, h, e, Bool.not_not]
theorem spec_l8Lead (n me : Int) (l_rep l_no l_ballot l_phase l_cmd_kind l_cmd_id l_cmd_src l_cmd_dst l_cmd_amt l_first_seq : Int) (l_first_deps : (List Int)) (l_attr_seq : Int) (l_attr_deps : (List Int)) (l_same : Bool) (l_who : (List Int)) (l_seen : (List TRow)) (hg : isGrp n = true) (hs : smLead ⟨l_rep, l_no, l_ballot, l_phase, ⟨l_cmd_kind, l_cmd_id, l_cmd_src, l_cmd_dst, l_cmd_amt⟩, ⟨l_first_seq, l_first_deps⟩, ⟨l_attr_seq, l_attr_deps⟩, l_same, l_who, l_seen⟩) : Fun T 48 [i64 n, i64 me, i64 l_rep, i64 l_no, i64 l_ballot, i64 l_phase, i64 l_cmd_kind, i64 l_cmd_id, i64 l_cmd_src, i64 l_cmd_dst, i64 l_cmd_amt, i64 l_first_seq, rL l_first_deps, i64 l_attr_seq, rL l_attr_deps, .bool l_same, rL l_who, rL l_seen] = some [.bool (leadOk n me ⟨l_rep, l_no, l_ballot, l_phase, ⟨l_cmd_kind, l_cmd_id, l_cmd_src, l_cmd_dst, l_cmd_amt⟩, ⟨l_first_seq, l_first_deps⟩, ⟨l_attr_seq, l_attr_deps⟩, l_same, l_who, l_seen⟩)] := by
 rw [Fun_k (t := tm48) rfl]; unfold tm48
 have hn := isGrp_rng hg
 obtain ⟨h1, h2, h3, h4, h5⟩ := hs
 simp only at h1 h2 h3 h4 h5
 have h1' : l_first_deps.length <= 1099511627776 := by omega
 have h2' : l_attr_deps.length <= 1099511627776 := by omega
 have h3' : l_who.length <= 1099511627776 := by omega
 have ea : decide ((⟨l_first_seq, l_first_deps⟩ : TAttr) = none0 n) = decide ((⟨l_first_seq, l_first_deps⟩ : TAttr) = ⟨(none0 n).seq, (none0 n).deps⟩) := rfl
 have eb : decide ((⟨l_attr_seq, l_attr_deps⟩ : TAttr) = none0 n) = decide ((⟨l_attr_seq, l_attr_deps⟩ : TAttr) = ⟨(none0 n).seq, (none0 n).deps⟩) := rfl
 unfold leadOk
 cases c1 : inst n l_rep l_no
 ·simp (disch := first|assumption|omega) only [S0,rA,rQ,rB,rT,rE, spec_l3Inst, c1]
 cases c2 : inR l_ballot 0 9999
 ·simp (disch := first|assumption|omega) only [S0,rA,rQ,rB,rT,rE, spec_l3Inst, spec_l1In, c1, c2]
 cases c3 : risM l_who 0 (n - 1)
 ·simp (disch := first|assumption|omega) only [S0,rA,rQ,rB,rT,rE, spec_l3Inst, spec_l1In, spec_l1Rising, c1, c2, c3]
 cases c4 : hasM l_who me
 ·simp (disch := first|assumption|omega) only [S0,rA,rQ,rB,rT,rE, spec_l3Inst, spec_l1In, spec_l1Rising, spec_l1Has, c1, c2, c3, c4]
 cases c5 : attrOk n ⟨l_first_seq, l_first_deps⟩
 ·simp (disch := first|assumption|omega) only [S0,rA,rQ,rB,rT,rE, spec_l3Inst, spec_l1In, spec_l1Rising, spec_l1Has, spec_l3Attr, c1, c2, c3, c4, c5]
 cases c6 : attrOk n ⟨l_attr_seq, l_attr_deps⟩
 ·simp (disch := first|assumption|omega) only [S0,rA,rQ,rB,rT,rE, spec_l3Inst, spec_l1In, spec_l1Rising, spec_l1Has, spec_l3Attr, c1, c2, c3, c4, c5, c6]
 simp (disch := first|assumption|omega) only [S0,rA,rQ,rB,rT,rE, spec_l3Inst, spec_l1In, spec_l1Rising, spec_l1Has, spec_l3Attr, c1, c2, c3, c4, c5, c6]
 rw [allF 1 l_seen (fun r => rowOk n r && !(r.state == 3)) [.bool false]]
 ·have e0 : ((l_seen.length : Int) == 0) = true -> (l_seen.all fun r => rowOk n r && !(r.state == 3)) = true := fun h => by
   have : l_seen = [] := List.length_eq_zero_iff.1 (by simpa using h)
   rw [this]; rfl
  cases c7 : l_seen.all fun r => rowOk n r && !(r.state == 3)
  ·have e1 : ((l_seen.length : Int) == 0) = false := by
    cases h : ((l_seen.length : Int) == 0) with
    | false => rfl
    | true => rw [e0 h] at c7; cases c7
   rcases phase3 l_phase with rfl | rfl | rfl | ⟨p1, p2, p3⟩
   ·simp (disch := first|assumption|omega) only [S0,rA,rQ,rB,rT,rE, e1]
   ·simp (disch := first|assumption|omega) only [S0,rA,rQ,rB,rT,rE, e1]
   ·simp (disch := first|assumption|omega) only [S0,rA,rQ,rB,rT,rE]
   ·simp (disch := first|assumption|omega) only [S0,rA,rQ,rB,rT,rE, p1, p2, p3, Bool.false_eq_true]
  ·clear e0
   rcases phase3 l_phase with rfl | rfl | rfl | ⟨p1, p2, p3⟩
   ·simp (disch := first|assumption|omega) only [S0,rA,rQ,rB,rT,rE, spec_GoodCmd] <;> repeat' (refine fork_eq (fun _ => ?_) (fun _ => ?_) <;> try simp (disch := first|assumption|omega) only [S0,rA,rQ,rB,rT,rE, spec_GoodCmd, *])
   ·simp (disch := first|assumption|omega) only [S0,rA,rQ,rB,rT,rE, spec_GoodCmd] <;> repeat' (refine fork_eq (fun _ => ?_) (fun _ => ?_) <;> try simp (disch := first|assumption|omega) only [S0,rA,rQ,rB,rT,rE, spec_GoodCmd, spec_SameAttr, *])
   ·cases k0 : decide (({ kind := l_cmd_kind, id := l_cmd_id, src := l_cmd_src, dst := l_cmd_dst, amt := l_cmd_amt } : TCmd) = { kind := 0, id := 0, src := 0, dst := 0, amt := 0 }) <;> cases k1 : decide (({ seq := l_first_seq, deps := l_first_deps } : TAttr) = TAttr.mk (none0 n).seq (none0 n).deps) <;> cases k2 : decide (({ seq := l_attr_seq, deps := l_attr_deps } : TAttr) = TAttr.mk (none0 n).seq (none0 n).deps)
    all_goals (have k1' := ea.trans k1; have k2' := eb.trans k2; simp (disch := first|assumption|omega) only [S0,rA,rQ,rB,rT,rE, spec_l3None, spec_SameAttr, S_eqs, k0, k1, k2, k1', k2'])
    all_goals (cases l_same <;> simp (disch := first|assumption|omega) only [S0,rA,rQ,rB,rT,rE])
   ·simp (disch := first|assumption|omega) only [S0,rA,rQ,rB,rT,rE, p1, p2, p3, Bool.false_eq_true]
 ·intro i hi hb hlt hm
  have hq := h5 _ hm
  have hq' : (atI l_seen (i : Int)).attr.deps.length <= 1099511627776 := by omega
  simp (disch := first|assumption|omega) only [S0,rA,rQ,rB,rT,rE, S_row, spec_l4Row, hlt] <;> repeat' (refine fork_eq (fun _ => ?_) (fun _ => ?_) <;> try simp (disch := first|assumption|omega) only [S0,rA,rQ,rB,rT,rE, S_row, spec_l4Row, *])
 ·intro hlt
  simp (disch := first|assumption|omega) only [S0,rA,rQ,rB,rT,rE, hlt]
theorem impl_goodLead_1 (r_ballot r_vote r_state r_cmd_kind r_cmd_id r_cmd_src r_cmd_dst r_cmd_amt r_attr_seq : Int) (r_attr_deps : (List Int)) (n : Int) (hg : isGrp n = true) (hx : r_attr_deps.length <= 1099511627776) : Fun T 102 [i64 r_ballot, i64 r_vote, i64 r_state, i64 r_cmd_kind, i64 r_cmd_id, i64 r_cmd_src, i64 r_cmd_dst, i64 r_cmd_amt, i64 r_attr_seq, rL r_attr_deps, i64 n] = some [.bool (!(rowOk n ⟨r_ballot, r_vote, r_state, ⟨r_cmd_kind, r_cmd_id, r_cmd_src, r_cmd_dst, r_cmd_amt⟩, ⟨r_attr_seq, r_attr_deps⟩⟩ && !(r_state == 3)))] := by
 rw [Fun_k (t := tm102) rfl]; unfold tm102
 (refine fork_in ?_; repeat' (refine fork_eq ?_ ?_<;>intro _<;>try simp (disch := first|assumption|omega) only [S0,rA,rQ,rB,rT,rE,impl_goodRow,Bool.not_not, *]))
theorem ix_goodLead_1 (n : Int) (hg : isGrp n = true) (xs : List TRow) (hx : xs.length <= 1099511627776) (hq : ∀ x ∈ xs, x.attr.deps.length <= 1099511627776) : Fun T 101 [rL xs, i64 n] = some [i64 (ixF (fun r => !(rowOk n r && !(r.state == 3))) xs)] := by
 rw [Fun_k (t := tm101) rfl]; unfold tm101
 simp (disch := first|assumption|omega) only [S0,rA,rQ,rB,rT,rE, S_row, *]
 rw [findX 1 xs (fun r => !(rowOk n r && !(r.state == 3))) (fun i => [i64 i])]
 ·cases h : xs.any (fun r => !(rowOk n r && !(r.state == 3)))
  ·have e : ixF (fun r => !(rowOk n r && !(r.state == 3))) xs = -1 := by
    have h2 := ixF_any (fun r => !(rowOk n r && !(r.state == 3))) xs
    rw [h] at h2
    unfold ixF at h2 ⊢
    split at h2 <;> simp_all
   rw [e]; simp (disch := first|assumption|omega) only [S0,rA,rQ,rB,rT,rE]
  ·simp (disch := first|assumption|omega) only [S0,rA,rQ,rB,rT,rE]
 ·intro i hi hb hl hp
  have hq' := hq _ (at_mem hi)
  try simp only at hq' hp
  (refine fork_in ?_; repeat' (refine fork_eq ?_ ?_<;>intro _<;>try simp (disch := first|assumption|omega) only [S0,rA,rQ,rB,rT,rE,S_row,impl_goodLead_1, *]))
 ·intro i hi hb hl hp
  have hq' := hq _ (at_mem hi)
  try simp only at hq' hp
  (refine fork_in ?_; repeat' (refine fork_eq ?_ ?_<;>intro _<;>try simp (disch := first|assumption|omega) only [S0,rA,rQ,rB,rT,rE,S_row,impl_goodLead_1, *]))
 ·intro hl
  (refine fork_in ?_; repeat' (refine fork_eq ?_ ?_<;>intro _<;>try simp (disch := first|assumption|omega) only [S0,rA,rQ,rB,rT,rE, *]))
theorem ct_goodLead_1 (n : Int) (hg : isGrp n = true) (xs : List TRow) (hx : xs.length <= 1099511627776) (hq : ∀ x ∈ xs, x.attr.deps.length <= 1099511627776) : Fun T 100 [rL xs, i64 n] = some [.bool (xs.any (fun r => !(rowOk n r && !(r.state == 3))))] := by
 rw [Fun_k (t := tm100) rfl]; unfold tm100
 (refine fork_in ?_; repeat' (refine fork_eq ?_ ?_<;>intro _<;>try simp (disch := first|assumption|omega) only [S0,rA,rQ,rB,rT,rE,ix_goodLead_1,ixF_any, *]))
theorem impl_goodLead (n me : Int) (l_rep l_no l_ballot l_phase l_cmd_kind l_cmd_id l_cmd_src l_cmd_dst l_cmd_amt l_first_seq : Int) (l_first_deps : (List Int)) (l_attr_seq : Int) (l_attr_deps : (List Int)) (l_same : Bool) (l_who : (List Int)) (l_seen : (List TRow)) (hg : isGrp n = true) (hs : smLead ⟨l_rep, l_no, l_ballot, l_phase, ⟨l_cmd_kind, l_cmd_id, l_cmd_src, l_cmd_dst, l_cmd_amt⟩, ⟨l_first_seq, l_first_deps⟩, ⟨l_attr_seq, l_attr_deps⟩, l_same, l_who, l_seen⟩) : Fun T 92 [i64 n, i64 me, i64 l_rep, i64 l_no, i64 l_ballot, i64 l_phase, i64 l_cmd_kind, i64 l_cmd_id, i64 l_cmd_src, i64 l_cmd_dst, i64 l_cmd_amt, i64 l_first_seq, rL l_first_deps, i64 l_attr_seq, rL l_attr_deps, .bool l_same, rL l_who, rL l_seen] = some [.bool (leadOk n me ⟨l_rep, l_no, l_ballot, l_phase, ⟨l_cmd_kind, l_cmd_id, l_cmd_src, l_cmd_dst, l_cmd_amt⟩, ⟨l_first_seq, l_first_deps⟩, ⟨l_attr_seq, l_attr_deps⟩, l_same, l_who, l_seen⟩)] := by
 rw [Fun_k (t := tm92) rfl]; unfold tm92
 have hn := isGrp_rng hg
 have hgn : isGrpN n := isGrpN_of hg
 obtain ⟨h1, h2, h3, h4, h5⟩ := hs
 simp only at h1 h2 h3 h4 h5
 have h1' : l_first_deps.length <= 1099511627776 := by omega
 have h2' : l_attr_deps.length <= 1099511627776 := by omega
 have h3' : l_who.length <= 1099511627776 := by omega
 have h4' : l_seen.length <= 1099511627776 := by omega
 have h5' : ∀ x ∈ l_seen, x.attr.deps.length <= 1099511627776 := fun x hx => by have := h5 x hx; omega
 have ea : decide ((⟨l_first_seq, l_first_deps⟩ : TAttr) = none0 n) = decide ((⟨l_first_seq, l_first_deps⟩ : TAttr) = ⟨(none0 n).seq, (none0 n).deps⟩) := rfl
 have eb : decide ((⟨l_attr_seq, l_attr_deps⟩ : TAttr) = none0 n) = decide ((⟨l_attr_seq, l_attr_deps⟩ : TAttr) = ⟨(none0 n).seq, (none0 n).deps⟩) := rfl
 have e3 : (l_seen.any fun r => !(rowOk n r && !(r.state == 3))) = !l_seen.all fun r => rowOk n r && !(r.state == 3) := by rw [List.not_all_eq_any_not]
 unfold leadOk
 cases c1 : inst n l_rep l_no
 ·simp (disch := first|assumption|omega) only [S0,rA,rQ,rB,rT,rE, impl_isInstance, hg, c1]
 cases c2 : inR l_ballot 0 9999
 ·simp (disch := first|assumption|omega) only [S0,rA,rQ,rB,rT,rE, impl_isInstance, impl_within, hg, c1, c2]
 cases c3 : risM l_who 0 (n - 1)
 ·simp (disch := first|assumption|omega) only [S0,rA,rQ,rB,rT,rE, impl_isInstance, impl_within, impl_areMembers, hg, c1, c2, c3]
 cases c4 : hasM l_who me
 ·simp (disch := first|assumption|omega) only [S0,rA,rQ,rB,rT,rE, impl_isInstance, impl_within, impl_areMembers, slices_Contains_int, hg, c1, c2, c3, c4]
 cases c5 : attrOk n ⟨l_first_seq, l_first_deps⟩
 ·simp (disch := first|assumption|omega) only [S0,rA,rQ,rB,rT,rE, impl_isInstance, impl_within, impl_areMembers, slices_Contains_int, impl_GoodAttr, hg, c1, c2, c3, c4, c5]
 cases c6 : attrOk n ⟨l_attr_seq, l_attr_deps⟩
 ·simp (disch := first|assumption|omega) only [S0,rA,rQ,rB,rT,rE, impl_isInstance, impl_within, impl_areMembers, slices_Contains_int, impl_GoodAttr, hg, c1, c2, c3, c4, c5, c6]
 simp (disch := first|assumption|omega) only [S0,rA,rQ,rB,rT,rE, impl_isInstance, impl_within, impl_areMembers, slices_Contains_int, impl_GoodAttr, hg, c1, c2, c3, c4, c5, c6]
 rcases phase3 l_phase with rfl | rfl | rfl | ⟨p1, p2, p3⟩
 ·simp (disch := first|assumption|omega) only [S0,rA,rQ,rB,rT,rE, impl_GoodCmd] <;> repeat' (refine fork_eq (fun _ => ?_) (fun _ => ?_) <;> try simp (disch := first|assumption|omega) only [S0,rA,rQ,rB,rT,rE, impl_GoodCmd, *])
 ·cases c7 : cmdOk ⟨l_cmd_kind, l_cmd_id, l_cmd_src, l_cmd_dst, l_cmd_amt⟩
  ·simp (disch := first|assumption|omega) only [S0,rA,rQ,rB,rT,rE, impl_GoodCmd, c7]
  cases c8 : (l_seen.length : Int) == 0
  ·simp (disch := first|assumption|omega) only [S0,rA,rQ,rB,rT,rE, impl_GoodCmd, c7, c8]
  cases c9 : decide ((⟨l_first_seq, l_first_deps⟩ : TAttr) = ⟨l_attr_seq, l_attr_deps⟩) <;> cases c10 : l_same <;> simp (disch := first|assumption|omega) only [S0,rA,rQ,rB,rT,rE, impl_GoodCmd, impl_SameAttr, c7, c8, c9, c10]
 ·cases c7 : decide ((⟨l_cmd_kind, l_cmd_id, l_cmd_src, l_cmd_dst, l_cmd_amt⟩ : TCmd) = ⟨0, 0, 0, 0, 0⟩)
  ·simp (disch := first|assumption|omega) only [S0,rA,rQ,rB,rT,rE, impl_noneAttr, S_eqs, c7]
  cases c8 : decide ((⟨l_first_seq, l_first_deps⟩ : TAttr) = none0 n)
  ·simp (disch := first|assumption|omega) only [S0,rA,rQ,rB,rT,rE, impl_noneAttr, impl_SameAttr, S_eqs, c7, c8]
  cases c9 : decide ((⟨l_attr_seq, l_attr_deps⟩ : TAttr) = none0 n)
  ·simp (disch := first|assumption|omega) only [S0,rA,rQ,rB,rT,rE, impl_noneAttr, impl_SameAttr, S_eqs, c7, c8, c9]
  cases c10 : l_same
  rotate_left
  ·simp (disch := first|assumption|omega) only [S0,rA,rQ,rB,rT,rE, impl_noneAttr, impl_SameAttr, S_eqs, c7, c8, c9, c10]
  cases c11 : (l_seen.length : Int) == (l_who.length : Int)
  ·simp (disch := first|assumption|omega) only [S0,rA,rQ,rB,rT,rE, impl_noneAttr, impl_SameAttr, S_eqs, c7, c8, c9, c10, c11]
  simp (disch := first|assumption|omega) only [S0,rA,rQ,rB,rT,rE, impl_noneAttr, impl_SameAttr, S_eqs, c7, c8, c9, c10, c11, ct_goodLead_1, e3, Bool.not_not]
 ·simp (disch := first|assumption|omega) only [S0,rA,rQ,rB,rT,rE, p1, p2, p3, Bool.false_eq_true]
theorem spec_GoodReplica (me n : Int) (rows : List (List TRow)) (leads : List TLead) (hs : smTab rows) (hs2 : smLeads leads) : Fun T 40 [i64 me, i64 n, rL rows, rL leads] = some [.bool (repOk ⟨me, ⟨n, rows⟩, leads⟩)] := by
 rw [Fun_k (t := tm40) rfl]; unfold tm40; unfold repOk
 obtain ⟨hs3, hs4⟩ := hs2
 cases ht : tabOk ⟨n, rows⟩
 ·simp (disch := first|assumption|omega) only [S0,rA,rQ,rB,rT,rE, spec_GoodTable, ht]
 have hg : isGrp n = true := tabOk_grp ht
 have hn := isGrp_rng hg
 cases hm : inR me 0 (n - 1)
 ·simp (disch := first|assumption|omega) only [S0,rA,rQ,rB,rT,rE, spec_GoodTable, spec_l1In, ht, hm]
 simp (disch := first|assumption|omega) only [S0,rA,rQ,rB,rT,rE, spec_GoodTable, spec_l1In, ht, hm]
 rw [scanF 1 leads.length (leadAt n me leads) [.bool false]]
 ·(refine fork_in ?_; repeat' (refine fork_eq ?_ ?_<;>intro _<;>try simp (disch := first|assumption|omega) only [S0,rA,rQ,rB,rT,rE, *]))
 ·intro i hi hlt
  have hb : InB leads (i : Int) := InB_nat.2 hi
  have hq := hs4 _ (at_mem hi)
  unfold leadAt leadGe
  cases c1 : leadOk n me (atI leads (i : Int))
  ·simp (disch := first|assumption|omega) only [S0,rA,rQ,rB,rT,rE, S_row, spec_l8Lead, hlt, c1]
  by_cases h0 : 0 < (i : Int)
  ·have d0 : decide (0 < (i : Int)) = true := by simpa using h0
   have hb2 : InB leads ((i : Int) - 1) := by unfold InB; omega
   simp (disch := first|assumption|omega) only [S0,rA,rQ,rB,rT,rE, S_row, spec_l8Lead, hlt, c1, d0] <;> repeat' (refine fork_eq (fun _ => ?_) (fun _ => ?_) <;> try simp (disch := first|assumption|omega) only [S0,rA,rQ,rB,rT,rE, S_row, spec_l8Lead, *])
  ·have d0 : decide (0 < (i : Int)) = false := by simpa using h0
   simp (disch := first|assumption|omega) only [S0,rA,rQ,rB,rT,rE, S_row, spec_l8Lead, hlt, c1, d0]
 ·intro hlt
  simp (disch := first|assumption|omega) only [S0,rA,rQ,rB,rT,rE, hlt]
theorem impl_GoodReplica (me n : Int) (rows : List (List TRow)) (leads : List TLead) (hs : smTab rows) (hs2 : smLeads leads) : Fun T 84 [i64 me, i64 n, rL rows, rL leads] = some [.bool (repOk ⟨me, ⟨n, rows⟩, leads⟩)] := by
 rw [Fun_k (t := tm84) rfl]; unfold tm84; unfold repOk
 obtain ⟨hs3, hs4⟩ := hs2
 cases ht : tabOk ⟨n, rows⟩
 ·simp (disch := first|assumption|omega) only [S0,rA,rQ,rB,rT,rE, impl_GoodTable, ht]
 have hg : isGrp n = true := tabOk_grp ht
 have hn := isGrp_rng hg
 cases hm : inR me 0 (n - 1)
 ·simp (disch := first|assumption|omega) only [S0,rA,rQ,rB,rT,rE, impl_GoodTable, impl_within, ht, hm]
 simp (disch := first|assumption|omega) only [S0,rA,rQ,rB,rT,rE, impl_GoodTable, impl_within, ht, hm]
 rw [scanF 1 leads.length (leadAt n me leads) [.bool false]]
 ·(refine fork_in ?_; repeat' (refine fork_eq ?_ ?_<;>intro _<;>try simp (disch := first|assumption|omega) only [S0,rA,rQ,rB,rT,rE, *]))
 ·intro i hi hlt
  have hb : InB leads (i : Int) := InB_nat.2 hi
  have hq := hs4 _ (at_mem hi)
  unfold leadAt leadGe
  cases c1 : leadOk n me (atI leads (i : Int))
  ·simp (disch := first|assumption|omega) only [S0,rA,rQ,rB,rT,rE, S_row, impl_goodLead, hlt, c1]
  by_cases h0 : 0 < (i : Int)
  ·have d0 : decide (0 < (i : Int)) = true := by simpa using h0
   have hb2 : InB leads ((i : Int) - 1) := by unfold InB; omega
   have hc := cmp2 (atI leads (i : Int)).rep (atI leads (i : Int)).no (atI leads ((i : Int) - 1)).rep (atI leads ((i : Int) - 1)).no
   have l1 : ([(atI leads (i : Int)).rep, (atI leads (i : Int)).no] : List Int).length <= 1099511627776 := by simp
   have l2 : ([(atI leads ((i : Int) - 1)).rep, (atI leads ((i : Int) - 1)).no] : List Int).length <= 1099511627776 := by simp
   generalize hz : (decide ((atI leads (i : Int)).rep < (atI leads ((i : Int) - 1)).rep) || ((atI leads ((i : Int) - 1)).rep == (atI leads (i : Int)).rep && decide ((atI leads (i : Int)).no <= (atI leads ((i : Int) - 1)).no))) = z at hc ⊢
   cases z <;> simp (disch := first|assumption|omega) only [S0,rA,rQ,rB,rT,rE, S_row, S_mk, impl_goodLead, slices_Compare_int, hlt, c1, d0, hc]
  ·have d0 : decide (0 < (i : Int)) = false := by simpa using h0
   simp (disch := first|assumption|omega) only [S0,rA,rQ,rB,rT,rE, S_row, impl_goodLead, hlt, c1, d0]
 ·intro hlt
  simp (disch := first|assumption|omega) only [S0,rA,rQ,rB,rT,rE, hlt]
theorem spec_l9Asked (n : Int) (l : List TAsked) (hg : isGrp n = true) (hl : l.length <= 10000000000) : Fun T 34 [i64 n, rL l] = some [.bool (askedM n l)] := by
 rw [Fun_k (t := tm34) rfl]; unfold tm34; unfold askedM
 have hn := isGrp_rng hg
 simp (disch := first|assumption|omega) only [S0,rA,rQ,rB,rT,rE]
 rw [scanF 1 l.length (askedAt n l) [.bool false]]
 ·(refine fork_in ?_; repeat' (refine fork_eq ?_ ?_<;>intro _<;>try simp (disch := first|assumption|omega) only [S0,rA,rQ,rB,rT,rE, *]))
 ·intro i hi hlt
  have hb : InB l (i : Int) := InB_nat.2 hi
  unfold askedAt
  cases c1 : inst n (atI l (i : Int)).rep (atI l (i : Int)).no
  ·simp (disch := first|assumption|omega) only [S0,rA,rQ,rB,rT,rE, S_row, spec_l3Inst, hlt, c1]
  cases c2 : cmdOk (atI l (i : Int)).cmd
  ·simp (disch := first|assumption|omega) only [S0,rA,rQ,rB,rT,rE, S_row, spec_l3Inst, spec_GoodCmd, hlt, c1, c2]
  cases c3 : (atI l (i : Int)).cmd.kind == 0
  rotate_left
  ·simp (disch := first|assumption|omega) only [S0,rA,rQ,rB,rT,rE, S_row, spec_l3Inst, spec_GoodCmd, hlt, c1, c2, c3]
  simp (disch := first|assumption|omega) only [S0,rA,rQ,rB,rT,rE, S_row, S_sub, spec_l3Inst, spec_GoodCmd, hlt, c1, c2, c3, Int.toNat_natCast, Int.toNat_zero, List.drop_zero]
  have e : (l.take i).any (fun b => b.rep == (atI l (i : Int)).rep && b.no == (atI l (i : Int)).no) = !(l.take i).all fun b => !(b.rep == (atI l (i : Int)).rep && b.no == (atI l (i : Int)).no) := by rw [List.not_all_eq_any_not]; simp only [Bool.not_not]
  rw [e, allF 3 (l.take i) (fun b => !(b.rep == (atI l (i : Int)).rep && b.no == (atI l (i : Int)).no)) [.bool false]]
  ·(refine fork_in ?_; repeat' (refine fork_eq ?_ ?_<;>intro _<;>try simp (disch := first|assumption|omega) only [S0,rA,rQ,rB,rT,rE, *]))
  ·intro j hj hb2 hlt2 hm
   have hj3 : j < 10000000000 := by rw [List.length_take] at hj; omega
   have s1 : ((atI l (i : Int)).rep == (atI (l.take i) (j : Int)).rep) = ((atI (l.take i) (j : Int)).rep == (atI l (i : Int)).rep) := by rw [Bool.eq_iff_iff, beq_iff_eq, beq_iff_eq]; exact eq_comm
   have s2 : ((atI l (i : Int)).no == (atI (l.take i) (j : Int)).no) = ((atI (l.take i) (j : Int)).no == (atI l (i : Int)).no) := by rw [Bool.eq_iff_iff, beq_iff_eq, beq_iff_eq]; exact eq_comm
   generalize h1 : ((atI (l.take i) (j : Int)).rep == (atI l (i : Int)).rep) = q1 at s1
   generalize h2 : ((atI (l.take i) (j : Int)).no == (atI l (i : Int)).no) = q2 at s2
   cases q1 <;> cases q2 <;> simp (disch := first|assumption|omega) only [S0,rA,rQ,rB,rT,rE, S_row, hlt2, h1, h2, s1, s2]
  ·intro hlt2
   simp (disch := first|assumption|omega) only [S0,rA,rQ,rB,rT,rE, hlt2]
 ·intro hlt
  simp (disch := first|assumption|omega) only [S0,rA,rQ,rB,rT,rE, hlt]
theorem impl_asked_1 (b_rep b_no b_cmd_kind b_cmd_id b_cmd_src b_cmd_dst b_cmd_amt : Int) (rep no : Int) : Fun T 108 [i64 b_rep, i64 b_no, i64 b_cmd_kind, i64 b_cmd_id, i64 b_cmd_src, i64 b_cmd_dst, i64 b_cmd_amt, i64 rep, i64 no] = some [.bool (b_rep == rep && b_no == no)] := by
 rw [Fun_k (t := tm108) rfl]; unfold tm108
 (refine fork_in ?_; repeat' (refine fork_eq ?_ ?_<;>intro _<;>try simp (disch := first|assumption|omega) only [S0,rA,rQ,rB,rT,rE, *]))
theorem ix_asked_1 (rep no : Int) (xs : List TAsked) (hx : xs.length <= 1099511627776) : Fun T 107 [rL xs, i64 rep, i64 no] = some [i64 (ixF (fun b => b.rep == rep && b.no == no) xs)] := by
 rw [Fun_k (t := tm107) rfl]; unfold tm107
 simp (disch := first|assumption|omega) only [S0,rA,rQ,rB,rT,rE, S_row, *]
 rw [findX 1 xs (fun b => b.rep == rep && b.no == no) (fun i => [i64 i])]
 ·cases h : xs.any (fun b => b.rep == rep && b.no == no)
  ·have e : ixF (fun b => b.rep == rep && b.no == no) xs = -1 := by
    have h2 := ixF_any (fun b => b.rep == rep && b.no == no) xs
    rw [h] at h2
    unfold ixF at h2 ⊢
    split at h2 <;> simp_all
   rw [e]; simp (disch := first|assumption|omega) only [S0,rA,rQ,rB,rT,rE]
  ·simp (disch := first|assumption|omega) only [S0,rA,rQ,rB,rT,rE]
 ·intro i hi hb hl hp
  (refine fork_in ?_; repeat' (refine fork_eq ?_ ?_<;>intro _<;>try simp (disch := first|assumption|omega) only [S0,rA,rQ,rB,rT,rE,S_row,impl_asked_1, *]))
 ·intro i hi hb hl hp
  (refine fork_in ?_; repeat' (refine fork_eq ?_ ?_<;>intro _<;>try simp (disch := first|assumption|omega) only [S0,rA,rQ,rB,rT,rE,S_row,impl_asked_1, *]))
 ·intro hl
  (refine fork_in ?_; repeat' (refine fork_eq ?_ ?_<;>intro _<;>try simp (disch := first|assumption|omega) only [S0,rA,rQ,rB,rT,rE, *]))
theorem impl_Net_asked (reps : List TRep) (bag : List TMsg) (l : List TAsked) (k : Nat) (rep no : Int) (hk : k <= l.length) (hl : l.length <= 10000000000) : Fun T 106 [rL reps, rL bag, rL l, i64 k, i64 rep, i64 no] = some [i64 (ixF (fun b => b.rep == rep && b.no == no) (l.take k))] := by
 rw [Fun_k (t := tm106) rfl]; unfold tm106
 have ht : (l.take k).length <= 1099511627776 := by rw [List.length_take]; omega
 simp (disch := first|assumption|omega) only [S0,rA,rQ,rB,rT,rE, S_sub, ix_asked_1, Int.toNat_natCast, Int.toNat_zero, List.drop_zero]
theorem spec_GoodNet (reps : List TRep) (bag : List TMsg) (asked : List TAsked) (h1 : smReps reps) (h2 : smMsgs bag) (h3 : asked.length <= 10000000000) : Fun T 32 [rL reps, rL bag, rL asked] = some [.bool (netOk ⟨reps, bag, asked⟩)] := by
 rw [Fun_k (t := tm32) rfl]; unfold tm32; unfold netOk
 obtain ⟨h4, h5⟩ := h1
 obtain ⟨h6, h7⟩ := h2
 cases hg : isGrp (reps.length : Int)
 ·simp (disch := first|assumption|omega) only [S0,rA,rQ,rB,rT,rE, spec_IsGroup, hg]
 cases hb : decide (80 < (bag.length : Int))
 rotate_left
 ·simp (disch := first|assumption|omega) only [S0,rA,rQ,rB,rT,rE, spec_IsGroup, hg, hb]
 cases ha : askedM (reps.length : Int) asked
 ·simp (disch := first|assumption|omega) only [S0,rA,rQ,rB,rT,rE, spec_IsGroup, spec_l9Asked, hg, hb, ha]
 simp (disch := first|assumption|omega) only [S0,rA,rQ,rB,rT,rE, spec_IsGroup, spec_l9Asked, hg, hb, ha]
 rw [scanF 1 reps.length (repAt reps.length reps) [.bool false]]
 ·cases hr : allB (repAt reps.length reps) reps.length
  ·simp (disch := first|assumption|omega) only [S0,rA,rQ,rB,rT,rE]
  ·simp (disch := first|assumption|omega) only [S0,rA,rQ,rB,rT,rE]
   rw [allF 3 bag (fun m => msgOk reps.length m) [.bool false]]
   ·(refine fork_in ?_; repeat' (refine fork_eq ?_ ?_<;>intro _<;>try simp (disch := first|assumption|omega) only [S0,rA,rQ,rB,rT,rE, *]))
   ·intro i hi hbi hlt hm
    have hq := h7 _ hm
    simp (disch := first|assumption|omega) only [S0,rA,rQ,rB,rT,rE, S_row, spec_GoodMsg, hlt] <;> repeat' (refine fork_eq (fun _ => ?_) (fun _ => ?_) <;> try simp (disch := first|assumption|omega) only [S0,rA,rQ,rB,rT,rE, *])
   ·intro hlt
    simp (disch := first|assumption|omega) only [S0,rA,rQ,rB,rT,rE, hlt]
 ·intro i hi hlt
  have hbi : InB reps (i : Int) := InB_nat.2 hi
  obtain ⟨hq1, hq2⟩ := h5 _ (at_mem hi)
  unfold repAt
  simp (disch := first|assumption|omega) only [S0,rA,rQ,rB,rT,rE, S_row, spec_GoodReplica, hlt] <;> repeat' (refine fork_eq (fun _ => ?_) (fun _ => ?_) <;> try simp (disch := first|assumption|omega) only [S0,rA,rQ,rB,rT,rE, *])
 ·intro hlt
  simp (disch := first|assumption|omega) only [S0,rA,rQ,rB,rT,rE, hlt]
theorem impl_GoodNet_1 (m_kind m_src m_dst m_rep m_no m_ballot m_vote m_state m_cmd_kind m_cmd_id m_cmd_src m_cmd_dst m_cmd_amt m_attr_seq : Int) (m_attr_deps : (List Int)) (n : Int) (hx : m_attr_deps.length <= 10000000000) : Fun T 67 [i64 m_kind, i64 m_src, i64 m_dst, i64 m_rep, i64 m_no, i64 m_ballot, i64 m_vote, i64 m_state, i64 m_cmd_kind, i64 m_cmd_id, i64 m_cmd_src, i64 m_cmd_dst, i64 m_cmd_amt, i64 m_attr_seq, rL m_attr_deps, i64 n] = some [.bool (!msgOk n ⟨m_kind, m_src, m_dst, m_rep, m_no, m_ballot, m_vote, m_state, ⟨m_cmd_kind, m_cmd_id, m_cmd_src, m_cmd_dst, m_cmd_amt⟩, ⟨m_attr_seq, m_attr_deps⟩⟩)] := by
 rw [Fun_k (t := tm67) rfl]; unfold tm67
 simp (disch := first|assumption|omega) only [S0,rA,rQ,rB,rT,rE, impl_GoodMsg]
theorem ix_GoodNet_1 (n : Int) (xs : List TMsg) (hx : xs.length <= 1099511627776) (hq : ∀ x ∈ xs, x.attr.deps.length <= 10000000000) : Fun T 66 [rL xs, i64 n] = some [i64 (ixF (fun m => !msgOk n m) xs)] := by
 rw [Fun_k (t := tm66) rfl]; unfold tm66
 simp (disch := first|assumption|omega) only [S0,rA,rQ,rB,rT,rE, S_row, *]
 rw [findX 1 xs (fun m => !msgOk n m) (fun i => [i64 i])]
 ·cases h : xs.any (fun m => !msgOk n m)
  ·have e : ixF (fun m => !msgOk n m) xs = -1 := by
    have h2 := ixF_any (fun m => !msgOk n m) xs
    rw [h] at h2
    unfold ixF at h2 ⊢
    split at h2 <;> simp_all
   rw [e]; simp (disch := first|assumption|omega) only [S0,rA,rQ,rB,rT,rE]
  ·simp (disch := first|assumption|omega) only [S0,rA,rQ,rB,rT,rE]
 ·intro i hi hb hl hp
  have hq' := hq _ (at_mem hi)
  try simp only at hq' hp
  (refine fork_in ?_; repeat' (refine fork_eq ?_ ?_<;>intro _<;>try simp (disch := first|assumption|omega) only [S0,rA,rQ,rB,rT,rE,S_row,impl_GoodNet_1, *]))
 ·intro i hi hb hl hp
  have hq' := hq _ (at_mem hi)
  try simp only at hq' hp
  (refine fork_in ?_; repeat' (refine fork_eq ?_ ?_<;>intro _<;>try simp (disch := first|assumption|omega) only [S0,rA,rQ,rB,rT,rE,S_row,impl_GoodNet_1, *]))
 ·intro hl
  (refine fork_in ?_; repeat' (refine fork_eq ?_ ?_<;>intro _<;>try simp (disch := first|assumption|omega) only [S0,rA,rQ,rB,rT,rE, *]))
theorem ct_GoodNet_1 (n : Int) (xs : List TMsg) (hx : xs.length <= 1099511627776) (hq : ∀ x ∈ xs, x.attr.deps.length <= 10000000000) : Fun T 65 [rL xs, i64 n] = some [.bool (xs.any (fun m => !msgOk n m))] := by
 rw [Fun_k (t := tm65) rfl]; unfold tm65
 (refine fork_in ?_; repeat' (refine fork_eq ?_ ?_<;>intro _<;>try simp (disch := first|assumption|omega) only [S0,rA,rQ,rB,rT,rE,ix_GoodNet_1,ixF_any, *]))
theorem impl_GoodNet (reps : List TRep) (bag : List TMsg) (asked : List TAsked) (h1 : smReps reps) (h2 : smMsgs bag) (h3 : asked.length <= 10000000000) : Fun T 63 [rL reps, rL bag, rL asked] = some [.bool (netOk ⟨reps, bag, asked⟩)] := by
 rw [Fun_k (t := tm63) rfl]; unfold tm63; unfold netOk
 obtain ⟨h4, h5⟩ := h1
 obtain ⟨h6, h7⟩ := h2
 have h6' : bag.length <= 1099511627776 := by omega
 have e : (bag.any fun m => !msgOk reps.length m) = !bag.all fun m => msgOk reps.length m := by rw [List.not_all_eq_any_not]
 cases hg : isGrp (reps.length : Int)
 ·simp (disch := first|assumption|omega) only [S0,rA,rQ,rB,rT,rE, impl_IsGroup, hg]
 have hn := isGrp_rng hg
 cases hb : decide (80 < (bag.length : Int))
 rotate_left
 ·simp (disch := first|assumption|omega) only [S0,rA,rQ,rB,rT,rE, impl_IsGroup, hg, hb]
 cases hm : bag.all fun m => msgOk reps.length m
 ·simp (disch := first|assumption|omega) only [S0,rA,rQ,rB,rT,rE, impl_IsGroup, ct_GoodNet_1, hg, hb, e, hm]
 simp (disch := first|assumption|omega) only [S0,rA,rQ,rB,rT,rE, impl_IsGroup, ct_GoodNet_1, hg, hb, e, hm]
 rw [scanF 1 reps.length (repAt reps.length reps) [.bool false]]
 ·cases hr : allB (repAt reps.length reps) reps.length
  ·simp (disch := first|assumption|omega) only [S0,rA,rQ,rB,rT,rE]
  ·simp (disch := first|assumption|omega) only [S0,rA,rQ,rB,rT,rE]
   unfold askedM
   rw [scanF 3 asked.length (askedAt reps.length asked) [.bool false]]
   ·(refine fork_in ?_; repeat' (refine fork_eq ?_ ?_<;>intro _<;>try simp (disch := first|assumption|omega) only [S0,rA,rQ,rB,rT,rE, *]))
   ·intro i hi hlt
    have hbi : InB asked (i : Int) := InB_nat.2 hi
    have hle : i <= asked.length := by omega
    unfold askedAt
    cases c1 : inst (reps.length : Int) (atI asked (i : Int)).rep (atI asked (i : Int)).no
    ·simp (disch := first|assumption|omega) only [S0,rA,rQ,rB,rT,rE, S_row, impl_isInstance, hlt, c1, hg]
    cases c2 : cmdOk (atI asked (i : Int)).cmd
    ·simp (disch := first|assumption|omega) only [S0,rA,rQ,rB,rT,rE, S_row, impl_isInstance, impl_GoodCmd, hlt, c1, c2, hg]
    cases c3 : (atI asked (i : Int)).cmd.kind == 0
    rotate_left
    ·simp (disch := first|assumption|omega) only [S0,rA,rQ,rB,rT,rE, S_row, impl_isInstance, impl_GoodCmd, hlt, c1, c2, c3, hg]
    rw [<- ixF_any]
    cases c4 : decide (0 <= ixF (fun b : TAsked => b.rep == (atI asked (i : Int)).rep && b.no == (atI asked (i : Int)).no) (List.take i asked)) <;> simp (disch := first|assumption|omega) only [S0,rA,rQ,rB,rT,rE, S_row, impl_isInstance, impl_GoodCmd, impl_Net_asked, hlt, c1, c2, c3, c4, hg]
   ·intro hlt
    simp (disch := first|assumption|omega) only [S0,rA,rQ,rB,rT,rE, hlt]
 ·intro i hi hlt
  have hbi : InB reps (i : Int) := InB_nat.2 hi
  obtain ⟨hq1, hq2⟩ := h5 _ (at_mem hi)
  unfold repAt
  generalize hz : repOk (atI reps (i : Int)) = z
  cases k1 : (atI reps (i : Int)).me == (i : Int)
  ·simp (disch := first|assumption|omega) only [S0,rA,rQ,rB,rT,rE, S_row, hlt, k1]
  cases k2 : (atI reps (i : Int)).table.n == (reps.length : Int)
  ·simp (disch := first|assumption|omega) only [S0,rA,rQ,rB,rT,rE, S_row, hlt, k1, k2]
  cases z <;> simp (disch := first|assumption|omega) only [S0,rA,rQ,rB,rT,rE, S_row, impl_GoodReplica, hlt, k1, k2, hz]
 ·intro hlt
  simp (disch := first|assumption|omega) only [S0,rA,rQ,rB,rT,rE, hlt]
theorem spec_l10Agree (reps : List TRep) (bag : List TMsg) (asked : List TAsked) (h1 : smReps reps) (hn : netOk ⟨reps, bag, asked⟩ = true) : Fun T 52 [rL reps, rL bag, rL asked] = some [.bool (agrM ⟨reps, bag, asked⟩)] := by
 rw [Fun_k (t := tm52) rfl]; unfold tm52; unfold agrM
 obtain ⟨h4, h5⟩ := h1
 have hg := netOk_grp hn
 have hgr := isGrp_rng hg
 simp only at hg hgr
 simp (disch := first|assumption|omega) only [S0,rA,rQ,rB,rT,rE]
 rw [scanF 1 reps.length (fun i => (comM (atI reps (i : Int)).table.rows).all fun x => (reps.take i).all fun b => agrOk (atI reps (i : Int)).table b.table x) [.bool false]]
 ·(refine fork_in ?_; repeat' (refine fork_eq ?_ ?_<;>intro _<;>try simp (disch := first|assumption|omega) only [S0,rA,rQ,rB,rT,rE, *]))
 ·intro i hi hlt
  have hbi : InB reps (i : Int) := InB_nat.2 hi
  have hle : i <= reps.length := by omega
  obtain ⟨ht, hN, -⟩ := netOk_rep hn (i := i) hi
  obtain ⟨hq1, hq2⟩ := h5 _ (at_mem hi)
  simp only at ht hN
  rw [all_swap]
  generalize hR : atI reps (i : Int) = R at ht hN hq1 hq2 ⊢
  have h6 : ∀ l ∈ R.table.rows, l.length <= 6 := fun l hl => (tabOk_rows ht hl).1
  have hl := tabOk_len ht
  have hl2 : R.table.rows.length <= 100 := by omega
  have hcl : (comM R.table.rows).length <= 6 * R.table.rows.length := comN_len h6 (Nat.le_refl _)
  have hgt := tabOk_grp ht
  have htl : (reps.take i).length <= 1099511627776 := by rw [List.length_take]; omega
  simp (disch := first|assumption|omega) only [S0,rA,rQ,rB,rT,rE, S_row, S_sub, hlt, hR, Int.toNat_natCast, Int.toNat_zero, List.drop_zero]
  rw [allF 3 (reps.take i) (fun b => (comM R.table.rows).all fun x => agrOk R.table b.table x) [.bool false]]
  ·(refine fork_in ?_; repeat' (refine fork_eq ?_ ?_<;>intro _<;>try simp (disch := first|assumption|omega) only [S0,rA,rQ,rB,rT,rE, *]))
  ·intro k hk hbk hltk hmk
   have hmr := List.mem_of_mem_take hmk
   obtain ⟨hu1, hu2⟩ := h5 _ hmr
   obtain ⟨k2, hk2, ek⟩ := List.getElem_of_mem hmr
   obtain ⟨hut, huN, -⟩ := netOk_rep hn (i := k2) hk2
   simp only at hut huN
   rw [atI_get hk2, ek] at hut huN
   generalize hU : atI (reps.take i) (k : Int) = U at hut huN hu1 hu2 ⊢
   have hgu := tabOk_grp hut
   simp (disch := first|assumption|omega) only [S0,rA,rQ,rB,rT,rE, S_row, spec_l4Committed, hltk, hU]
   rw [allF 5 (comM R.table.rows) (fun x => agrOk R.table U.table x) [.bool false]]
   ·(refine fork_in ?_; repeat' (refine fork_eq ?_ ?_<;>intro _<;>try simp (disch := first|assumption|omega) only [S0,rA,rQ,rB,rT,rE, *]))
   ·intro j hj hbj hltj hm
    obtain ⟨x0, x1, -, xi, -⟩ := comM_spec ht hm
    have xr := inst_rng xi
    have xb := tabOk_in ht xi
    have xi2 : inst U.table.n (atI (atI (comM R.table.rows) (j : Int)) 0) (atI (atI (comM R.table.rows) (j : Int)) 1) = true := by rw [huN, <- hN]; exact xi
    have xb2 := tabOk_in hut xi2
    have yd := trow_deps ht xi
    have yd2 := trow_deps hut xi2
    unfold agrOk
    generalize hw : trow R.table (atI (atI (comM R.table.rows) (j : Int)) 0) (atI (atI (comM R.table.rows) (j : Int)) 1) = w at yd ⊢
    generalize hv : trow U.table (atI (atI (comM R.table.rows) (j : Int)) 0) (atI (atI (comM R.table.rows) (j : Int)) 1) = v at yd2 ⊢
    cases k1 : v.state == 3
    ·simp (disch := first|assumption|omega) only [S0,rA,rQ,rB,rT,rE, S_row, S_eqs, spec_l4At, hltj, hw, hv, k1]
    cases k2 : decide (w.cmd = v.cmd)
    ·simp (disch := first|assumption|omega) only [S0,rA,rQ,rB,rT,rE, S_row, S_eqs, spec_l4At, hltj, hw, hv, k1, k2]
    cases k3 : decide (w.attr = v.attr)
    ·simp (disch := first|assumption|omega) only [S0,rA,rQ,rB,rT,rE, S_row, S_eqs, spec_l4At, spec_SameAttr, hltj, hw, hv, k1, k2, k3]
    simp (disch := first|assumption|omega) only [S0,rA,rQ,rB,rT,rE, S_row, S_eqs, spec_l4At, spec_SameAttr, hltj, hw, hv, k1, k2, k3]
   ·intro hltj
    simp (disch := first|assumption|omega) only [S0,rA,rQ,rB,rT,rE, hltj]
  ·intro hltk
   simp (disch := first|assumption|omega) only [S0,rA,rQ,rB,rT,rE, hltk]
 ·intro hlt
  simp (disch := first|assumption|omega) only [S0,rA,rQ,rB,rT,rE, hlt]
theorem impl_Net_agree (reps : List TRep) (bag : List TMsg) (asked : List TAsked) (h1 : smReps reps) (hn : netOk ⟨reps, bag, asked⟩ = true) : Fun T 109 [rL reps, rL bag, rL asked] = some [.bool (agrM ⟨reps, bag, asked⟩)] := by
 rw [Fun_k (t := tm109) rfl]; unfold tm109; unfold agrM
 obtain ⟨h4, h5⟩ := h1
 have hg := netOk_grp hn
 have hgr := isGrp_rng hg
 simp only at hg hgr
 simp (disch := first|assumption|omega) only [S0,rA,rQ,rB,rT,rE]
 rw [scanF 1 reps.length (fun i => (comM (atI reps (i : Int)).table.rows).all fun x => (reps.take i).all fun b => agrOk (atI reps (i : Int)).table b.table x) [.bool false]]
 ·(refine fork_in ?_; repeat' (refine fork_eq ?_ ?_<;>intro _<;>try simp (disch := first|assumption|omega) only [S0,rA,rQ,rB,rT,rE, *]))
 ·intro i hi hlt
  have hbi : InB reps (i : Int) := InB_nat.2 hi
  have hle : i <= reps.length := by omega
  obtain ⟨ht, hN, -⟩ := netOk_rep hn (i := i) hi
  obtain ⟨hq1, hq2⟩ := h5 _ (at_mem hi)
  simp only at ht hN
  generalize hR : atI reps (i : Int) = R at ht hN hq1 hq2 ⊢
  have h6 : ∀ l ∈ R.table.rows, l.length <= 6 := fun l hl => (tabOk_rows ht hl).1
  have hl := tabOk_len ht
  have hl2 : R.table.rows.length <= 100 := by omega
  have hcl : (comM R.table.rows).length <= 6 * R.table.rows.length := comN_len h6 (Nat.le_refl _)
  have hgt := tabOk_grp ht
  have htl : (reps.take i).length <= 1099511627776 := by rw [List.length_take]; omega
  simp (disch := first|assumption|omega) only [S0,rA,rQ,rB,rT,rE, S_row, impl_Table_committed, hlt, hR]
  rw [allF 3 (comM R.table.rows) (fun x => (reps.take i).all fun b => agrOk R.table b.table x) [.bool false]]
  ·(refine fork_in ?_; repeat' (refine fork_eq ?_ ?_<;>intro _<;>try simp (disch := first|assumption|omega) only [S0,rA,rQ,rB,rT,rE, *]))
  ·intro j hj hbj hltj hm
   obtain ⟨x0, x1, -, xi, -⟩ := comM_spec ht hm
   have xr := inst_rng xi
   have xb := tabOk_in ht xi
   have yd := trow_deps ht xi
   simp (disch := first|assumption|omega) only [S0,rA,rQ,rB,rT,rE, S_row, S_sub, impl_Table_row, hltj, Int.toNat_natCast, Int.toNat_zero, List.drop_zero]
   rw [allF 5 (reps.take i) (fun b => agrOk R.table b.table (atI (comM R.table.rows) (j : Int))) [.bool false]]
   ·(refine fork_in ?_; repeat' (refine fork_eq ?_ ?_<;>intro _<;>try simp (disch := first|assumption|omega) only [S0,rA,rQ,rB,rT,rE, *]))
   ·intro k hk hbk hltk hmk
    have hmr := List.mem_of_mem_take hmk
    obtain ⟨hu1, hu2⟩ := h5 _ hmr
    obtain ⟨k2, hk2, ek⟩ := List.getElem_of_mem hmr
    obtain ⟨hut, huN, -⟩ := netOk_rep hn (i := k2) hk2
    simp only at hut huN
    rw [atI_get hk2, ek] at hut huN
    generalize hU : atI (reps.take i) (k : Int) = U at hut huN hu1 hu2 ⊢
    have hgu := tabOk_grp hut
    have xi2 : inst U.table.n (atI (atI (comM R.table.rows) (j : Int)) 0) (atI (atI (comM R.table.rows) (j : Int)) 1) = true := by rw [huN, <- hN]; exact xi
    have xb2 := tabOk_in hut xi2
    have yd2 := trow_deps hut xi2
    unfold agrOk
    generalize hw : trow R.table (atI (atI (comM R.table.rows) (j : Int)) 0) (atI (atI (comM R.table.rows) (j : Int)) 1) = w at yd ⊢
    generalize hv : trow U.table (atI (atI (comM R.table.rows) (j : Int)) 0) (atI (atI (comM R.table.rows) (j : Int)) 1) = v at yd2 ⊢
    cases k1 : v.state == 3
    ·simp (disch := first|assumption|omega) only [S0,rA,rQ,rB,rT,rE, S_row, S_eqs, impl_Table_row, hltk, hU, hw, hv, k1]
    cases k2 : decide (w.cmd = v.cmd)
    ·simp (disch := first|assumption|omega) only [S0,rA,rQ,rB,rT,rE, S_row, S_eqs, impl_Table_row, hltk, hU, hw, hv, k1, k2]
    cases k3 : decide (w.attr = v.attr)
    ·simp (disch := first|assumption|omega) only [S0,rA,rQ,rB,rT,rE, S_row, S_eqs, impl_Table_row, impl_SameAttr, hltk, hU, hw, hv, k1, k2, k3]
    simp (disch := first|assumption|omega) only [S0,rA,rQ,rB,rT,rE, S_row, S_eqs, impl_Table_row, impl_SameAttr, hltk, hU, hw, hv, k1, k2, k3]
   ·intro hltk
    simp (disch := first|assumption|omega) only [S0,rA,rQ,rB,rT,rE, hltk]
  ·intro hltj
   simp (disch := first|assumption|omega) only [S0,rA,rQ,rB,rT,rE, hltj]
 ·intro hlt
  simp (disch := first|assumption|omega) only [S0,rA,rQ,rB,rT,rE, hlt]
theorem impl_newTable (n : Int) (hg : isGrp n = true) : Fun T 116 [i64 n] = some [i64 n, rL (List.replicate n.toNat ([] : List TRow))] := by
 rw [Fun_k (t := tm116) rfl]; unfold tm116
 have hn := isGrp_rng hg
 simp (disch := first|assumption|omega) only [S0,rA,rQ,rB,rT,rE, S_make]
theorem spec_l10Settled (reps : List TRep) (bag : List TMsg) (asked : List TAsked) (h1 : smReps reps) (hn : netOk ⟨reps, bag, asked⟩ = true) : Fun T 58 [rL reps, rL bag, rL asked] = some [i64 (setM ⟨reps, bag, asked⟩).n, rL (setM ⟨reps, bag, asked⟩).rows] := by
 rw [Fun_k (t := tm58) rfl]; unfold tm58; unfold setM
 obtain ⟨h4, h5⟩ := h1
 have hg := netOk_grp hn
 have hgr := isGrp_rng hg
 simp only at hg hgr
 simp (disch := first|assumption|omega) only [S0,rA,rQ,rB,rT,rE, spec_l4New]
 rw [(foldS 1 reps (fun i (s : TTable) => [i64 i, i64 s.n, rL s.rows]) ⟨reps.length, List.replicate (reps.length : Int).toNat []⟩ (fun acc R => setF R.table acc) (fun _ s => TInv reps.length s) (fun s => [i64 s.n, rL s.rows]) rfl (TInv_new (by omega)) ?_ ?_).1]
 ·simp (disch := first|assumption|omega) only [S0,rA,rQ,rB,rT,rE]
 ·intro i s hi hb hlt hv
  obtain ⟨ht, hN, -⟩ := netOk_rep hn (i := i) hi
  obtain ⟨hq1, hq2⟩ := h5 _ (at_mem hi)
  simp only at ht hN
  generalize hR : atI reps (i : Int) = R at ht hN hq1 hq2 ⊢
  refine ⟨?_, setF_inv ht hN (by omega) hv⟩
  have h6 : ∀ l ∈ R.table.rows, l.length <= 6 := fun l hl => (tabOk_rows ht hl).1
  have hl := tabOk_len ht
  have hl2 : R.table.rows.length <= 100 := by omega
  have hcl : (comM R.table.rows).length <= 6 * R.table.rows.length := comN_len h6 (Nat.le_refl _)
  have hgt := tabOk_grp ht
  unfold setF
  simp (disch := first|assumption|omega) only [S0,rA,rQ,rB,rT,rE, S_row, spec_l4Committed, hlt, hR]
  rw [(foldS 3 (comM R.table.rows) (fun j (s : TTable) => [i64 j, i64 s.n, rL s.rows]) s (setX R.table) (fun _ s => TInv reps.length s) (fun s => [i64 s.n, rL s.rows]) rfl hv ?_ ?_).1]
  ·simp (disch := first|assumption|omega) only [S0,rA,rQ,rB,rT,rE]
  ·intro j s2 hj hbj hltj hv2
   have hm := at_mem hj
   obtain ⟨x0, x1, -, xi, -⟩ := comM_spec ht hm
   have xr := inst_rng xi
   have xb := tabOk_in ht xi
   have yd := trow_deps ht xi
   refine ⟨?_, setX_inv ht hN (by omega) hv2 hm⟩
   have hsm := TInv_sm hv2 (by omega)
   obtain ⟨v1, v2, -⟩ := hv2
   have xb2 : InB s2.rows (atI (atI (comM R.table.rows) (j : Int)) 0) := by unfold InB; omega
   have hg2 : isGrp s2.n = true := by rw [v1]; exact hg
   unfold setX setRow
   simp (disch := first|assumption|omega) only [S0,rA,rQ,rB,rT,rE, S_row, spec_l4At, spec_l4Set, hltj]
  ·intro s2 hltj hv2
   simp (disch := first|assumption|omega) only [S0,rA,rQ,rB,rT,rE, hltj]
 ·intro s hlt hv
  simp (disch := first|assumption|omega) only [S0,rA,rQ,rB,rT,rE, hlt]
theorem impl_Net_settled (reps : List TRep) (bag : List TMsg) (asked : List TAsked) (h1 : smReps reps) (hn : netOk ⟨reps, bag, asked⟩ = true) : Fun T 115 [rL reps, rL bag, rL asked] = some [i64 (setM ⟨reps, bag, asked⟩).n, rL (setM ⟨reps, bag, asked⟩).rows] := by
 rw [Fun_k (t := tm115) rfl]; unfold tm115; unfold setM
 obtain ⟨h4, h5⟩ := h1
 have hg := netOk_grp hn
 have hgr := isGrp_rng hg
 simp only at hg hgr
 simp (disch := first|assumption|omega) only [S0,rA,rQ,rB,rT,rE, impl_newTable]
 rw [(foldS 1 reps (fun i (s : TTable) => [i64 i, i64 s.n, rL s.rows]) ⟨reps.length, List.replicate (reps.length : Int).toNat []⟩ (fun acc R => setF R.table acc) (fun _ s => TInv reps.length s) (fun s => [i64 s.n, rL s.rows]) rfl (TInv_new (by omega)) ?_ ?_).1]
 ·simp (disch := first|assumption|omega) only [S0,rA,rQ,rB,rT,rE]
 ·intro i s hi hb hlt hv
  obtain ⟨ht, hN, -⟩ := netOk_rep hn (i := i) hi
  obtain ⟨hq1, hq2⟩ := h5 _ (at_mem hi)
  simp only at ht hN
  generalize hR : atI reps (i : Int) = R at ht hN hq1 hq2 ⊢
  refine ⟨?_, setF_inv ht hN (by omega) hv⟩
  have h6 : ∀ l ∈ R.table.rows, l.length <= 6 := fun l hl => (tabOk_rows ht hl).1
  have hl := tabOk_len ht
  have hl2 : R.table.rows.length <= 100 := by omega
  have hcl : (comM R.table.rows).length <= 6 * R.table.rows.length := comN_len h6 (Nat.le_refl _)
  have hgt := tabOk_grp ht
  unfold setF
  simp (disch := first|assumption|omega) only [S0,rA,rQ,rB,rT,rE, S_row, impl_Table_committed, hlt, hR]
  rw [(foldS 3 (comM R.table.rows) (fun j (s : TTable) => [i64 j, i64 s.n, rL s.rows]) s (setX R.table) (fun _ s => TInv reps.length s) (fun s => [i64 s.n, rL s.rows]) rfl hv ?_ ?_).1]
  ·simp (disch := first|assumption|omega) only [S0,rA,rQ,rB,rT,rE]
  ·intro j s2 hj hbj hltj hv2
   have hm := at_mem hj
   obtain ⟨x0, x1, -, xi, -⟩ := comM_spec ht hm
   have xr := inst_rng xi
   have xb := tabOk_in ht xi
   have yd := trow_deps ht xi
   refine ⟨?_, setX_inv ht hN (by omega) hv2 hm⟩
   have hsm := TInv_sm hv2 (by omega)
   obtain ⟨v1, v2, -⟩ := hv2
   have xb2 : InB s2.rows (atI (atI (comM R.table.rows) (j : Int)) 0) := by unfold InB; omega
   have hg2 : isGrp s2.n = true := by rw [v1]; exact hg
   unfold setX setRow
   simp (disch := first|assumption|omega) only [S0,rA,rQ,rB,rT,rE, S_row, impl_Table_row, impl_Table_set, hltj]
  ·intro s2 hltj hv2
   simp (disch := first|assumption|omega) only [S0,rA,rQ,rB,rT,rE, hltj]
 ·intro s hlt hv
  simp (disch := first|assumption|omega) only [S0,rA,rQ,rB,rT,rE, hlt]
theorem spec_SettledOf (reps : List TRep) (bag : List TMsg) (asked : List TAsked) (h1 : smReps reps) (h2 : smMsgs bag) (h3 : asked.length <= 10000000000) : Fun T 31 [rL reps, rL bag, rL asked] = some [i64 (setR ⟨reps, bag, asked⟩).1.n, rL (setR ⟨reps, bag, asked⟩).1.rows, .bool (setR ⟨reps, bag, asked⟩).2] := by
 rw [Fun_k (t := tm31) rfl]; unfold tm31; unfold setR
 cases ht : netOk ⟨reps, bag, asked⟩
 ·simp (disch := first|assumption|omega) only [S0,rA,rQ,rB,rT,rE, spec_GoodNet, ht, Bool.false_eq_true]
  rfl
 cases hu : agrM ⟨reps, bag, asked⟩
 ·simp (disch := first|assumption|omega) only [S0,rA,rQ,rB,rT,rE, spec_GoodNet, spec_l10Agree, ht, hu, Bool.false_eq_true]
  rfl
 simp (disch := first|assumption|omega) only [S0,rA,rQ,rB,rT,rE, spec_GoodNet, spec_l10Agree, spec_l10Settled, ht, hu]
theorem impl_SettledOf (reps : List TRep) (bag : List TMsg) (asked : List TAsked) (h1 : smReps reps) (h2 : smMsgs bag) (h3 : asked.length <= 10000000000) : Fun T 62 [rL reps, rL bag, rL asked] = some [i64 (setR ⟨reps, bag, asked⟩).1.n, rL (setR ⟨reps, bag, asked⟩).1.rows, .bool (setR ⟨reps, bag, asked⟩).2] := by
 rw [Fun_k (t := tm62) rfl]; unfold tm62; unfold setR
 cases ht : netOk ⟨reps, bag, asked⟩
 ·simp (disch := first|assumption|omega) only [S0,rA,rQ,rB,rT,rE, impl_GoodNet, ht, Bool.false_eq_true]
  rfl
 cases hu : agrM ⟨reps, bag, asked⟩
 ·simp (disch := first|assumption|omega) only [S0,rA,rQ,rB,rT,rE, impl_GoodNet, impl_Net_agree, ht, hu, Bool.false_eq_true]
  rfl
 simp (disch := first|assumption|omega) only [S0,rA,rQ,rB,rT,rE, impl_GoodNet, impl_Net_agree, impl_Net_settled, ht, hu]
theorem law (x_reps : (List TRep)) (x_bag : (List TMsg)) (x_asked : (List TAsked)) (hw_x : wf_TNet ⟨x_reps, x_bag, x_asked⟩) : Fun T 0 [rL x_reps, rL x_bag, rL x_asked] = some [.bool true] := by
 rw [Fun_k (t := tm0) rfl]; unfold tm0
 by_cases c_x : ((sz_TNet ⟨x_reps, x_bag, x_asked⟩ : Nat) : Int) <= 1048576
 rotate_left
 ·have e : szR (1048576) (sz_TNet ⟨x_reps, x_bag, x_asked⟩) = -1 := if_neg c_x
  (refine fork_in ?_; repeat' (refine fork_eq ?_ ?_<;>intro _<;>try simp (disch := first|assumption|omega) only [S0,rA,rQ,rB,rT,rE,lsz_TNet,lt0,ltm1, *]))
 have e_x : szR (1048576) (sz_TNet ⟨x_reps, x_bag, x_asked⟩) = 1048576 - ((sz_TNet ⟨x_reps, x_bag, x_asked⟩ : Nat) : Int) := if_pos c_x
 have s1_x : sz_TNet ⟨x_reps, x_bag, x_asked⟩ <= 1048576 := by omega
 have s2_x : sz_TNet ⟨x_reps, x_bag, x_asked⟩ <= 1099511627776 := by omega
 have szu_x := s1_x
 rw [szu_TNet] at szu_x
 simp only at szu_x
 have m1_x_reps : szL sz_TRep x_reps <= 1099511627776 := by first | omega | (have h := s2_x; rw [szL_zero] at h; exact h)
 have m2_x_reps : ctL ct_TRep x_reps <= 1125899906842624 := by have := ctL_le (c := ct_TRep) (f := sz_TRep) (m := 16) (by omega) ctb_TRep x_reps; omega
 have m1_x_bag : szL sz_TMsg x_bag <= 1099511627776 := by first | omega | (have h := s2_x; rw [szL_zero] at h; exact h)
 have m2_x_bag : ctL ct_TMsg x_bag <= 1125899906842624 := by have := ctL_le (c := ct_TMsg) (f := sz_TMsg) (m := 16) (by omega) ctb_TMsg x_bag; omega
 have m1_x_asked : x_asked.length <= 1099511627776 := by first | omega | (have h := s2_x; rw [szL_zero] at h; exact h)
 have m2_x_asked : ctL ct_TAsked x_asked <= 1125899906842624 := by have := ctL_le (c := ct_TAsked) (f := (fun _ => 0)) (m := 16) (by omega) ctb_TAsked x_asked; simp only [szL_zero] at *; omega
 have n1 : smReps x_reps := smReps_of (by have := szu_TNet ⟨x_reps, x_bag, x_asked⟩; simp only at this; omega)
 have n2 : smMsgs x_bag := smMsgs_of (by have := szu_TNet ⟨x_reps, x_bag, x_asked⟩; simp only at this; omega)
 have n3 : x_asked.length <= 10000000000 := by
  have := szu_TNet ⟨x_reps, x_bag, x_asked⟩
  simp only at this
  have := szL_len (f := fun _ => 0) (xs := x_asked)
  omega
 have hz := setR_sz ⟨x_reps, x_bag, x_asked⟩
 have r1 : szL (szL sz_TRow) (setR ⟨x_reps, x_bag, x_asked⟩).1.rows <= 1099511627776 := by omega
 have r2 : sz_TTable (setR ⟨x_reps, x_bag, x_asked⟩).1 <= 1099511627776 := r1
 have r3 : ctL (ctL ct_TRow) (setR ⟨x_reps, x_bag, x_asked⟩).1.rows <= 1125899906842624 := by
  have := ctL_le (c := (ctL ct_TRow)) (f := (szL sz_TRow)) (m := 16) (by omega) (fun xs => Nat.le_trans (ctL_le (c := ct_TRow) (f := sz_TRow) (m := 16) (by omega) ctb_TRow xs) (Nat.le_add_left _ _)) (setR ⟨x_reps, x_bag, x_asked⟩).1.rows
  omega
 clear hz
 (refine fork_in ?_; repeat' (refine fork_eq ?_ ?_<;>intro _<;>try simp (disch := first|assumption|omega) only [S0,rA,rQ,rB,rT,rE,lsz_TNet,lto_TNet,spec_SettledOf,impl_SettledOf,leq_TTable,leq_TNet,lmk_TNet,lmk_TTable,lhd_TTable,lt0,ltm1, *]))
theorem hpure : ∀ ds, WTs [.sl 64 [.int .i64, .int .i64, .sl 24 [.sl 96 [.int .i64, .int .i64, .int .i64, .int .i64, .int .i64, .int .i64, .int .i64, .int .i64, .int .i64, .sl 8 [.int .i64]]], .sl 192 [.int .i64, .int .i64, .int .i64, .int .i64, .int .i64, .int .i64, .int .i64, .int .i64, .int .i64, .int .i64, .sl 8 [.int .i64], .int .i64, .sl 8 [.int .i64], .bool, .sl 8 [.int .i64], .sl 96 [.int .i64, .int .i64, .int .i64, .int .i64, .int .i64, .int .i64, .int .i64, .int .i64, .int .i64, .sl 8 [.int .i64]]]], .sl 136 [.int .i64, .int .i64, .int .i64, .int .i64, .int .i64, .int .i64, .int .i64, .int .i64, .int .i64, .int .i64, .int .i64, .int .i64, .int .i64, .int .i64, .sl 8 [.int .i64]], .sl 56 [.int .i64, .int .i64, .int .i64, .int .i64, .int .i64, .int .i64, .int .i64]] ds -> ∃ n, callN T n 0 ds = some [.bool true] := by
 intro ds h
 simp only [WTs] at h
 obtain ⟨d0, r0, rfl, w0, d1, r1, rfl, w1, d2, r2, rfl, w2, rfl⟩ := h
 obtain ⟨x, e_x, hw_x⟩ := dec_TNet [d0, d1, d2] (by simp only [WTs]; exact ⟨_, _, rfl, w0, _, _, rfl, w1, _, _, rfl, w2, rfl⟩)
 simp only [Enc.enc, List.cons.injEq, and_true] at e_x
 obtain ⟨rfl, rfl, rfl⟩ := e_x
 exact pure_of (law (x.reps) (x.bag) (x.asked) hw_x)
end FnExactSettledOf
end Go.Proofs.YtmpakpgonfnadaaGreat
