/- What the terms of FnExactLogOf come to. -/
import Derived.Test.YtnlhnfifkninpaaDoorFnExactLogOfTab
namespace Go.Proofs.YtnlhnfifkninpaaDoor
namespace FnExactLogOf
open Go Go.Proofs.YtnlhnfifkninpaaDoor.Rf
open Nat renaming reduceAdd → rA, reduceEqDiff → rQ
open Int renaming reduceBEq → rB, reduceLT → rT, reduceLE → rE
set_option linter.unusedSimpArgs false
set_option linter.unusedVariables false
set_option linter.unnecessarySimpa false
set_option maxHeartbeats 4000000
set_option maxRecDepth 10000
theorem lto_TCmd (x_kind x_id x_src x_dst x_amt : Int) : Fun T 11 [i64 x_kind, i64 x_id, i64 x_src, i64 x_dst, i64 x_amt] = some [i64 x_kind, i64 x_id, i64 x_src, i64 x_dst, i64 x_amt] := by
 rw [Fun_k (t := tm11) rfl]; unfold tm11
 (refine fork_in ?_; repeat' (refine fork_eq ?_ ?_<;>intro _<;>try simp (disch := first|assumption|omega) only [S0,rA,rQ,rB,rT,rE, *]))
theorem leq_TCmd (x_kind x_id x_src x_dst x_amt : Int) (y_kind y_id y_src y_dst y_amt : Int) : Fun T 77 [i64 x_kind, i64 x_id, i64 x_src, i64 x_dst, i64 x_amt, i64 y_kind, i64 y_id, i64 y_src, i64 y_dst, i64 y_amt] = some [.bool (decide ((⟨x_kind, x_id, x_src, x_dst, x_amt⟩ : TCmd) = ⟨y_kind, y_id, y_src, y_dst, y_amt⟩))] := by
 rw [Fun_k (t := tm77) rfl]; unfold tm77
 have e : decide ((⟨x_kind, x_id, x_src, x_dst, x_amt⟩ : TCmd) = ⟨y_kind, y_id, y_src, y_dst, y_amt⟩) = ((x_kind == y_kind) && (x_id == y_id) && (x_src == y_src) && (x_dst == y_dst) && (x_amt == y_amt)) := by
  simp only [TCmd.mk.injEq, Bool.beq_eq_decide_eq, Bool.decide_and, Bool.and_assoc]
 rw [e]
 (refine fork_in ?_; repeat' (refine fork_eq ?_ ?_<;>intro _<;>try simp (disch := first|assumption|omega) only [S0,rA,rQ,rB,rT,rE, *]))
theorem lsz_LI (xs : (List Int)) (l : Int) (h0 : 0 <= l) (h1 : l <= 1048576) (hw : xs.length <= 140737488351232) : Fun T 6 [rL xs, i64 l] = some [i64 (szR l (szL (fun _ => 0) xs))] := by
 rw [Fun_k (t := tm6) rfl]; unfold tm6
 have es : szL (fun _ => 0) xs = xs.length := szL_zero
 rw [es]
 by_cases c : (xs.length : Int) <= l
 ·have e : szR l xs.length = l - xs.length := if_pos c
  have d : decide (l - (xs.length : Int) < 0) = false := by simp; omega
  (refine fork_in ?_; repeat' (refine fork_eq ?_ ?_<;>intro _<;>try simp (disch := first|assumption|omega) only [S0,rA,rQ,rB,rT,rE, *]))
 ·have e : szR l xs.length = -1 := if_neg c
  have d : decide (l - (xs.length : Int) < 0) = true := by simp; omega
  (refine fork_in ?_; repeat' (refine fork_eq ?_ ?_<;>intro _<;>try simp (disch := first|assumption|omega) only [S0,rA,rQ,rB,rT,rE, *]))
theorem lto_LI (xs : (List Int)) (hs : szL (fun _ => 0) xs <= 1048576) : Fun T 13 [rL xs] = some [rL xs] := by
 rw [Fun_k (t := tm13) rfl]; unfold tm13
 have hl : xs.length <= 1048576 := Nat.le_trans szL_len hs
 simp (disch := first|assumption|omega) only [S0,rA,rQ,rB,rT,rE, S_make, Int.toNat_natCast, *]
 rw [toLoop xs rfl]
 ·(refine fork_in ?_; repeat' (refine fork_eq ?_ ?_<;>intro _<;>try simp (disch := first|assumption|omega) only [S0,rA,rQ,rB,rT,rE, *]))
 ·intro i ys hi hb hb' hl'
  (refine fork_in ?_; repeat' (refine fork_eq ?_ ?_<;>intro _<;>try simp (disch := first|assumption|omega) only [S0,rA,rQ,rB,rT,rE,S_row,S_set, *]))
 ·intro ys hl'
  (refine fork_in ?_; repeat' (refine fork_eq ?_ ?_<;>intro _<;>try simp (disch := first|assumption|omega) only [S0,rA,rQ,rB,rT,rE, *]))
theorem leq_LI (xs ys : (List Int)) (hs : szL (fun _ => 0) xs <= 1099511627776) : Fun T 79 [rL xs, rL ys] = some [.bool (decide (xs = ys))] := by
 rw [Fun_k (t := tm79) rfl]; unfold tm79
 have hx : xs.length <= 1099511627776 := Nat.le_trans szL_len hs
 by_cases hl : ys.length = xs.length
 ·simp (disch := first|assumption|omega) only [S0,rA,rQ,rB,rT,rE, *]
  rw [scanX 1 xs.length (fun i => decide (atI xs i = atI ys i)) [.bool false], allB_eq hl.symm]
  ·(refine fork_in ?_; repeat' (refine fork_eq ?_ ?_<;>intro _<;>try simp (disch := first|assumption|omega) only [S0,rA,rQ,rB,rT,rE, *]))
  ·intro i hi hp
   have hb : InB xs (i : Int) := InB_nat.2 hi
   have hb' : InB ys (i : Int) := InB_nat.2 (by omega)
   have h2 : decide ((i : Int) < xs.length) = true := by simp; omega
   have h3 : (atI xs i == atI ys i) = true := by simpa using hp
   (refine fork_in ?_; repeat' (refine fork_eq ?_ ?_<;>intro _<;>try simp (disch := first|assumption|omega) only [S0,rA,rQ,rB,rT,rE,S_row, *]))
  ·intro i hi hp
   have hb : InB xs (i : Int) := InB_nat.2 hi
   have hb' : InB ys (i : Int) := InB_nat.2 (by omega)
   have h2 : decide ((i : Int) < xs.length) = true := by simp; omega
   have h3 : (atI xs i == atI ys i) = false := by simpa using hp
   (refine fork_in ?_; repeat' (refine fork_eq ?_ ?_<;>intro _<;>try simp (disch := first|assumption|omega) only [S0,rA,rQ,rB,rT,rE,S_row, *]))
  ·have h2 : decide ((xs.length : Int) < xs.length) = false := by simp
   (refine fork_in ?_; repeat' (refine fork_eq ?_ ?_<;>intro _<;>try simp (disch := first|assumption|omega) only [S0,rA,rQ,rB,rT,rE, *]))
 ·have hl' : ((xs.length : Int) == (ys.length : Int)) = false := by simp; omega
  have e := eq_len (fun h => hl h.symm)
  (refine fork_in ?_; repeat' (refine fork_eq ?_ ?_<;>intro _<;>try simp (disch := first|assumption|omega) only [S0,rA,rQ,rB,rT,rE, *]))
theorem lsz_TAttr (x_seq : Int) (x_deps : (List Int)) (l : Int) (h0 : 0 <= l) (h1 : l <= 1048576) (hw : wf_TAttr ⟨x_seq, x_deps⟩) : Fun T 5 [i64 x_seq, rL x_deps, i64 l] = some [i64 (szR l (sz_TAttr ⟨x_seq, x_deps⟩))] := by
 rw [Fun_k (t := tm5) rfl]; unfold tm5
 unfold wf_TAttr at hw
 simp only at hw
 have w0 := hw
 by_cases c0 : ((szL (fun _ => 0) x_deps : Nat) : Int) <= l
 rotate_left
 ·have e0 : szR (l) (szL (fun _ => 0) x_deps) = -1 := if_neg c0
  have d0 : decide ((-1 : Int) < 0) = true := rfl
  have e : szR l (sz_TAttr ⟨x_seq, x_deps⟩) = -1 := by unfold szR sz_TAttr; simp only []; split <;> omega
  (refine fork_in ?_; repeat' (refine fork_eq ?_ ?_<;>intro _<;>try simp (disch := first|assumption|omega) only [S0,rA,rQ,rB,rT,rE,lsz_LI, *]))
 have e0 : szR (l) (szL (fun _ => 0) x_deps) = l - (szL (fun _ => 0) x_deps : Nat) := if_pos c0
 have d0 : decide (l - ((szL (fun _ => 0) x_deps : Nat) : Int) < 0) = false := by simp; omega
 have e : szR l (sz_TAttr ⟨x_seq, x_deps⟩) = l - ((szL (fun _ => 0) x_deps : Nat) : Int) := by unfold szR sz_TAttr; simp only []; split <;> omega
 (refine fork_in ?_; repeat' (refine fork_eq ?_ ?_<;>intro _<;>try simp (disch := first|assumption|omega) only [S0,rA,rQ,rB,rT,rE,lsz_LI, *]))
theorem lto_TAttr (x_seq : Int) (x_deps : (List Int)) (hs : sz_TAttr ⟨x_seq, x_deps⟩ <= 1048576) : Fun T 12 [i64 x_seq, rL x_deps] = some [i64 x_seq, rL x_deps] := by
 rw [Fun_k (t := tm12) rfl]; unfold tm12
 unfold sz_TAttr at hs
 simp only at hs
 have s0 : szL (fun _ => 0) x_deps <= 1048576 := by omega
 (refine fork_in ?_; repeat' (refine fork_eq ?_ ?_<;>intro _<;>try simp (disch := first|assumption|omega) only [S0,rA,rQ,rB,rT,rE,lto_LI, *]))
theorem leq_TAttr (x_seq : Int) (x_deps : (List Int)) (y_seq : Int) (y_deps : (List Int)) (hs : sz_TAttr ⟨x_seq, x_deps⟩ <= 1099511627776) : Fun T 78 [i64 x_seq, rL x_deps, i64 y_seq, rL y_deps] = some [.bool (decide ((⟨x_seq, x_deps⟩ : TAttr) = ⟨y_seq, y_deps⟩))] := by
 rw [Fun_k (t := tm78) rfl]; unfold tm78
 unfold sz_TAttr at hs
 simp only at hs
 have s0 : szL (fun _ => 0) x_deps <= 1099511627776 := by omega
 have e : decide ((⟨x_seq, x_deps⟩ : TAttr) = ⟨y_seq, y_deps⟩) = ((x_seq == y_seq) && decide ((x_deps : (List Int)) = y_deps)) := by
  simp only [TAttr.mk.injEq, Bool.beq_eq_decide_eq, Bool.decide_and, Bool.and_assoc]
 rw [e]
 (refine fork_in ?_; repeat' (refine fork_eq ?_ ?_<;>intro _<;>try simp (disch := first|assumption|omega) only [S0,rA,rQ,rB,rT,rE,leq_LI, *]))
theorem lsz_TRow (x_ballot x_vote x_state x_cmd_kind x_cmd_id x_cmd_src x_cmd_dst x_cmd_amt x_attr_seq : Int) (x_attr_deps : (List Int)) (l : Int) (h0 : 0 <= l) (h1 : l <= 1048576) (hw : wf_TRow ⟨x_ballot, x_vote, x_state, ⟨x_cmd_kind, x_cmd_id, x_cmd_src, x_cmd_dst, x_cmd_amt⟩, ⟨x_attr_seq, x_attr_deps⟩⟩) : Fun T 4 [i64 x_ballot, i64 x_vote, i64 x_state, i64 x_cmd_kind, i64 x_cmd_id, i64 x_cmd_src, i64 x_cmd_dst, i64 x_cmd_amt, i64 x_attr_seq, rL x_attr_deps, i64 l] = some [i64 (szR l (sz_TRow ⟨x_ballot, x_vote, x_state, ⟨x_cmd_kind, x_cmd_id, x_cmd_src, x_cmd_dst, x_cmd_amt⟩, ⟨x_attr_seq, x_attr_deps⟩⟩))] := by
 rw [Fun_k (t := tm4) rfl]; unfold tm4
 unfold wf_TRow at hw
 simp only at hw
 have w0 := hw
 by_cases c0 : ((sz_TAttr ⟨x_attr_seq, x_attr_deps⟩ : Nat) : Int) <= l
 rotate_left
 ·have e0 : szR (l) (sz_TAttr ⟨x_attr_seq, x_attr_deps⟩) = -1 := if_neg c0
  have d0 : decide ((-1 : Int) < 0) = true := rfl
  have e : szR l (sz_TRow ⟨x_ballot, x_vote, x_state, ⟨x_cmd_kind, x_cmd_id, x_cmd_src, x_cmd_dst, x_cmd_amt⟩, ⟨x_attr_seq, x_attr_deps⟩⟩) = -1 := by unfold szR sz_TRow; simp only []; split <;> omega
  (refine fork_in ?_; repeat' (refine fork_eq ?_ ?_<;>intro _<;>try simp (disch := first|assumption|omega) only [S0,rA,rQ,rB,rT,rE,lsz_TAttr, *]))
 have e0 : szR (l) (sz_TAttr ⟨x_attr_seq, x_attr_deps⟩) = l - (sz_TAttr ⟨x_attr_seq, x_attr_deps⟩ : Nat) := if_pos c0
 have d0 : decide (l - ((sz_TAttr ⟨x_attr_seq, x_attr_deps⟩ : Nat) : Int) < 0) = false := by simp; omega
 have e : szR l (sz_TRow ⟨x_ballot, x_vote, x_state, ⟨x_cmd_kind, x_cmd_id, x_cmd_src, x_cmd_dst, x_cmd_amt⟩, ⟨x_attr_seq, x_attr_deps⟩⟩) = l - ((sz_TAttr ⟨x_attr_seq, x_attr_deps⟩ : Nat) : Int) := by unfold szR sz_TRow; simp only []; split <;> omega
 (refine fork_in ?_; repeat' (refine fork_eq ?_ ?_<;>intro _<;>try simp (disch := first|assumption|omega) only [S0,rA,rQ,rB,rT,rE,lsz_TAttr, *]))
theorem lto_TRow (x_ballot x_vote x_state x_cmd_kind x_cmd_id x_cmd_src x_cmd_dst x_cmd_amt x_attr_seq : Int) (x_attr_deps : (List Int)) (hs : sz_TRow ⟨x_ballot, x_vote, x_state, ⟨x_cmd_kind, x_cmd_id, x_cmd_src, x_cmd_dst, x_cmd_amt⟩, ⟨x_attr_seq, x_attr_deps⟩⟩ <= 1048576) : Fun T 10 [i64 x_ballot, i64 x_vote, i64 x_state, i64 x_cmd_kind, i64 x_cmd_id, i64 x_cmd_src, i64 x_cmd_dst, i64 x_cmd_amt, i64 x_attr_seq, rL x_attr_deps] = some [i64 x_ballot, i64 x_vote, i64 x_state, i64 x_cmd_kind, i64 x_cmd_id, i64 x_cmd_src, i64 x_cmd_dst, i64 x_cmd_amt, i64 x_attr_seq, rL x_attr_deps] := by
 rw [Fun_k (t := tm10) rfl]; unfold tm10
 unfold sz_TRow at hs
 simp only at hs
 have s0 : sz_TAttr ⟨x_attr_seq, x_attr_deps⟩ <= 1048576 := by omega
 (refine fork_in ?_; repeat' (refine fork_eq ?_ ?_<;>intro _<;>try simp (disch := first|assumption|omega) only [S0,rA,rQ,rB,rT,rE,lto_TCmd,lto_TAttr, *]))
theorem leq_TRow (x_ballot x_vote x_state x_cmd_kind x_cmd_id x_cmd_src x_cmd_dst x_cmd_amt x_attr_seq : Int) (x_attr_deps : (List Int)) (y_ballot y_vote y_state y_cmd_kind y_cmd_id y_cmd_src y_cmd_dst y_cmd_amt y_attr_seq : Int) (y_attr_deps : (List Int)) (hs : sz_TRow ⟨x_ballot, x_vote, x_state, ⟨x_cmd_kind, x_cmd_id, x_cmd_src, x_cmd_dst, x_cmd_amt⟩, ⟨x_attr_seq, x_attr_deps⟩⟩ <= 1099511627776) : Fun T 76 [i64 x_ballot, i64 x_vote, i64 x_state, i64 x_cmd_kind, i64 x_cmd_id, i64 x_cmd_src, i64 x_cmd_dst, i64 x_cmd_amt, i64 x_attr_seq, rL x_attr_deps, i64 y_ballot, i64 y_vote, i64 y_state, i64 y_cmd_kind, i64 y_cmd_id, i64 y_cmd_src, i64 y_cmd_dst, i64 y_cmd_amt, i64 y_attr_seq, rL y_attr_deps] = some [.bool (decide ((⟨x_ballot, x_vote, x_state, ⟨x_cmd_kind, x_cmd_id, x_cmd_src, x_cmd_dst, x_cmd_amt⟩, ⟨x_attr_seq, x_attr_deps⟩⟩ : TRow) = ⟨y_ballot, y_vote, y_state, ⟨y_cmd_kind, y_cmd_id, y_cmd_src, y_cmd_dst, y_cmd_amt⟩, ⟨y_attr_seq, y_attr_deps⟩⟩))] := by
 rw [Fun_k (t := tm76) rfl]; unfold tm76
 unfold sz_TRow at hs
 simp only at hs
 have s0 : sz_TAttr ⟨x_attr_seq, x_attr_deps⟩ <= 1099511627776 := by omega
 have e : decide ((⟨x_ballot, x_vote, x_state, ⟨x_cmd_kind, x_cmd_id, x_cmd_src, x_cmd_dst, x_cmd_amt⟩, ⟨x_attr_seq, x_attr_deps⟩⟩ : TRow) = ⟨y_ballot, y_vote, y_state, ⟨y_cmd_kind, y_cmd_id, y_cmd_src, y_cmd_dst, y_cmd_amt⟩, ⟨y_attr_seq, y_attr_deps⟩⟩) = ((x_ballot == y_ballot) && (x_vote == y_vote) && (x_state == y_state) && decide ((⟨x_cmd_kind, x_cmd_id, x_cmd_src, x_cmd_dst, x_cmd_amt⟩ : TCmd) = ⟨y_cmd_kind, y_cmd_id, y_cmd_src, y_cmd_dst, y_cmd_amt⟩) && decide ((⟨x_attr_seq, x_attr_deps⟩ : TAttr) = ⟨y_attr_seq, y_attr_deps⟩)) := by
  simp only [TRow.mk.injEq, Bool.beq_eq_decide_eq, Bool.decide_and, Bool.and_assoc]
 rw [e]
 (refine fork_in ?_; repeat' (refine fork_eq ?_ ?_<;>intro _<;>try simp (disch := first|assumption|omega) only [S0,rA,rQ,rB,rT,rE,leq_TCmd,leq_TAttr, *]))
theorem lsz_LTRow (xs : (List TRow)) (l : Int) (h0 : 0 <= l) (h1 : l <= 1048576) (hw : xs.length <= 140737488351232 /\ ∀ y0 ∈ xs, wf_TRow y0) : Fun T 3 [rL xs, i64 l] = some [i64 (szR l (szL sz_TRow xs))] := by
 rw [Fun_k (t := tm3) rfl]; unfold tm3
 obtain ⟨hw1, hw2⟩ := hw
 by_cases c : (xs.length : Int) <= l
 ·have d : decide (l - (xs.length : Int) < 0) = false := by simp; omega
  simp (disch := first|assumption|omega) only [S0,rA,rQ,rB,rT,rE, *]
  rw [szLoop xs sz_TRow (l - xs.length) rfl (by omega) (by omega)]
  ·by_cases hd : ((xs.map sz_TRow).sum : Int) <= l - xs.length
   ·have e : szR l (szL sz_TRow xs) = l - xs.length - ((xs.map sz_TRow).sum : Nat) := by unfold szR; rw [show (szL sz_TRow xs) = xs.length + (xs.map sz_TRow).sum from rfl, if_pos (by omega)]; omega
    rw [decide_eq_true hd]
    (refine fork_in ?_; repeat' (refine fork_eq ?_ ?_<;>intro _<;>try simp (disch := first|assumption|omega) only [S0,rA,rQ,rB,rT,rE, *]))
   ·have e : szR l (szL sz_TRow xs) = -1 := by unfold szR; rw [show (szL sz_TRow xs) = xs.length + (xs.map sz_TRow).sum from rfl, if_neg (by omega)]
    rw [decide_eq_false hd]
    (refine fork_in ?_; repeat' (refine fork_eq ?_ ?_<;>intro _<;>try simp (disch := first|assumption|omega) only [S0,rA,rQ,rB,rT,rE, *]))
  ·intro i m hi hb hl hm hm' hf hr hd
   have hq := hw2 _ (at_mem hi)
   (refine fork_in ?_; repeat' (refine fork_eq ?_ ?_<;>intro _<;>try simp (disch := first|assumption|omega) only [S0,rA,rQ,rB,rT,rE,S_row,lsz_TRow, *]))
  ·intro i m hi hb hl hm hm' hf hr hd
   have hq := hw2 _ (at_mem hi)
   (refine fork_in ?_; repeat' (refine fork_eq ?_ ?_<;>intro _<;>try simp (disch := first|assumption|omega) only [S0,rA,rQ,rB,rT,rE,S_row,lsz_TRow, *]))
  ·intro m hl
   (refine fork_in ?_; repeat' (refine fork_eq ?_ ?_<;>intro _<;>try simp (disch := first|assumption|omega) only [S0,rA,rQ,rB,rT,rE, *]))
 ·have e : szR l (szL sz_TRow xs) = -1 := by unfold szR; rw [show (szL sz_TRow xs) = xs.length + (xs.map sz_TRow).sum from rfl, if_neg (by omega)]
  have d : decide (l - (xs.length : Int) < 0) = true := by simp; omega
  (refine fork_in ?_; repeat' (refine fork_eq ?_ ?_<;>intro _<;>try simp (disch := first|assumption|omega) only [S0,rA,rQ,rB,rT,rE, *]))
theorem lto_LTRow (xs : (List TRow)) (hs : szL sz_TRow xs <= 1048576) : Fun T 9 [rL xs] = some [rL xs] := by
 rw [Fun_k (t := tm9) rfl]; unfold tm9
 have hl : xs.length <= 1048576 := Nat.le_trans szL_len hs
 simp (disch := first|assumption|omega) only [S0,rA,rQ,rB,rT,rE, S_make, Int.toNat_natCast, *]
 rw [toLoop xs rfl]
 ·(refine fork_in ?_; repeat' (refine fork_eq ?_ ?_<;>intro _<;>try simp (disch := first|assumption|omega) only [S0,rA,rQ,rB,rT,rE, *]))
 ·intro i ys hi hb hb' hl'
  have hq : sz_TRow (atI xs i) <= 1048576 := by
   have := szL_mem (f := sz_TRow) (at_mem hi)
   omega
  (refine fork_in ?_; repeat' (refine fork_eq ?_ ?_<;>intro _<;>try simp (disch := first|assumption|omega) only [S0,rA,rQ,rB,rT,rE,S_row,S_set,lto_TRow, *]))
 ·intro ys hl'
  (refine fork_in ?_; repeat' (refine fork_eq ?_ ?_<;>intro _<;>try simp (disch := first|assumption|omega) only [S0,rA,rQ,rB,rT,rE, *]))
theorem leq_LTRow (xs ys : (List TRow)) (hs : szL sz_TRow xs <= 1099511627776) : Fun T 75 [rL xs, rL ys] = some [.bool (decide (xs = ys))] := by
 rw [Fun_k (t := tm75) rfl]; unfold tm75
 have hx : xs.length <= 1099511627776 := Nat.le_trans szL_len hs
 by_cases hl : ys.length = xs.length
 ·simp (disch := first|assumption|omega) only [S0,rA,rQ,rB,rT,rE, *]
  rw [scanX 1 xs.length (fun i => decide (atI xs i = atI ys i)) [.bool false], allB_eq hl.symm]
  ·(refine fork_in ?_; repeat' (refine fork_eq ?_ ?_<;>intro _<;>try simp (disch := first|assumption|omega) only [S0,rA,rQ,rB,rT,rE, *]))
  ·intro i hi hp
   have hb : InB xs (i : Int) := InB_nat.2 hi
   have hb' : InB ys (i : Int) := InB_nat.2 (by omega)
   have h2 : decide ((i : Int) < xs.length) = true := by simp; omega
   have hq : sz_TRow (atI xs i) <= 1099511627776 := by
    have := szL_mem (f := sz_TRow) (at_mem hi)
    omega
   (refine fork_in ?_; repeat' (refine fork_eq ?_ ?_<;>intro _<;>try simp (disch := first|assumption|omega) only [S0,rA,rQ,rB,rT,rE,S_row,leq_TRow, *]))
  ·intro i hi hp
   have hb : InB xs (i : Int) := InB_nat.2 hi
   have hb' : InB ys (i : Int) := InB_nat.2 (by omega)
   have h2 : decide ((i : Int) < xs.length) = true := by simp; omega
   have hq : sz_TRow (atI xs i) <= 1099511627776 := by
    have := szL_mem (f := sz_TRow) (at_mem hi)
    omega
   (refine fork_in ?_; repeat' (refine fork_eq ?_ ?_<;>intro _<;>try simp (disch := first|assumption|omega) only [S0,rA,rQ,rB,rT,rE,S_row,leq_TRow, *]))
  ·have h2 : decide ((xs.length : Int) < xs.length) = false := by simp
   (refine fork_in ?_; repeat' (refine fork_eq ?_ ?_<;>intro _<;>try simp (disch := first|assumption|omega) only [S0,rA,rQ,rB,rT,rE, *]))
 ·have hl' : ((xs.length : Int) == (ys.length : Int)) = false := by simp; omega
  have e := eq_len (fun h => hl h.symm)
  (refine fork_in ?_; repeat' (refine fork_eq ?_ ?_<;>intro _<;>try simp (disch := first|assumption|omega) only [S0,rA,rQ,rB,rT,rE, *]))
theorem lsz_LLTRow (xs : (List (List TRow))) (l : Int) (h0 : 0 <= l) (h1 : l <= 1048576) (hw : xs.length <= 140737488351232 /\ ∀ y0 ∈ xs, y0.length <= 140737488351232 /\ ∀ y1 ∈ y0, wf_TRow y1) : Fun T 2 [rL xs, i64 l] = some [i64 (szR l (szL (szL sz_TRow) xs))] := by
 rw [Fun_k (t := tm2) rfl]; unfold tm2
 obtain ⟨hw1, hw2⟩ := hw
 by_cases c : (xs.length : Int) <= l
 ·have d : decide (l - (xs.length : Int) < 0) = false := by simp; omega
  simp (disch := first|assumption|omega) only [S0,rA,rQ,rB,rT,rE, *]
  rw [szLoop xs (szL sz_TRow) (l - xs.length) rfl (by omega) (by omega)]
  ·by_cases hd : ((xs.map (szL sz_TRow)).sum : Int) <= l - xs.length
   ·have e : szR l (szL (szL sz_TRow) xs) = l - xs.length - ((xs.map (szL sz_TRow)).sum : Nat) := by unfold szR; rw [show (szL (szL sz_TRow) xs) = xs.length + (xs.map (szL sz_TRow)).sum from rfl, if_pos (by omega)]; omega
    rw [decide_eq_true hd]
    (refine fork_in ?_; repeat' (refine fork_eq ?_ ?_<;>intro _<;>try simp (disch := first|assumption|omega) only [S0,rA,rQ,rB,rT,rE, *]))
   ·have e : szR l (szL (szL sz_TRow) xs) = -1 := by unfold szR; rw [show (szL (szL sz_TRow) xs) = xs.length + (xs.map (szL sz_TRow)).sum from rfl, if_neg (by omega)]
    rw [decide_eq_false hd]
    (refine fork_in ?_; repeat' (refine fork_eq ?_ ?_<;>intro _<;>try simp (disch := first|assumption|omega) only [S0,rA,rQ,rB,rT,rE, *]))
  ·intro i m hi hb hl hm hm' hf hr hd
   have hq := hw2 _ (at_mem hi)
   (refine fork_in ?_; repeat' (refine fork_eq ?_ ?_<;>intro _<;>try simp (disch := first|assumption|omega) only [S0,rA,rQ,rB,rT,rE,S_row,lsz_LTRow, *]))
  ·intro i m hi hb hl hm hm' hf hr hd
   have hq := hw2 _ (at_mem hi)
   (refine fork_in ?_; repeat' (refine fork_eq ?_ ?_<;>intro _<;>try simp (disch := first|assumption|omega) only [S0,rA,rQ,rB,rT,rE,S_row,lsz_LTRow, *]))
  ·intro m hl
   (refine fork_in ?_; repeat' (refine fork_eq ?_ ?_<;>intro _<;>try simp (disch := first|assumption|omega) only [S0,rA,rQ,rB,rT,rE, *]))
 ·have e : szR l (szL (szL sz_TRow) xs) = -1 := by unfold szR; rw [show (szL (szL sz_TRow) xs) = xs.length + (xs.map (szL sz_TRow)).sum from rfl, if_neg (by omega)]
  have d : decide (l - (xs.length : Int) < 0) = true := by simp; omega
  (refine fork_in ?_; repeat' (refine fork_eq ?_ ?_<;>intro _<;>try simp (disch := first|assumption|omega) only [S0,rA,rQ,rB,rT,rE, *]))
theorem lto_LLTRow (xs : (List (List TRow))) (hs : szL (szL sz_TRow) xs <= 1048576) : Fun T 8 [rL xs] = some [rL xs] := by
 rw [Fun_k (t := tm8) rfl]; unfold tm8
 have hl : xs.length <= 1048576 := Nat.le_trans szL_len hs
 simp (disch := first|assumption|omega) only [S0,rA,rQ,rB,rT,rE, S_make, Int.toNat_natCast, *]
 rw [toLoop xs rfl]
 ·(refine fork_in ?_; repeat' (refine fork_eq ?_ ?_<;>intro _<;>try simp (disch := first|assumption|omega) only [S0,rA,rQ,rB,rT,rE, *]))
 ·intro i ys hi hb hb' hl'
  have hq : szL sz_TRow (atI xs i) <= 1048576 := by
   have := szL_mem (f := (szL sz_TRow)) (at_mem hi)
   omega
  (refine fork_in ?_; repeat' (refine fork_eq ?_ ?_<;>intro _<;>try simp (disch := first|assumption|omega) only [S0,rA,rQ,rB,rT,rE,S_row,S_set,lto_LTRow, *]))
 ·intro ys hl'
  (refine fork_in ?_; repeat' (refine fork_eq ?_ ?_<;>intro _<;>try simp (disch := first|assumption|omega) only [S0,rA,rQ,rB,rT,rE, *]))
theorem leq_LLTRow (xs ys : (List (List TRow))) (hs : szL (szL sz_TRow) xs <= 1099511627776) : Fun T 74 [rL xs, rL ys] = some [.bool (decide (xs = ys))] := by
 rw [Fun_k (t := tm74) rfl]; unfold tm74
 have hx : xs.length <= 1099511627776 := Nat.le_trans szL_len hs
 by_cases hl : ys.length = xs.length
 ·simp (disch := first|assumption|omega) only [S0,rA,rQ,rB,rT,rE, *]
  rw [scanX 1 xs.length (fun i => decide (atI xs i = atI ys i)) [.bool false], allB_eq hl.symm]
  ·(refine fork_in ?_; repeat' (refine fork_eq ?_ ?_<;>intro _<;>try simp (disch := first|assumption|omega) only [S0,rA,rQ,rB,rT,rE, *]))
  ·intro i hi hp
   have hb : InB xs (i : Int) := InB_nat.2 hi
   have hb' : InB ys (i : Int) := InB_nat.2 (by omega)
   have h2 : decide ((i : Int) < xs.length) = true := by simp; omega
   have hq : szL sz_TRow (atI xs i) <= 1099511627776 := by
    have := szL_mem (f := (szL sz_TRow)) (at_mem hi)
    omega
   (refine fork_in ?_; repeat' (refine fork_eq ?_ ?_<;>intro _<;>try simp (disch := first|assumption|omega) only [S0,rA,rQ,rB,rT,rE,S_row,leq_LTRow, *]))
  ·intro i hi hp
   have hb : InB xs (i : Int) := InB_nat.2 hi
   have hb' : InB ys (i : Int) := InB_nat.2 (by omega)
   have h2 : decide ((i : Int) < xs.length) = true := by simp; omega
   have hq : szL sz_TRow (atI xs i) <= 1099511627776 := by
    have := szL_mem (f := (szL sz_TRow)) (at_mem hi)
    omega
   (refine fork_in ?_; repeat' (refine fork_eq ?_ ?_<;>intro _<;>try simp (disch := first|assumption|omega) only [S0,rA,rQ,rB,rT,rE,S_row,leq_LTRow, *]))
  ·have h2 : decide ((xs.length : Int) < xs.length) = false := by simp
   (refine fork_in ?_; repeat' (refine fork_eq ?_ ?_<;>intro _<;>try simp (disch := first|assumption|omega) only [S0,rA,rQ,rB,rT,rE, *]))
 ·have hl' : ((xs.length : Int) == (ys.length : Int)) = false := by simp; omega
  have e := eq_len (fun h => hl h.symm)
  (refine fork_in ?_; repeat' (refine fork_eq ?_ ?_<;>intro _<;>try simp (disch := first|assumption|omega) only [S0,rA,rQ,rB,rT,rE, *]))
theorem lsz_TTable (x_n : Int) (x_rows : (List (List TRow))) (l : Int) (h0 : 0 <= l) (h1 : l <= 1048576) (hw : wf_TTable ⟨x_n, x_rows⟩) : Fun T 1 [i64 x_n, rL x_rows, i64 l] = some [i64 (szR l (sz_TTable ⟨x_n, x_rows⟩))] := by
 rw [Fun_k (t := tm1) rfl]; unfold tm1
 unfold wf_TTable at hw
 simp only at hw
 have w0 := hw
 by_cases c0 : ((szL (szL sz_TRow) x_rows : Nat) : Int) <= l
 rotate_left
 ·have e0 : szR (l) (szL (szL sz_TRow) x_rows) = -1 := if_neg c0
  have d0 : decide ((-1 : Int) < 0) = true := rfl
  have e : szR l (sz_TTable ⟨x_n, x_rows⟩) = -1 := by unfold szR sz_TTable; simp only []; split <;> omega
  (refine fork_in ?_; repeat' (refine fork_eq ?_ ?_<;>intro _<;>try simp (disch := first|assumption|omega) only [S0,rA,rQ,rB,rT,rE,lsz_LLTRow, *]))
 have e0 : szR (l) (szL (szL sz_TRow) x_rows) = l - (szL (szL sz_TRow) x_rows : Nat) := if_pos c0
 have d0 : decide (l - ((szL (szL sz_TRow) x_rows : Nat) : Int) < 0) = false := by simp; omega
 have e : szR l (sz_TTable ⟨x_n, x_rows⟩) = l - ((szL (szL sz_TRow) x_rows : Nat) : Int) := by unfold szR sz_TTable; simp only []; split <;> omega
 (refine fork_in ?_; repeat' (refine fork_eq ?_ ?_<;>intro _<;>try simp (disch := first|assumption|omega) only [S0,rA,rQ,rB,rT,rE,lsz_LLTRow, *]))
theorem lto_TTable (x_n : Int) (x_rows : (List (List TRow))) (hs : sz_TTable ⟨x_n, x_rows⟩ <= 1048576) : Fun T 7 [i64 x_n, rL x_rows] = some [i64 x_n, rL x_rows] := by
 rw [Fun_k (t := tm7) rfl]; unfold tm7
 unfold sz_TTable at hs
 simp only at hs
 have s0 : szL (szL sz_TRow) x_rows <= 1048576 := by omega
 (refine fork_in ?_; repeat' (refine fork_eq ?_ ?_<;>intro _<;>try simp (disch := first|assumption|omega) only [S0,rA,rQ,rB,rT,rE,lto_LLTRow, *]))
theorem leq_TTable (x_n : Int) (x_rows : (List (List TRow))) (y_n : Int) (y_rows : (List (List TRow))) (hs : sz_TTable ⟨x_n, x_rows⟩ <= 1099511627776) : Fun T 73 [i64 x_n, rL x_rows, i64 y_n, rL y_rows] = some [.bool (decide ((⟨x_n, x_rows⟩ : TTable) = ⟨y_n, y_rows⟩))] := by
 rw [Fun_k (t := tm73) rfl]; unfold tm73
 unfold sz_TTable at hs
 simp only at hs
 have s0 : szL (szL sz_TRow) x_rows <= 1099511627776 := by omega
 have e : decide ((⟨x_n, x_rows⟩ : TTable) = ⟨y_n, y_rows⟩) = ((x_n == y_n) && decide ((x_rows : (List (List TRow))) = y_rows)) := by
  simp only [TTable.mk.injEq, Bool.beq_eq_decide_eq, Bool.decide_and, Bool.and_assoc]
 rw [e]
 (refine fork_in ?_; repeat' (refine fork_eq ?_ ?_<;>intro _<;>try simp (disch := first|assumption|omega) only [S0,rA,rQ,rB,rT,rE,leq_LLTRow, *]))
theorem impl_within (x lo up : Int) : Fun T 43 [i64 x, i64 lo, i64 up] = some [.bool (inR x lo up)] := by
 rw [Fun_k (t := tm43) rfl]; unfold tm43; unfold inR
 (refine fork_in ?_; repeat' (refine fork_eq ?_ ?_<;>intro _<;>try simp (disch := first|assumption|omega) only [S0,rA,rQ,rB,rT,rE, *]))
theorem spec_l1In (x lo up : Int) : Fun T 18 [i64 x, i64 lo, i64 up] = some [.bool (inR x lo up)] := by
 rw [Fun_k (t := tm18) rfl]; unfold tm18; unfold inR
 (refine fork_in ?_; repeat' (refine fork_eq ?_ ?_<;>intro _<;>try simp (disch := first|assumption|omega) only [S0,rA,rQ,rB,rT,rE, *]))
theorem impl_IsGroup (n : Int) : Fun T 35 [i64 n] = some [.bool (isGrp n)] := by
 rw [Fun_k (t := tm35) rfl]; unfold tm35; unfold isGrp
 (refine fork_in ?_; repeat' (refine fork_eq ?_ ?_<;>intro _<;>try simp (disch := first|assumption|omega) only [S0,rA,rQ,rB,rT,rE, *]))
theorem spec_IsGroup (n : Int) : Fun T 16 [i64 n] = some [.bool (isGrp n)] := by
 rw [Fun_k (t := tm16) rfl]; unfold tm16; unfold isGrp
 (refine fork_in ?_; repeat' (refine fork_eq ?_ ?_<;>intro _<;>try simp (disch := first|assumption|omega) only [S0,rA,rQ,rB,rT,rE, *]))
theorem impl_isAccount (n : Int) : Fun T 45 [i64 n] = some [.bool (inR n 0 3)] := by
 rw [Fun_k (t := tm45) rfl]; unfold tm45
 (refine fork_in ?_; repeat' (refine fork_eq ?_ ?_<;>intro _<;>try simp (disch := first|assumption|omega) only [S0,rA,rQ,rB,rT,rE,impl_within, *]))
theorem spec_l2Account (n : Int) : Fun T 24 [i64 n] = some [.bool (inR n 0 3)] := by
 rw [Fun_k (t := tm24) rfl]; unfold tm24
 (refine fork_in ?_; repeat' (refine fork_eq ?_ ?_<;>intro _<;>try simp (disch := first|assumption|omega) only [S0,rA,rQ,rB,rT,rE,spec_l1In, *]))
theorem spec_l2Code (k i f t a : Int) : Fun T 23 [i64 k, i64 i, i64 f, i64 t, i64 a] = some [i64 (cmdCode ⟨k, i, f, t, a⟩)] := by
 rw [Fun_k (t := tm23) rfl]; unfold tm23; unfold cmdCode
 (refine fork_in ?_; repeat' (refine fork_eq ?_ ?_<;>intro _<;>try simp (disch := first|assumption|omega) only [S0,rA,rQ,rB,rT,rE,spec_l2Account,spec_l1In, *]))
theorem spec_GoodCmd (k i f t a : Int) : Fun T 22 [i64 k, i64 i, i64 f, i64 t, i64 a] = some [.bool (cmdOk ⟨k, i, f, t, a⟩)] := by
 rw [Fun_k (t := tm22) rfl]; unfold tm22; unfold cmdOk
 (refine fork_in ?_; repeat' (refine fork_eq ?_ ?_<;>intro _<;>try simp (disch := first|assumption|omega) only [S0,rA,rQ,rB,rT,rE,spec_l2Code,S_eqs,cmdCode0, *]))
 all_goals (refine bool_fin ?_; simp only [Bool.and_eq_true, Bool.or_eq_true, Bool.not_eq_true', Bool.not_eq_false', Bool.and_eq_false_iff, Bool.or_eq_false_iff, Bool.false_eq_true, beq_iff_eq, beq_eq_false_iff_ne, decide_eq_true_eq, decide_eq_false_iff_not, ne_eq] at *; grind)
theorem impl_GoodCmd (k i f t a : Int) : Fun T 44 [i64 k, i64 i, i64 f, i64 t, i64 a] = some [.bool (cmdOk ⟨k, i, f, t, a⟩)] := by
 rw [Fun_k (t := tm44) rfl]; unfold tm44; unfold cmdOk
 (refine fork_in ?_; repeat' (refine fork_eq ?_ ?_<;>intro _<;>try simp (disch := first|assumption|omega) only [S0,rA,rQ,rB,rT,rE,impl_within,impl_isAccount,S_eqs, *]))
theorem spec_l1All (xs : List Int) (lo up : Int) (hx : xs.length <= 1099511627776) : Fun T 26 [rL xs, i64 lo, i64 up] = some [.bool (xs.all fun x => inR x lo up)] := by
 rw [Fun_k (t := tm26) rfl]; unfold tm26
 simp (disch := first|assumption|omega) only [S0,rA,rQ,rB,rT,rE, S_row, *]
 rw [allX 1 xs (fun x => inR x lo up) [.bool false]]
 ·(refine fork_in ?_; repeat' (refine fork_eq ?_ ?_<;>intro _<;>try simp (disch := first|assumption|omega) only [S0,rA,rQ,rB,rT,rE, *]))
 ·intro i hi hb hl hp
  (refine fork_in ?_; repeat' (refine fork_eq ?_ ?_<;>intro _<;>try simp (disch := first|assumption|omega) only [S0,rA,rQ,rB,rT,rE,S_row,spec_l1In, *]))
 ·intro i hi hb hl hp
  (refine fork_in ?_; repeat' (refine fork_eq ?_ ?_<;>intro _<;>try simp (disch := first|assumption|omega) only [S0,rA,rQ,rB,rT,rE,S_row,spec_l1In, *]))
 ·intro hl
  (refine fork_in ?_; repeat' (refine fork_eq ?_ ?_<;>intro _<;>try simp (disch := first|assumption|omega) only [S0,rA,rQ,rB,rT,rE, *]))
theorem spec_l3Attr (n s : Int) (xs : List Int) (hx : xs.length <= 1099511627776) : Fun T 25 [i64 n, i64 s, rL xs] = some [.bool (attrOk n ⟨s, xs⟩)] := by
 rw [Fun_k (t := tm25) rfl]; unfold tm25; unfold attrOk
 (refine fork_in ?_; repeat' (refine fork_eq ?_ ?_<;>intro _<;>try simp (disch := first|assumption|omega) only [S0,rA,rQ,rB,rT,rE,spec_l1In,spec_l1All, *]))
theorem impl_GoodAttr_1 (x : Int) : Fun T 49 [i64 x] = some [.bool (!inR x 0 6)] := by
 rw [Fun_k (t := tm49) rfl]; unfold tm49
 (refine fork_in ?_; repeat' (refine fork_eq ?_ ?_<;>intro _<;>try simp (disch := first|assumption|omega) only [S0,rA,rQ,rB,rT,rE,impl_within, *]))
theorem ix_GoodAttr_1  (xs : List Int) (hx : xs.length <= 1099511627776) : Fun T 48 [rL xs] = some [i64 (ixF (fun x => !inR x 0 6) xs)] := by
 rw [Fun_k (t := tm48) rfl]; unfold tm48
 simp (disch := first|assumption|omega) only [S0,rA,rQ,rB,rT,rE, S_row, *]
 rw [findX 1 xs (fun x => !inR x 0 6) (fun i => [i64 i])]
 ·cases h : xs.any (fun x => !inR x 0 6)
  ·have e : ixF (fun x => !inR x 0 6) xs = -1 := by
    have h2 := ixF_any (fun x => !inR x 0 6) xs
    rw [h] at h2
    unfold ixF at h2 ⊢
    split at h2 <;> simp_all
   rw [e]; simp (disch := first|assumption|omega) only [S0,rA,rQ,rB,rT,rE]
  ·simp (disch := first|assumption|omega) only [S0,rA,rQ,rB,rT,rE]
 ·intro i hi hb hl hp
  (refine fork_in ?_; repeat' (refine fork_eq ?_ ?_<;>intro _<;>try simp (disch := first|assumption|omega) only [S0,rA,rQ,rB,rT,rE,S_row,impl_GoodAttr_1, *]))
 ·intro i hi hb hl hp
  (refine fork_in ?_; repeat' (refine fork_eq ?_ ?_<;>intro _<;>try simp (disch := first|assumption|omega) only [S0,rA,rQ,rB,rT,rE,S_row,impl_GoodAttr_1, *]))
 ·intro hl
  (refine fork_in ?_; repeat' (refine fork_eq ?_ ?_<;>intro _<;>try simp (disch := first|assumption|omega) only [S0,rA,rQ,rB,rT,rE, *]))
theorem ct_GoodAttr_1  (xs : List Int) (hx : xs.length <= 1099511627776) : Fun T 47 [rL xs] = some [.bool (xs.any (fun x => !inR x 0 6))] := by
 rw [Fun_k (t := tm47) rfl]; unfold tm47
 (refine fork_in ?_; repeat' (refine fork_eq ?_ ?_<;>intro _<;>try simp (disch := first|assumption|omega) only [S0,rA,rQ,rB,rT,rE,ix_GoodAttr_1,ixF_any, *]))
theorem impl_GoodAttr (n s : Int) (xs : List Int) (hx : xs.length <= 1099511627776) : Fun T 46 [i64 n, i64 s, rL xs] = some [.bool (isGrp n && attrOk n ⟨s, xs⟩)] := by
 rw [Fun_k (t := tm46) rfl]; unfold tm46; unfold attrOk
 have e : xs.any (fun x => !inR x 0 6) = !xs.all fun x => inR x 0 6 := by rw [List.not_all_eq_any_not]
 (refine fork_in ?_; repeat' (refine fork_eq ?_ ?_<;>intro _<;>try simp (disch := first|assumption|omega) only [S0,rA,rQ,rB,rT,rE,impl_IsGroup,impl_within,ct_GoodAttr_1,e,Bool.not_not, *]))
theorem spec_l1Same (xs ys : List Int) (hx : xs.length <= 1099511627776) : Fun T 21 [rL xs, rL ys] = some [.bool (decide (xs = ys))] := by
 rw [Fun_k (t := tm21) rfl]; unfold tm21
 by_cases hl : ys.length = xs.length
 ·simp (disch := first|assumption|omega) only [S0,rA,rQ,rB,rT,rE, *]
  rw [scanX 1 xs.length (fun i => decide (atI xs i = atI ys i)) [.bool false], allB_eq hl.symm]
  ·(refine fork_in ?_; repeat' (refine fork_eq ?_ ?_<;>intro _<;>try simp (disch := first|assumption|omega) only [S0,rA,rQ,rB,rT,rE, *]))
  ·intro i hi hp
   have hb : InB xs (i : Int) := InB_nat.2 hi
   have hb' : InB ys (i : Int) := InB_nat.2 (by omega)
   have h2 : decide ((i : Int) < xs.length) = true := by simp; omega
   have h3 : (atI xs i == atI ys i) = true := by simpa using hp
   (refine fork_in ?_; repeat' (refine fork_eq ?_ ?_<;>intro _<;>try simp (disch := first|assumption|omega) only [S0,rA,rQ,rB,rT,rE,S_row, *]))
  ·intro i hi hp
   have hb : InB xs (i : Int) := InB_nat.2 hi
   have hb' : InB ys (i : Int) := InB_nat.2 (by omega)
   have h2 : decide ((i : Int) < xs.length) = true := by simp; omega
   have h3 : (atI xs i == atI ys i) = false := by simpa using hp
   (refine fork_in ?_; repeat' (refine fork_eq ?_ ?_<;>intro _<;>try simp (disch := first|assumption|omega) only [S0,rA,rQ,rB,rT,rE,S_row, *]))
  ·have h2 : decide ((xs.length : Int) < xs.length) = false := by simp
   (refine fork_in ?_; repeat' (refine fork_eq ?_ ?_<;>intro _<;>try simp (disch := first|assumption|omega) only [S0,rA,rQ,rB,rT,rE, *]))
 ·have hl' : ((xs.length : Int) == (ys.length : Int)) = false := by simp; omega
  have e := eq_len (fun h => hl h.symm)
  (refine fork_in ?_; repeat' (refine fork_eq ?_ ?_<;>intro _<;>try simp (disch := first|assumption|omega) only [S0,rA,rQ,rB,rT,rE, *]))
theorem slices_Equal_int (xs ys : List Int) (hx : xs.length <= 1099511627776) : Fun T 52 [rL xs, rL ys] = some [.bool (decide (xs = ys))] := by
 rw [Fun_k (t := tm52) rfl]; unfold tm52
 by_cases hl : ys.length = xs.length
 ·simp (disch := first|assumption|omega) only [S0,rA,rQ,rB,rT,rE, *]
  rw [scanX 1 xs.length (fun i => decide (atI xs i = atI ys i)) [.bool false], allB_eq hl.symm]
  ·(refine fork_in ?_; repeat' (refine fork_eq ?_ ?_<;>intro _<;>try simp (disch := first|assumption|omega) only [S0,rA,rQ,rB,rT,rE, *]))
  ·intro i hi hp
   have hb : InB xs (i : Int) := InB_nat.2 hi
   have hb' : InB ys (i : Int) := InB_nat.2 (by omega)
   have h2 : decide ((i : Int) < xs.length) = true := by simp; omega
   have h3 : (atI xs i == atI ys i) = true := by simpa using hp
   (refine fork_in ?_; repeat' (refine fork_eq ?_ ?_<;>intro _<;>try simp (disch := first|assumption|omega) only [S0,rA,rQ,rB,rT,rE,S_row, *]))
  ·intro i hi hp
   have hb : InB xs (i : Int) := InB_nat.2 hi
   have hb' : InB ys (i : Int) := InB_nat.2 (by omega)
   have h2 : decide ((i : Int) < xs.length) = true := by simp; omega
   have h3 : (atI xs i == atI ys i) = false := by simpa using hp
   (refine fork_in ?_; repeat' (refine fork_eq ?_ ?_<;>intro _<;>try simp (disch := first|assumption|omega) only [S0,rA,rQ,rB,rT,rE,S_row, *]))
  ·have h2 : decide ((xs.length : Int) < xs.length) = false := by simp
   (refine fork_in ?_; repeat' (refine fork_eq ?_ ?_<;>intro _<;>try simp (disch := first|assumption|omega) only [S0,rA,rQ,rB,rT,rE, *]))
 ·have hl' : ((xs.length : Int) == (ys.length : Int)) = false := by simp; omega
  have e := eq_len (fun h => hl h.symm)
  (refine fork_in ?_; repeat' (refine fork_eq ?_ ?_<;>intro _<;>try simp (disch := first|assumption|omega) only [S0,rA,rQ,rB,rT,rE, *]))
theorem spec_SameAttr (s s' : Int) (xs ys : List Int) (hx : xs.length <= 1099511627776) : Fun T 20 [i64 s, rL xs, i64 s', rL ys] = some [.bool (decide ((⟨s, xs⟩ : TAttr) = ⟨s', ys⟩))] := by
 rw [Fun_k (t := tm20) rfl]; unfold tm20
 have e : decide ((⟨s, xs⟩ : TAttr) = ⟨s', ys⟩) = (s == s' && decide (xs = ys)) := by simp [TAttr.mk.injEq, Bool.beq_eq_decide_eq]
 (refine fork_in ?_; repeat' (refine fork_eq ?_ ?_<;>intro _<;>try simp (disch := first|assumption|omega) only [S0,rA,rQ,rB,rT,rE,spec_l1Same,e, *]))
theorem impl_SameAttr (s s' : Int) (xs ys : List Int) (hx : xs.length <= 1099511627776) : Fun T 51 [i64 s, rL xs, i64 s', rL ys] = some [.bool (decide ((⟨s, xs⟩ : TAttr) = ⟨s', ys⟩))] := by
 rw [Fun_k (t := tm51) rfl]; unfold tm51
 have e : decide ((⟨s, xs⟩ : TAttr) = ⟨s', ys⟩) = (s == s' && decide (xs = ys)) := by simp [TAttr.mk.injEq, Bool.beq_eq_decide_eq]
 (refine fork_in ?_; repeat' (refine fork_eq ?_ ?_<;>intro _<;>try simp (disch := first|assumption|omega) only [S0,rA,rQ,rB,rT,rE,slices_Equal_int,e, *]))
theorem spec_l3None (n : Int) (hg : isGrp n = true) : Fun T 19 [i64 n] = some [i64 (none0 n).seq, rL (none0 n).deps] := by
 rw [Fun_k (t := tm19) rfl]; unfold tm19; unfold none0
 have hn := isGrp_rng hg
 (refine fork_in ?_; repeat' (refine fork_eq ?_ ?_<;>intro _<;>try simp (disch := first|assumption|omega) only [S0,rA,rQ,rB,rT,rE,S_make, *]))
theorem impl_noneAttr (n : Int) (hg : isGrp n = true) : Fun T 50 [i64 n] = some [i64 (none0 n).seq, rL (none0 n).deps] := by
 rw [Fun_k (t := tm50) rfl]; unfold tm50; unfold none0
 have hn := isGrp_rng hg
 (refine fork_in ?_; repeat' (refine fork_eq ?_ ?_<;>intro _<;>try simp (disch := first|assumption|omega) only [S0,rA,rQ,rB,rT,rE,S_make, *]))
theorem spec_l4Row (n bal vot sta k i f t a sq : Int) (xs : List Int) (hg : isGrp n = true) (hx : xs.length <= 1099511627776) :
  Fun T 17 [i64 n, i64 bal, i64 vot, i64 sta, i64 k, i64 i, i64 f, i64 t, i64 a, i64 sq, rL xs] = some [.bool (rowOk n ⟨bal, vot, sta, ⟨k, i, f, t, a⟩, ⟨sq, xs⟩⟩)] := by
 rw [Fun_k (t := tm17) rfl]; unfold tm17; unfold rowOk
 (refine fork_in ?_; repeat' (refine fork_eq ?_ ?_<;>intro _<;>try simp (disch := first|assumption|omega) only [S0,rA,rQ,rB,rT,rE,spec_l1In,S_eqs,spec_l3None,spec_SameAttr,spec_GoodCmd,spec_l3Attr, *]))
theorem impl_goodRow (n bal vot sta k i f t a sq : Int) (xs : List Int) (hg : isGrp n = true) (hx : xs.length <= 1099511627776) :
  Fun T 42 [i64 n, i64 bal, i64 vot, i64 sta, i64 k, i64 i, i64 f, i64 t, i64 a, i64 sq, rL xs] = some [.bool (rowOk n ⟨bal, vot, sta, ⟨k, i, f, t, a⟩, ⟨sq, xs⟩⟩)] := by
 rw [Fun_k (t := tm42) rfl]; unfold tm42; unfold rowOk
 have h1 := @cmdZ_ok ⟨k, i, f, t, a⟩
 have h2 := none0_ok hg
 have h3 : decide ((⟨sq, xs⟩ : TAttr) = none0 n) = true -> attrOk n ⟨sq, xs⟩ = true := fun h => by rw [of_decide_eq_true h]; exact h2
 (refine fork_in ?_; repeat' (refine fork_eq ?_ ?_<;>intro _<;>try simp (disch := first|assumption|omega) only [S0,rA,rQ,rB,rT,rE,impl_within,S_eqs,impl_noneAttr,impl_SameAttr,impl_GoodCmd,impl_GoodAttr, *]))
 all_goals (refine bool_fin ?_; simp only [Bool.and_eq_true, Bool.or_eq_true, Bool.not_eq_true', Bool.not_eq_false', Bool.and_eq_false_iff, Bool.or_eq_false_iff, Bool.false_eq_true, beq_iff_eq, beq_eq_false_iff_ne, decide_eq_true_eq, decide_eq_false_iff_not, ne_eq] at *; grind)
theorem spec_GoodTable (n : Int) (rows : List (List TRow)) (hs : smTab rows) : Fun T 15 [i64 n, rL rows] = some [.bool (tabOk ⟨n, rows⟩)] := by
 rw [Fun_k (t := tm15) rfl]; unfold tm15; unfold tabOk
 obtain ⟨hs1, hs2⟩ := hs
 cases hg : isGrp n
 ·(refine fork_in ?_; repeat' (refine fork_eq ?_ ?_<;>intro _<;>try simp (disch := first|assumption|omega) only [S0,rA,rQ,rB,rT,rE,spec_IsGroup, *]))
 cases hl : (rows.length : Int) == n
 ·(refine fork_in ?_; repeat' (refine fork_eq ?_ ?_<;>intro _<;>try simp (disch := first|assumption|omega) only [S0,rA,rQ,rB,rT,rE,spec_IsGroup, *]))
 simp (disch := first|assumption|omega) only [S0,rA,rQ,rB,rT,rE, spec_IsGroup, *]
 rw [allF 1 rows (fun l => l.all (fun r => rowOk n r) && decide ((l.length : Int) <= 6)) [.bool false]]
 ·(refine fork_in ?_; repeat' (refine fork_eq ?_ ?_<;>intro _<;>try simp (disch := first|assumption|omega) only [S0,rA,rQ,rB,rT,rE, *]))
 ·intro i hi hb hlt hm
  obtain ⟨hq1, hq2⟩ := hs2 _ hm
  simp (disch := first|assumption|omega) only [S0,rA,rQ,rB,rT,rE, S_row, *]
  rw [allF 3 (atI rows i) (fun r => rowOk n r) [.bool false]]
  ·have e : decide (6 < ((atI rows (i : Int)).length : Int)) = !decide (((atI rows (i : Int)).length : Int) <= 6) := by
    by_cases h : ((atI rows (i : Int)).length : Int) <= 6
    ·simp [h]
    ·simp [h]; omega
   (refine fork_in ?_; repeat' (refine fork_eq ?_ ?_<;>intro _<;>try simp (disch := first|assumption|omega) only [S0,rA,rQ,rB,rT,rE,e, *]))
  ·intro j hj hb2 hlt2 hm2
   have hq3 := hq2 _ hm2
   have hq4 : (atI (atI rows (i : Int)) (j : Int)).attr.deps.length <= 1099511627776 := by omega
   (refine fork_in ?_; repeat' (refine fork_eq ?_ ?_<;>intro _<;>try simp (disch := first|assumption|omega) only [S0,rA,rQ,rB,rT,rE,S_row,spec_l4Row, *]))
  ·intro hl2
   (refine fork_in ?_; repeat' (refine fork_eq ?_ ?_<;>intro _<;>try simp (disch := first|assumption|omega) only [S0,rA,rQ,rB,rT,rE, *]))
 ·intro hl2
  (refine fork_in ?_; repeat' (refine fork_eq ?_ ?_<;>intro _<;>try simp (disch := first|assumption|omega) only [S0,rA,rQ,rB,rT,rE, *]))
theorem impl_GoodTable_1_1 (r_ballot r_vote r_state r_cmd_kind r_cmd_id r_cmd_src r_cmd_dst r_cmd_amt r_attr_seq : Int) (r_attr_deps : (List Int)) (n : Int) (rows : List (List TRow)) (hg : isGrp n = true) (hx : r_attr_deps.length <= 1099511627776) : Fun T 41 [i64 r_ballot, i64 r_vote, i64 r_state, i64 r_cmd_kind, i64 r_cmd_id, i64 r_cmd_src, i64 r_cmd_dst, i64 r_cmd_amt, i64 r_attr_seq, rL r_attr_deps, i64 n, rL rows] = some [.bool (!rowOk n ⟨r_ballot, r_vote, r_state, ⟨r_cmd_kind, r_cmd_id, r_cmd_src, r_cmd_dst, r_cmd_amt⟩, ⟨r_attr_seq, r_attr_deps⟩⟩)] := by
 rw [Fun_k (t := tm41) rfl]; unfold tm41
 (refine fork_in ?_; repeat' (refine fork_eq ?_ ?_<;>intro _<;>try simp (disch := first|assumption|omega) only [S0,rA,rQ,rB,rT,rE,impl_goodRow, *]))
theorem ix_GoodTable_1_1 (n : Int) (rows : List (List TRow)) (hg : isGrp n = true) (xs : List TRow) (hx : xs.length <= 1099511627776) (hq : ∀ x ∈ xs, x.attr.deps.length <= 1099511627776) : Fun T 40 [rL xs, i64 n, rL rows] = some [i64 (ixF (fun r => !rowOk n r) xs)] := by
 rw [Fun_k (t := tm40) rfl]; unfold tm40
 simp (disch := first|assumption|omega) only [S0,rA,rQ,rB,rT,rE, S_row, *]
 rw [findX 1 xs (fun r => !rowOk n r) (fun i => [i64 i])]
 ·cases h : xs.any (fun r => !rowOk n r)
  ·have e : ixF (fun r => !rowOk n r) xs = -1 := by
    have h2 := ixF_any (fun r => !rowOk n r) xs
    rw [h] at h2
    unfold ixF at h2 ⊢
    split at h2 <;> simp_all
   rw [e]; simp (disch := first|assumption|omega) only [S0,rA,rQ,rB,rT,rE]
  ·simp (disch := first|assumption|omega) only [S0,rA,rQ,rB,rT,rE]
 ·intro i hi hb hl hp
  have hq' := hq _ (at_mem hi)
  try simp only at hq' hp
  (refine fork_in ?_; repeat' (refine fork_eq ?_ ?_<;>intro _<;>try simp (disch := first|assumption|omega) only [S0,rA,rQ,rB,rT,rE,S_row,impl_GoodTable_1_1, *]))
 ·intro i hi hb hl hp
  have hq' := hq _ (at_mem hi)
  try simp only at hq' hp
  (refine fork_in ?_; repeat' (refine fork_eq ?_ ?_<;>intro _<;>try simp (disch := first|assumption|omega) only [S0,rA,rQ,rB,rT,rE,S_row,impl_GoodTable_1_1, *]))
 ·intro hl
  (refine fork_in ?_; repeat' (refine fork_eq ?_ ?_<;>intro _<;>try simp (disch := first|assumption|omega) only [S0,rA,rQ,rB,rT,rE, *]))
theorem ct_GoodTable_1_1 (n : Int) (rows : List (List TRow)) (hg : isGrp n = true) (xs : List TRow) (hx : xs.length <= 1099511627776) (hq : ∀ x ∈ xs, x.attr.deps.length <= 1099511627776) : Fun T 39 [rL xs, i64 n, rL rows] = some [.bool (xs.any (fun r => !rowOk n r))] := by
 rw [Fun_k (t := tm39) rfl]; unfold tm39
 (refine fork_in ?_; repeat' (refine fork_eq ?_ ?_<;>intro _<;>try simp (disch := first|assumption|omega) only [S0,rA,rQ,rB,rT,rE,ix_GoodTable_1_1,ixF_any, *]))
theorem impl_GoodTable_1 (l : List TRow) (n : Int) (rows : List (List TRow)) (hg : isGrp n = true) (hx : l.length <= 1099511627776) (hq : ∀ x ∈ l, x.attr.deps.length <= 1099511627776) : Fun T 38 [rL l, i64 n, rL rows] = some [.bool (decide (6 < (l.length : Int)) || l.any fun r => !rowOk n r)] := by
 rw [Fun_k (t := tm38) rfl]; unfold tm38
 (refine fork_in ?_; repeat' (refine fork_eq ?_ ?_<;>intro _<;>try simp (disch := first|assumption|omega) only [S0,rA,rQ,rB,rT,rE,ct_GoodTable_1_1, *]))
theorem ix_GoodTable_1 (n : Int) (rows : List (List TRow)) (hg : isGrp n = true) (xs : List (List TRow)) (hx : xs.length <= 1099511627776) (hq : ∀ x ∈ xs, x.length <= 1099511627776 /\ ∀ y ∈ x, y.attr.deps.length <= 1099511627776) : Fun T 37 [rL xs, i64 n, rL rows] = some [i64 (ixF (fun l => decide (6 < (l.length : Int)) || l.any fun r => !rowOk n r) xs)] := by
 rw [Fun_k (t := tm37) rfl]; unfold tm37
 simp (disch := first|assumption|omega) only [S0,rA,rQ,rB,rT,rE, S_row, *]
 rw [findX 1 xs (fun l => decide (6 < (l.length : Int)) || l.any fun r => !rowOk n r) (fun i => [i64 i])]
 ·cases h : xs.any (fun l => decide (6 < (l.length : Int)) || l.any fun r => !rowOk n r)
  ·have e : ixF (fun l => decide (6 < (l.length : Int)) || l.any fun r => !rowOk n r) xs = -1 := by
    have h2 := ixF_any (fun l => decide (6 < (l.length : Int)) || l.any fun r => !rowOk n r) xs
    rw [h] at h2
    unfold ixF at h2 ⊢
    split at h2 <;> simp_all
   rw [e]; simp (disch := first|assumption|omega) only [S0,rA,rQ,rB,rT,rE]
  ·simp (disch := first|assumption|omega) only [S0,rA,rQ,rB,rT,rE]
 ·intro i hi hb hl hp
  have hq' := hq _ (at_mem hi)
  try simp only at hq' hp
  obtain ⟨hq1, hq2⟩ := hq'
  (refine fork_in ?_; repeat' (refine fork_eq ?_ ?_<;>intro _<;>try simp (disch := first|assumption|omega) only [S0,rA,rQ,rB,rT,rE,S_row,impl_GoodTable_1, *]))
 ·intro i hi hb hl hp
  have hq' := hq _ (at_mem hi)
  try simp only at hq' hp
  obtain ⟨hq1, hq2⟩ := hq'
  (refine fork_in ?_; repeat' (refine fork_eq ?_ ?_<;>intro _<;>try simp (disch := first|assumption|omega) only [S0,rA,rQ,rB,rT,rE,S_row,impl_GoodTable_1, *]))
 ·intro hl
  (refine fork_in ?_; repeat' (refine fork_eq ?_ ?_<;>intro _<;>try simp (disch := first|assumption|omega) only [S0,rA,rQ,rB,rT,rE, *]))
theorem ct_GoodTable_1 (n : Int) (rows : List (List TRow)) (hg : isGrp n = true) (xs : List (List TRow)) (hx : xs.length <= 1099511627776) (hq : ∀ x ∈ xs, x.length <= 1099511627776 /\ ∀ y ∈ x, y.attr.deps.length <= 1099511627776) : Fun T 36 [rL xs, i64 n, rL rows] = some [.bool (xs.any (fun l => decide (6 < (l.length : Int)) || l.any fun r => !rowOk n r))] := by
 rw [Fun_k (t := tm36) rfl]; unfold tm36
 (refine fork_in ?_; repeat' (refine fork_eq ?_ ?_<;>intro _<;>try simp (disch := first|assumption|omega) only [S0,rA,rQ,rB,rT,rE,ix_GoodTable_1,ixF_any, *]))
theorem impl_GoodTable (n : Int) (rows : List (List TRow)) (hs : smTab rows) : Fun T 34 [i64 n, rL rows] = some [.bool (tabOk ⟨n, rows⟩)] := by
 rw [Fun_k (t := tm34) rfl]; unfold tm34; unfold tabOk
 obtain ⟨hs1, hs2⟩ := hs
 have hs3 : ∀ x ∈ rows, x.length <= 1099511627776 /\ ∀ y ∈ x, y.attr.deps.length <= 1099511627776 := fun x hx => ⟨by have := (hs2 x hx).1; omega, fun y hy => by have := (hs2 x hx).2 y hy; omega⟩
 have e : (rows.any fun l => decide (6 < (l.length : Int)) || l.any fun r => !rowOk n r) = !rows.all fun l => l.all (fun r => rowOk n r) && decide ((l.length : Int) <= 6) := by
  rw [List.not_all_eq_any_not]
  congr 1
  funext l
  rw [<- List.not_all_eq_any_not, Bool.not_and, Bool.or_comm]
  congr 1
  by_cases h : (l.length : Int) <= 6
  ·simp [h]
  ·simp [h]; omega
 (refine fork_in ?_; repeat' (refine fork_eq ?_ ?_<;>intro _<;>try simp (disch := first|assumption|omega) only [S0,rA,rQ,rB,rT,rE,impl_IsGroup,ct_GoodTable_1,e,Bool.not_not, *]))
theorem spec_l1Num : ∀ n : Nat, n <= 1000000 -> Fun T 28 [i64 n] = some [.str (numD n)] := by
 intro n
 induction n using Nat.strongRecOn with
 | _ n ih =>
  intro hn
  have hdig : ∀ k : Nat, k < 10 -> (Prim.conv .u8).run [i64 (48 + (k : Int))] = some [.int .u8 (48 + (k : Int))] /\ Prim.bstr.run [.rows 1 [[.int .u8 (48 + (k : Int))]]] = some [.str [UInt8.ofNat (48 + k)]] := by
   intro k hk
   constructor
   ·show some [D.int .u8 (IntKind.u8.wrap (48 + (k : Int)))] = _
    have : IntKind.u8.wrap (48 + (k : Int)) = 48 + (k : Int) := by simp [IntKind.wrap, IntKind.bits, IntKind.signed]; omega
    rw [this]
   ·show some [D.str [UInt8.ofNat (48 + (k : Int)).toNat]] = _
    rw [show (48 + (k : Int)).toNat = 48 + k by omega]
  have hmk : ∀ x : Int, (Prim.mk 1 1).run [.int .u8 x] = some [.rows 1 [[.int .u8 x]]] := fun _ => rfl
  rw [Fun_k (t := tm28) rfl]; unfold tm28
  by_cases h : n < 10
  ·have d : decide ((n : Int) < 10) = true := by simp; omega
   obtain ⟨e1, e2⟩ := hdig n h
   rw [numD_lt h]
   simp (disch := first|assumption|omega) only [S0,rA,rQ,rB,rT,rE, d, e1, hmk, e2]
  ·have d : decide ((n : Int) < 10) = false := by simp; omega
   have eq : (Prim.bin .quo).run [i64 n, i64 10] = some [i64 ((n / 10 : Nat) : Int)] := by
    show (if (10 : Int) = 0 then none else some (D.int .i64 (IntKind.i64.wrap ((n : Int).tdiv 10)))).map (fun d => [d]) = _
    rw [if_neg (by decide)]
    have : (n : Int).tdiv 10 = ((n / 10 : Nat) : Int) := by rw [Int.tdiv_eq_ediv_of_nonneg (by omega)]; omega
    rw [this, wrap_i64 (by omega) (by omega)]
    rfl
   have em : (Prim.bin .rem).run [i64 n, i64 10] = some [i64 ((n % 10 : Nat) : Int)] := by
    show (if (10 : Int) = 0 then none else some (D.int .i64 ((n : Int).tmod 10))).map (fun d => [d]) = _
    rw [if_neg (by decide)]
    have : (n : Int).tmod 10 = ((n % 10 : Nat) : Int) := by rw [Int.tmod_eq_emod_of_nonneg (by omega)]; omega
    rw [this]
    rfl
   have ei := ih (n / 10) (by omega) (by omega)
   obtain ⟨e1, e2⟩ := hdig (n % 10) (by omega)
   have hl := numD_len (n / 10)
   have ea := t_add (a := numD (n / 10)) (b := [UInt8.ofNat (48 + n % 10)]) (by simp only [List.length_cons, List.length_nil]; omega)
   rw [numD_ge (by omega)]
   simp (disch := first|assumption|omega) only [S0,rA,rQ,rB,rT,rE, d, eq, em, ei, e1, hmk, e2, ea]
theorem spec_l1NumT (n : Int) (h0 : 0 <= n) (h1 : n <= 9999) : Fun T 28 [i64 n] = some [.str (numT n)] := by
 have := spec_l1Num n.toNat (by omega)
 rw [show ((n.toNat : Nat) : Int) = n by omega] at this
 exact this
theorem spec_l2Text (k i f t a : Int) (h : cmdOk ⟨k, i, f, t, a⟩ = true) : Fun T 29 [i64 k, i64 i, i64 f, i64 t, i64 a] = some [.str (cmdT ⟨k, i, f, t, a⟩)] := by
 rw [Fun_k (t := tm29) rfl]; unfold tm29
 have hr := cmdOk_rng h
 simp only at hr
 obtain ⟨⟨i0, i1⟩, ⟨f0, f1⟩, ⟨t0, t1⟩, a0, a1⟩ := hr
 have li := numT_len i1
 have lf := numT_len f1
 have lt := numT_len t1
 have la := numT_len a1
 have ni := spec_l1NumT i i0 i1
 have nf := spec_l1NumT f f0 f1
 have nt := spec_l1NumT t t0 t1
 have na := spec_l1NumT a a0 a1
 have hk := cmdOk_kind h
 simp only at hk
 unfold cmdT
 rcases hk with rfl | rfl | rfl
 ·simp (disch := first|assumption|omega) only [S0,rA,rQ,rB,rT,rE]
 ·have g1 := t_add (a := [109, 111, 118, 101, 32]) (b := numT i) (by simp only [List.length_cons, List.length_nil]; omega)
  have g2 := t_add (a := [109, 111, 118, 101, 32] ++ numT i) (b := [32]) (by simp only [List.length_append, List.length_cons, List.length_nil]; omega)
  have g3 := t_add (a := [109, 111, 118, 101, 32] ++ numT i ++ [32]) (b := numT f) (by simp only [List.length_append, List.length_cons, List.length_nil]; omega)
  have g4 := t_add (a := [109, 111, 118, 101, 32] ++ numT i ++ [32] ++ numT f) (b := [32]) (by simp only [List.length_append, List.length_cons, List.length_nil]; omega)
  have g5 := t_add (a := [109, 111, 118, 101, 32] ++ numT i ++ [32] ++ numT f ++ [32]) (b := numT t) (by simp only [List.length_append, List.length_cons, List.length_nil]; omega)
  have g6 := t_add (a := [109, 111, 118, 101, 32] ++ numT i ++ [32] ++ numT f ++ [32] ++ numT t) (b := [32]) (by simp only [List.length_append, List.length_cons, List.length_nil]; omega)
  have g7 := t_add (a := [109, 111, 118, 101, 32] ++ numT i ++ [32] ++ numT f ++ [32] ++ numT t ++ [32]) (b := numT a) (by simp only [List.length_append, List.length_cons, List.length_nil]; omega)
  simp (disch := first|assumption|omega) only [S0,rA,rQ,rB,rT,rE, ni, nf, nt, na, g1, g2, g3, g4, g5, g6, g7]
 ·have g1 := t_add (a := [114, 101, 97, 100, 32]) (b := numT i) (by simp only [List.length_cons, List.length_nil]; omega)
  have g2 := t_add (a := [114, 101, 97, 100, 32] ++ numT i) (b := [32]) (by simp only [List.length_append, List.length_cons, List.length_nil]; omega)
  have g3 := t_add (a := [114, 101, 97, 100, 32] ++ numT i ++ [32]) (b := numT f) (by simp only [List.length_append, List.length_cons, List.length_nil]; omega)
  simp (disch := first|assumption|omega) only [S0,rA,rQ,rB,rT,rE, ni, nf, g1, g2, g3]
theorem spec_l3List (xs : List Int) (hr : ∀ x ∈ xs, 0 <= x /\ x <= 9999) (hx : xs.length <= 1000) : Fun T 31 [rL xs] = some [.str (joinB 44 (xs.map numT))] := by
 rw [Fun_k (t := tm31) rfl]; unfold tm31
 simp (disch := first|assumption|omega) only [S0,rA,rQ,rB,rT,rE]
 have hj : ∀ i : Nat, i <= xs.length -> (joinB 44 ((xs.take i).map numT)).length <= 10010000 := by
  intro i hi
  have := joinB_len (b := 44) (ws := (xs.take i).map numT) (by
   intro w hw
   obtain ⟨x, h1, rfl⟩ := List.mem_map.1 hw
   exact numT_len (hr x (List.mem_of_mem_take h1)).2)
  rw [List.length_map, List.length_take] at this
  omega
 rw [whileE (.yield 1, [.str (joinB 44 (xs.map numT))]) (fun i : Nat => xs.length - i) (fun i : Nat => i <= xs.length) (fun i => [.str (joinB 44 ((xs.take i).map numT)), i64 i]) 0 rfl (by simp) (by simp)]
 rotate_left
 ·intro i hi
  by_cases hlt : i < xs.length
  ·have d : decide ((i : Int) < (xs.length : Int)) = true := by simpa using hlt
   have hb : InB xs (i : Int) := InB_nat.2 hlt
   have hm := hr _ (at_mem hlt)
   have e := spec_l1NumT (atI xs (i : Int)) hm.1 hm.2
   have l1 := numT_len hm.2
   have l2 := hj i hi
   refine .inl ⟨i + 1, ?_, by omega, by omega⟩
   by_cases h0 : 0 < i
   ·have d0 : decide ((0 : Int) < (i : Int)) = true := by simpa using h0
    have g1 := t_add (a := joinB 44 ((xs.take i).map numT)) (b := [44]) (by simp only [List.length_cons, List.length_nil]; omega)
    have g2 := t_add (a := joinB 44 ((xs.take i).map numT) ++ [44]) (b := numT (atI xs (i : Int))) (by simp only [List.length_append, List.length_cons, List.length_nil]; omega)
    have e3 : joinB 44 ((xs.take i).map numT) ++ [44] ++ numT (atI xs (i : Int)) = joinB 44 ((xs.take (i + 1)).map numT) := by
     rw [<- take_at hlt, List.map_append]
     refine (joinB_snoc ?_).symm
     intro hn
     have := congrArg List.length hn
     simp only [List.length_map, List.length_take, List.length_nil] at this
     omega
    simp (disch := first|assumption|omega) only [S0,rA,rQ,rB,rT,rE, d, S_row, e, d0, g1, g2, e3]
   ·obtain rfl : i = 0 := by omega
    have d0 : decide ((0 : Int) < ((0 : Nat) : Int)) = false := rfl
    have g2 := t_add (a := joinB 44 ((xs.take 0).map numT)) (b := numT (atI xs ((0 : Nat) : Int))) (by omega)
    have e3 : joinB 44 ((xs.take 0).map numT) ++ numT (atI xs ((0 : Nat) : Int)) = joinB 44 ((xs.take (0 + 1)).map numT) := by
     rw [<- take_at hlt]
     simp [joinB]
    simp (disch := first|assumption|omega) only [S0,rA,rQ,rB,rT,rE, d, S_row, e, d0, g2, e3]
  ·have d : decide ((i : Int) < (xs.length : Int)) = false := by simpa using hlt
   obtain rfl : i = xs.length := by omega
   right
   rw [List.take_of_length_le (Nat.le_refl _)]
   simp (disch := first|assumption|omega) only [S0,rA,rQ,rB,rT,rE, d]
 ·simp (disch := first|assumption|omega) only [S0,rA,rQ,rB,rT,rE]
theorem spec_l3Text (sq : Int) (xs : List Int) (h0 : 0 <= sq) (h1 : sq <= 9999) (hr : ∀ x ∈ xs, 0 <= x /\ x <= 9999) (hx : xs.length <= 1000) : Fun T 30 [i64 sq, rL xs] = some [.str (attrT ⟨sq, xs⟩)] /\ (attrT ⟨sq, xs⟩).length <= 20000000 := by
 have l1 := numT_len h1
 have l2 : (joinB 44 (xs.map numT)).length <= 10001 * xs.length := by
  have := joinB_len (b := 44) (ws := xs.map numT) (by
   intro w hw
   obtain ⟨x, h1, rfl⟩ := List.mem_map.1 hw
   exact numT_len (hr x h1).2)
  rwa [List.length_map] at this
 refine ⟨?_, by simp only [attrT, List.length_append, List.length_cons]; omega⟩
 rw [Fun_k (t := tm30) rfl]; unfold tm30
 have e := spec_l1NumT sq h0 h1
 have e2 := spec_l3List xs hr hx
 have g1 := t_add (a := numT sq) (b := [58]) (by simp only [List.length_cons, List.length_nil]; omega)
 have g2 := t_add (a := numT sq ++ [58]) (b := joinB 44 (xs.map numT)) (by simp only [List.length_append, List.length_cons, List.length_nil]; omega)
 have e3 : numT sq ++ [58] ++ joinB 44 (xs.map numT) = attrT ⟨sq, xs⟩ := by simp [attrT]
 simp (disch := first|assumption|omega) only [S0,rA,rQ,rB,rT,rE, e, g1, e2, g2, e3]
theorem spec_l14Row (rep no bal vot sta k i f t a sq : Int) (xs : List Int) (h0 : 0 <= rep /\ rep <= 9999) (hn : ∀ x ∈ [no, bal, vot, sta], 0 <= x /\ x <= 9999) (hc : cmdOk ⟨k, i, f, t, a⟩ = true) (h1 : 0 <= sq /\ sq <= 9999) (hr : ∀ x ∈ xs, 0 <= x /\ x <= 9999) (hx : xs.length <= 1000) :
  Fun T 27 [i64 rep, i64 no, i64 bal, i64 vot, i64 sta, i64 k, i64 i, i64 f, i64 t, i64 a, i64 sq, rL xs] = some [.str (rowT rep no ⟨bal, vot, sta, ⟨k, i, f, t, a⟩, ⟨sq, xs⟩⟩)] := by
 rw [Fun_k (t := tm27) rfl]; unfold tm27
 have e0 := spec_l1NumT rep h0.1 h0.2
 have ec := spec_l2Text k i f t a hc
 obtain ⟨ea, la⟩ := spec_l3Text sq xs h1.1 h1.2 hr hx
 have lc : (cmdT ⟨k, i, f, t, a⟩).length <= 100000 := by
  have hr := cmdOk_rng hc
  simp only at hr
  obtain ⟨⟨i0, i1⟩, ⟨f0, f1⟩, ⟨t0, t1⟩, a0, a1⟩ := hr
  have li := numT_len i1
  have lf := numT_len f1
  have lt := numT_len t1
  have la := numT_len a1
  unfold cmdT
  split
  ·simp only [List.length_append, List.length_cons, List.length_nil]; omega
  ·split
   ·simp only [List.length_append, List.length_cons, List.length_nil]; omega
   ·simp
 have hL : [no, bal, vot, sta].length = 4 := rfl
 have hfin : numT rep ++ [no, bal, vot, sta].flatMap (fun x => 32 :: numT x) ++ [124] ++ cmdT ⟨k, i, f, t, a⟩ ++ [124] ++ attrT ⟨sq, xs⟩ = rowT rep no ⟨bal, vot, sta, ⟨k, i, f, t, a⟩, ⟨sq, xs⟩⟩ := by
  simp [rowT]
 have l0 := numT_len h0.2
 have emk : (Prim.mk 1 4).run [i64 no, i64 bal, i64 vot, i64 sta] = some [rL [no, bal, vot, sta]] := S_mk.2.2.2.1
 generalize [no, bal, vot, sta] = L at *
 simp (disch := first|assumption|omega) only [S0,rA,rQ,rB,rT,rE, e0, emk]
 have hj : ∀ j : Nat, j <= L.length -> (numT rep ++ (L.take j).flatMap (fun x => 32 :: numT x)).length <= 10000 + 10001 * 4 := by
  intro j hj
  have := flat_len (xs := L.take j) (fun x hx => hn x (List.mem_of_mem_take hx))
  rw [List.length_take] at this
  rw [List.length_append]
  omega
 rw [whileE (.yield 1, [.str (numT rep ++ L.flatMap (fun x => 32 :: numT x))]) (fun j : Nat => L.length - j) (fun j : Nat => j <= L.length) (fun j => [.str (numT rep ++ (L.take j).flatMap (fun x => 32 :: numT x)), i64 j]) 0 (by simp [Atom.val]) (by simp) (by simp)]
 rotate_left
 ·intro j hjl
  by_cases hlt : j < L.length
  ·have d : decide ((j : Int) < (L.length : Int)) = true := by simpa using hlt
   have hb : InB L (j : Int) := InB_nat.2 hlt
   have hm := hn _ (at_mem hlt)
   have e := spec_l1NumT (atI L (j : Int)) hm.1 hm.2
   have l1 := numT_len hm.2
   have l2 := hj j hjl
   have e9 : ([32] ++ numT (atI L (j : Int))).length = (numT (atI L (j : Int))).length + 1 := by simp
   have g1 := t_add (a := [32]) (b := numT (atI L (j : Int))) (by simp only [List.length_cons, List.length_nil]; omega)
   have g2 := t_add (a := numT rep ++ (L.take j).flatMap (fun x => 32 :: numT x)) (b := [32] ++ numT (atI L (j : Int))) (by omega)
   have e3 : numT rep ++ (L.take j).flatMap (fun x => 32 :: numT x) ++ ([32] ++ numT (atI L (j : Int))) = numT rep ++ (L.take (j + 1)).flatMap (fun x => 32 :: numT x) := by
    rw [<- take_at hlt]
    simp
   refine .inl ⟨j + 1, ?_, by omega, by omega⟩
   simp (disch := first|assumption|omega) only [S0,rA,rQ,rB,rT,rE, d, S_row, e, g1, g2, e3]
  ·have d : decide ((j : Int) < (L.length : Int)) = false := by simpa using hlt
   obtain rfl : j = L.length := by omega
   right
   rw [List.take_of_length_le (Nat.le_refl _)]
   simp (disch := first|assumption|omega) only [S0,rA,rQ,rB,rT,rE, d]
 ·have lF := hj L.length (Nat.le_refl _)
  rw [List.take_of_length_le (Nat.le_refl _)] at lF
  generalize numT rep ++ L.flatMap (fun x => 32 :: numT x) = A at *
  have g1 := t_add (a := A) (b := [124]) (by simp only [List.length_cons, List.length_nil]; omega)
  have g2 := t_add (a := A ++ [124]) (b := cmdT ⟨k, i, f, t, a⟩) (by simp only [List.length_append, List.length_cons, List.length_nil]; omega)
  have g3 := t_add (a := A ++ [124] ++ cmdT ⟨k, i, f, t, a⟩) (b := [124]) (by simp only [List.length_append, List.length_cons, List.length_nil]; omega)
  have g4 := t_add (a := A ++ [124] ++ cmdT ⟨k, i, f, t, a⟩ ++ [124]) (b := attrT ⟨sq, xs⟩) (by simp only [List.length_append, List.length_cons, List.length_nil]; omega)
  simp (disch := first|assumption|omega) only [S0,rA,rQ,rB,rT,rE, g1, ec, g2, g3, ea, g4, hfin]
theorem impl_sumOf (s : List UInt8) (h : Int) (hs : s.length <= 1000) (h0 : 0 <= h) (h1 : h < 65521) : Fun T 71 [.str s, i64 h, i64 33] = some [i64 (sumB s h)] := by
 rw [Fun_k (t := tm71) rfl]; unfold tm71
 simp (disch := first|assumption|omega) only [S0,rA,rQ,rB,rT,rE, t_slen]
 rw [whileE (.yield 1, [i64 (sumB s h)]) (fun i : Nat => s.length - i) (fun i : Nat => i <= s.length) (fun i => [i64 (sumB (s.take i) h), i64 i]) 0 rfl (by simp) (by simp)]
 rotate_left
 ·intro i hi
  by_cases hlt : i < s.length
  ·have d : decide ((i : Int) < (s.length : Int)) = true := by simpa using hlt
   have es := t_sidx (s := s) (k := (i : Int)) (by omega) (by omega)
   have hc : (atI s (i : Int)).toNat < 256 := UInt8.toNat_lt _
   obtain ⟨v0, v1⟩ := sumB_rng (s.take i) h h0 h1
   have ec : (Prim.conv .i64).run [u8 (atI s (i : Int))] = some [i64 (((atI s (i : Int)).toNat : Nat) : Int)] := u8_conv (by omega) (by omega)
   have er : (Prim.bin .mul).run [i64 (sumB (s.take i) h), i64 33] = some [i64 (33 * sumB (s.take i) h)] := by rw [run_mulI (by omega) (by omega), Int.mul_comm]
   have em : (Prim.bin .rem).run [i64 (33 * sumB (s.take i) h + (((atI s (i : Int)).toNat : Nat) : Int)), i64 65521] = some [i64 (sumB (s.take (i + 1)) h)] := by
    show (if (65521 : Int) = 0 then none else some (D.int .i64 ((33 * sumB (s.take i) h + (((atI s (i : Int)).toNat : Nat) : Int)).tmod 65521))).map (fun d => [d]) = _
    rw [if_neg (by decide), Int.tmod_eq_emod_of_nonneg (by omega), <- take_at hlt, sumB_app]
    rfl
   refine .inl ⟨i + 1, ?_, by omega, by omega⟩
   simp (disch := first|assumption|omega) only [S0,rA,rQ,rB,rT,rE, t_slen, d, es, ec, er, em]
  ·have d : decide ((i : Int) < (s.length : Int)) = false := by simpa using hlt
   obtain rfl : i = s.length := by omega
   right
   rw [List.take_of_length_le (Nat.le_refl _)]
   simp (disch := first|assumption|omega) only [S0,rA,rQ,rB,rT,rE, t_slen, d]
 ·simp (disch := first|assumption|omega) only [S0,rA,rQ,rB,rT,rE]
theorem impl_twoBytes (x : Int) (n0 : 0 <= x) (n1 : x < 65521) : Fun T 72 [i64 x] = some [.str (tailF x)] := by
 rw [Fun_k (t := tm72) rfl]; unfold tm72
 have hcv : ∀ k : Int, 0 <= k -> k <= 255 -> (Prim.conv .u8).run [i64 k] = some [.int .u8 k] := by
  intro k h0 h1
  show some [D.int .u8 (IntKind.u8.wrap k)] = _
  have : IntKind.u8.wrap k = k := by simp [IntKind.wrap, IntKind.bits, IntKind.signed]; omega
  rw [this]
 have eq : (Prim.bin .quo).run [i64 x, i64 256] = some [i64 (x / 256)] := by
  show (if (256 : Int) = 0 then none else some (D.int .i64 (IntKind.i64.wrap (x.tdiv 256)))).map (fun d => [d]) = _
  rw [if_neg (by decide), Int.tdiv_eq_ediv_of_nonneg n0, wrap_i64 (by omega) (by omega)]
  rfl
 have em : (Prim.bin .rem).run [i64 x, i64 256] = some [i64 (x % 256)] := by
  show (if (256 : Int) = 0 then none else some (D.int .i64 (x.tmod 256))).map (fun d => [d]) = _
  rw [if_neg (by decide), Int.tmod_eq_emod_of_nonneg n0]
  rfl
 have c1 := hcv (x / 256) (by omega) (by omega)
 have c2 := hcv (x % 256) (by omega) (by omega)
 have ek : (Prim.mk 1 2).run [.int .u8 (x / 256), .int .u8 (x % 256)] = some [.rows 1 [[.int .u8 (x / 256)], [.int .u8 (x % 256)]]] := rfl
 have eb : Prim.bstr.run [.rows 1 [[.int .u8 (x / 256)], [.int .u8 (x % 256)]]] = some [.str (tailF x)] := rfl
 simp (disch := first|assumption|omega) only [S0,rA,rQ,rB,rT,rE, eq, em, c1, c2, ek, eb]
theorem impl_frame (w : List UInt8) (hw : w.length <= 200) : Fun T 70 [.str w] = some [.str (frameB w)] := by
 rw [Fun_k (t := tm70) rfl]; unfold tm70
 have hcv : ∀ k : Int, 0 <= k -> k <= 255 -> (Prim.conv .u8).run [i64 k] = some [.int .u8 k] := by
  intro k h0 h1
  show some [D.int .u8 (IntKind.u8.wrap k)] = _
  have : IntKind.u8.wrap k = k := by simp [IntKind.wrap, IntKind.bits, IntKind.signed]; omega
  rw [this]
 have c1 := hcv (w.length : Int) (by omega) (by omega)
 have ek : (Prim.mk 1 1).run [.int .u8 (w.length : Int)] = some [.rows 1 [[.int .u8 (w.length : Int)]]] := rfl
 have eb : Prim.bstr.run [.rows 1 [[.int .u8 (w.length : Int)]]] = some [.str [UInt8.ofNat w.length]] := by
  show some [D.str [UInt8.ofNat ((w.length : Int)).toNat]] = _
  rw [Int.toNat_natCast]
 have g1 := t_add (a := [UInt8.ofNat w.length]) (b := w) (by simp only [List.length_cons, List.length_nil]; omega)
 have hh : [UInt8.ofNat w.length] ++ w = headF w := rfl
 rw [hh] at g1
 have hl : (headF w).length = w.length + 1 := by simp [headF]
 have es := impl_sumOf (headF w) 7 (by omega) (by decide) (by decide)
 obtain ⟨n0, n1⟩ := sumB_rng (headF w) 7 (by decide) (by decide)
 have et := impl_twoBytes (sumB (headF w) 7) n0 n1
 have htl : (tailF (sumB (headF w) 7)).length = 2 := rfl
 have g2 := t_add (a := headF w) (b := tailF (sumB (headF w) 7)) (by omega)
 have g3 := t_add (a := headF w ++ tailF (sumB (headF w) 7)) (b := [1]) (by simp only [List.length_append, List.length_cons, List.length_nil]; omega)
 have hf : headF w ++ tailF (sumB (headF w) 7) ++ [1] = frameB w := rfl
 simp (disch := first|assumption|omega) only [S0,rA,rQ,rB,rT,rE, t_slen, c1, ek, eb, g1, es, et, g2, g3, hf]
theorem spec_l14Frame (w : List UInt8) (hw : w.length <= 200) : Fun T 32 [.str w] = some [.str (frameB w)] := by
 rw [Fun_k (t := tm32) rfl]; unfold tm32
 have hcv : ∀ k : Int, 0 <= k -> k <= 255 -> (Prim.conv .u8).run [i64 k] = some [.int .u8 k] := by
  intro k h0 h1
  show some [D.int .u8 (IntKind.u8.wrap k)] = _
  have : IntKind.u8.wrap k = k := by simp [IntKind.wrap, IntKind.bits, IntKind.signed]; omega
  rw [this]
 have c1 := hcv (w.length : Int) (by omega) (by omega)
 have ek : (Prim.mk 1 1).run [.int .u8 (w.length : Int)] = some [.rows 1 [[.int .u8 (w.length : Int)]]] := rfl
 have eb : Prim.bstr.run [.rows 1 [[.int .u8 (w.length : Int)]]] = some [.str [UInt8.ofNat w.length]] := by
  show some [D.str [UInt8.ofNat ((w.length : Int)).toNat]] = _
  rw [Int.toNat_natCast]
 have g1 := t_add (a := [UInt8.ofNat w.length]) (b := w) (by simp only [List.length_cons, List.length_nil]; omega)
 have hh : [UInt8.ofNat w.length] ++ w = headF w := rfl
 rw [hh] at g1
 have hl : (headF w).length = w.length + 1 := by simp [headF]
 have hfin : headF w ++ (tailF (sumB (headF w) 7) ++ [1]) = frameB w := by unfold frameB; rw [List.append_assoc]
 simp (disch := first|assumption|omega) only [S0,rA,rQ,rB,rT,rE, t_slen, c1, ek, eb, g1]
 generalize headF w = s at *
 have h0 : (0 : Int) <= 7 := by decide
 have h1 : (7 : Int) < 65521 := by decide
 generalize h7 : (7 : Int) = h at h0 h1
 subst h7
 rw [whileE (.yield 1, [i64 (sumB s 7)]) (fun i : Nat => s.length - i) (fun i : Nat => i <= s.length) (fun i => [i64 (sumB (s.take i) 7), i64 i]) 0 rfl (by simp) (by simp)]
 rotate_left
 ·intro i hi
  by_cases hlt : i < s.length
  ·have d : decide ((i : Int) < (s.length : Int)) = true := by simpa using hlt
   have es := t_sidx (s := s) (k := (i : Int)) (by omega) (by omega)
   have hc : (atI s (i : Int)).toNat < 256 := UInt8.toNat_lt _
   obtain ⟨v0, v1⟩ := sumB_rng (s.take i) 7 h0 h1
   have ec : (Prim.conv .i64).run [u8 (atI s (i : Int))] = some [i64 (((atI s (i : Int)).toNat : Nat) : Int)] := u8_conv (by omega) (by omega)
   have er : (Prim.bin .mul).run [i64 33, i64 (sumB (s.take i) 7)] = some [i64 (33 * sumB (s.take i) 7)] := run_mulI (by omega) (by omega)
   have em : (Prim.bin .rem).run [i64 (33 * sumB (s.take i) 7 + (((atI s (i : Int)).toNat : Nat) : Int)), i64 65521] = some [i64 (sumB (s.take (i + 1)) 7)] := by
    show (if (65521 : Int) = 0 then none else some (D.int .i64 ((33 * sumB (s.take i) 7 + (((atI s (i : Int)).toNat : Nat) : Int)).tmod 65521))).map (fun d => [d]) = _
    rw [if_neg (by decide), Int.tmod_eq_emod_of_nonneg (by omega), <- take_at hlt, sumB_app]
    rfl
   refine .inl ⟨i + 1, ?_, by omega, by omega⟩
   simp (disch := first|assumption|omega) only [S0,rA,rQ,rB,rT,rE, t_slen, d, es, ec, er, em]
  ·have d : decide ((i : Int) < (s.length : Int)) = false := by simpa using hlt
   obtain rfl : i = s.length := by omega
   right
   rw [List.take_of_length_le (Nat.le_refl _)]
   simp (disch := first|assumption|omega) only [S0,rA,rQ,rB,rT,rE, t_slen, d]
 obtain ⟨n0, n1⟩ := sumB_rng s 7 (by decide) (by decide)
 generalize sumB s 7 = x at *
 have eq : (Prim.bin .quo).run [i64 x, i64 256] = some [i64 (x / 256)] := by
  show (if (256 : Int) = 0 then none else some (D.int .i64 (IntKind.i64.wrap (x.tdiv 256)))).map (fun d => [d]) = _
  rw [if_neg (by decide), Int.tdiv_eq_ediv_of_nonneg n0, wrap_i64 (by omega) (by omega)]
  rfl
 have em : (Prim.bin .rem).run [i64 x, i64 256] = some [i64 (x % 256)] := by
  show (if (256 : Int) = 0 then none else some (D.int .i64 (x.tmod 256))).map (fun d => [d]) = _
  rw [if_neg (by decide), Int.tmod_eq_emod_of_nonneg n0]
  rfl
 have c1 := hcv (x / 256) (by omega) (by omega)
 have c2 := hcv (x % 256) (by omega) (by omega)
 have ek : (Prim.mk 1 3).run [.int .u8 (x / 256), .int .u8 (x % 256), .int .u8 1] = some [.rows 1 [[.int .u8 (x / 256)], [.int .u8 (x % 256)], [.int .u8 1]]] := rfl
 have eb : Prim.bstr.run [.rows 1 [[.int .u8 (x / 256)], [.int .u8 (x % 256)], [.int .u8 1]]] = some [.str (tailF x ++ [1])] := rfl
 have htl : (tailF x ++ [1]).length = 3 := rfl
 have g2 := t_add (a := s) (b := tailF x ++ [1]) (by omega)
 simp (disch := first|assumption|omega) only [S0,rA,rQ,rB,rT,rE, eq, em, c1, c2, ek, eb, g2, hfin]
theorem strconv_FormatInt (n : Int) (h0 : 0 <= n) (h1 : n <= 9999) : Fun T 60 [i64 n, i64 10] = some [.str (numT n)] := by
 rw [Fun_ext (e := fmtE) rfl]
 exact fmtE_num h0 h1
theorem strconv_Itoa0 (n : Int) (h0 : 0 <= n) (h1 : n <= 9999) : Fun T 59 [i64 n] = some [.str (numT n)] := by
 rw [Fun_k (t := tm59) rfl]; unfold tm59
 simp (disch := first|assumption|omega) only [S0,rA,rQ,rB,rT,rE, strconv_FormatInt]
theorem strconv_Itoa (n : Int) (h0 : 0 <= n) (h1 : n <= 9999) : Fun T 58 [i64 n] = some [.str (numT n)] := by
 rw [Fun_k (t := tm58) rfl]; unfold tm58
 simp (disch := first|assumption|omega) only [S0,rA,rQ,rB,rT,rE, strconv_Itoa0]
theorem strings_Join (xs : List (List UInt8)) (b : UInt8) (hne : xs ≠ []) (hl : xs.length <= 100000) (hw : ∀ w ∈ xs, w.length <= 10000) : Fun T 63 [rL xs, .str [b]] = some [.str (joinB b xs)] := by
 rw [Fun_ext (e := joinE) rfl]
 exact joinE_B hne hl hw
theorem impl_joined (xs : List Int) (b : UInt8) (hne : xs ≠ []) (hl : xs.length <= 1000) (hr : ∀ x ∈ xs, 0 <= x /\ x <= 9999) : Fun T 57 [.str [b], rL xs] = some [.str (joinB b (xs.map numT))] := by
 rw [Fun_k (t := tm57) rfl]; unfold tm57
 have em0 : (Prim.mk 1 0).run [] = some [rL ([] : List (List UInt8))] := rfl
 simp (disch := first|assumption|omega) only [S0,rA,rQ,rB,rT,rE, em0]
 rw [whileE (.yield 1, [rL (xs.map numT)]) (fun i : Nat => xs.length - i) (fun i : Nat => i <= xs.length) (fun i => [rL ((xs.take i).map numT), i64 i]) 0 rfl (by simp) (by simp)]
 rotate_left
 ·intro i hi
  by_cases hlt : i < xs.length
  ·have d : decide ((i : Int) < (xs.length : Int)) = true := by simpa using hlt
   have hb : InB xs (i : Int) := InB_nat.2 hlt
   have hm := hr _ (at_mem hlt)
   have e := strconv_Itoa (atI xs (i : Int)) hm.1 hm.2
   have z : ((xs.take i).map numT).length + ([numT (atI xs (i : Int))] : List (List UInt8)).length <= 100000000000 := by rw [List.length_map, List.length_take]; simp only [List.length_cons, List.length_nil]; omega
   have e3 : (xs.take i).map numT ++ [numT (atI xs (i : Int))] = (xs.take (i + 1)).map numT := by
    rw [<- take_at hlt]
    simp
   refine .inl ⟨i + 1, ?_, by omega, by omega⟩
   simp (disch := first|assumption|omega) only [S0,rA,rQ,rB,rT,rE, d, S_row, e, S_mk, S_app, e3]
  ·have d : decide ((i : Int) < (xs.length : Int)) = false := by simpa using hlt
   obtain rfl : i = xs.length := by omega
   right
   rw [List.take_of_length_le (Nat.le_refl _)]
   simp (disch := first|assumption|omega) only [S0,rA,rQ,rB,rT,rE, d]
 ·have ej := strings_Join (xs.map numT) b (by simpa using hne) (by rw [List.length_map]; omega) (by
   intro w hw
   obtain ⟨x, h1, rfl⟩ := List.mem_map.1 hw
   exact numT_len (hr x h1).2)
  simp (disch := first|assumption|omega) only [S0,rA,rQ,rB,rT,rE, ej]
theorem impl_spelled (xs : List Int) (hne : xs ≠ []) (hl : xs.length <= 1000) (hr : ∀ x ∈ xs, 0 <= x /\ x <= 9999) : Fun T 56 [rL xs] = some [.str (joinB 32 (xs.map numT))] := by
 rw [Fun_k (t := tm56) rfl]; unfold tm56
 have e := impl_joined xs 32 hne hl hr
 simp (disch := first|assumption|omega) only [S0,rA,rQ,rB,rT,rE, e]
theorem impl_attrText (sq : Int) (xs : List Int) (hne : xs ≠ []) (h0 : 0 <= sq) (h1 : sq <= 9999) (hr : ∀ x ∈ xs, 0 <= x /\ x <= 9999) (hx : xs.length <= 1000) : Fun T 69 [i64 sq, rL xs] = some [.str (attrT ⟨sq, xs⟩)] /\ (attrT ⟨sq, xs⟩).length <= 20000000 := by
 have l1 := numT_len h1
 have l2 : (joinB 44 (xs.map numT)).length <= 10001 * xs.length := by
  have := joinB_len (b := 44) (ws := xs.map numT) (by
   intro w hw
   obtain ⟨x, h1, rfl⟩ := List.mem_map.1 hw
   exact numT_len (hr x h1).2)
  rwa [List.length_map] at this
 refine ⟨?_, by simp only [attrT, List.length_append, List.length_cons]; omega⟩
 rw [Fun_k (t := tm69) rfl]; unfold tm69
 have e := strconv_Itoa sq h0 h1
 have e2 := impl_joined xs 44 hne hx hr
 have g1 := t_add (a := numT sq) (b := [58]) (by simp only [List.length_cons, List.length_nil]; omega)
 have g2 := t_add (a := numT sq ++ [58]) (b := joinB 44 (xs.map numT)) (by simp only [List.length_append, List.length_cons, List.length_nil]; omega)
 have e3 : numT sq ++ [58] ++ joinB 44 (xs.map numT) = attrT ⟨sq, xs⟩ := by simp [attrT]
 simp (disch := first|assumption|omega) only [S0,rA,rQ,rB,rT,rE, e, g1, e2, g2, e3]
theorem impl_cmdText (k i f t a : Int) (h : cmdOk ⟨k, i, f, t, a⟩ = true) : Fun T 68 [i64 k, i64 i, i64 f, i64 t, i64 a] = some [.str (cmdT ⟨k, i, f, t, a⟩)] := by
 rw [Fun_k (t := tm68) rfl]; unfold tm68
 have hr := cmdOk_rng h
 simp only at hr
 obtain ⟨⟨i0, i1⟩, ⟨f0, f1⟩, ⟨t0, t1⟩, a0, a1⟩ := hr
 have li := numT_len i1
 have lf := numT_len f1
 have lt := numT_len t1
 have la := numT_len a1
 have hk := cmdOk_kind h
 simp only at hk
 unfold cmdT
 rcases hk with rfl | rfl | rfl
 ·simp (disch := first|assumption|omega) only [S0,rA,rQ,rB,rT,rE]
 ·have e := impl_spelled [i, f, t, a] (by simp) (by simp) (by
   intro x hx
   simp only [List.mem_cons, List.not_mem_nil, or_false] at hx
   omega)
  have g1 := t_add (a := [109, 111, 118, 101, 32]) (b := joinB 32 ([i, f, t, a].map numT)) (by simp only [List.map_cons, List.map_nil, joinB, List.length_append, List.length_cons, List.length_nil]; omega)
  have e3 : [109, 111, 118, 101, 32] ++ joinB 32 ([i, f, t, a].map numT) = [109, 111, 118, 101, 32] ++ numT i ++ [32] ++ numT f ++ [32] ++ numT t ++ [32] ++ numT a := by simp [joinB]
  simp (disch := first|assumption|omega) only [S0,rA,rQ,rB,rT,rE, S_mk, e, g1, e3]
 ·have e := impl_spelled [i, f] (by simp) (by simp) (by
   intro x hx
   simp only [List.mem_cons, List.not_mem_nil, or_false] at hx
   omega)
  have g1 := t_add (a := [114, 101, 97, 100, 32]) (b := joinB 32 ([i, f].map numT)) (by simp only [List.map_cons, List.map_nil, joinB, List.length_append, List.length_cons, List.length_nil]; omega)
  have e3 : [114, 101, 97, 100, 32] ++ joinB 32 ([i, f].map numT) = [114, 101, 97, 100, 32] ++ numT i ++ [32] ++ numT f := by simp [joinB]
  simp (disch := first|assumption|omega) only [S0,rA,rQ,rB,rT,rE, S_mk, e, g1, e3]
theorem impl_rowText (rep no bal vot sta k i f t a sq : Int) (xs : List Int) (hne : xs ≠ []) (hn : ∀ x ∈ [rep, no, bal, vot, sta], 0 <= x /\ x <= 9999) (hc : cmdOk ⟨k, i, f, t, a⟩ = true) (h1 : 0 <= sq /\ sq <= 9999) (hr : ∀ x ∈ xs, 0 <= x /\ x <= 9999) (hx : xs.length <= 1000) :
  Fun T 55 [i64 rep, i64 no, i64 bal, i64 vot, i64 sta, i64 k, i64 i, i64 f, i64 t, i64 a, i64 sq, rL xs] = some [.str (rowT rep no ⟨bal, vot, sta, ⟨k, i, f, t, a⟩, ⟨sq, xs⟩⟩)] := by
 rw [Fun_k (t := tm55) rfl]; unfold tm55
 have e0 := impl_spelled [rep, no, bal, vot, sta] (by simp) (by simp) hn
 have ec := impl_cmdText k i f t a hc
 obtain ⟨ea, la⟩ := impl_attrText sq xs hne h1.1 h1.2 hr hx
 have lc := cmdT_len hc
 have lA := joinB_len (b := 32) (ws := [rep, no, bal, vot, sta].map numT) (by
  intro w hw
  obtain ⟨x, h1, rfl⟩ := List.mem_map.1 hw
  exact numT_len (hn x h1).2)
 have hfin : joinB 32 ([rep, no, bal, vot, sta].map numT) ++ [124] ++ cmdT ⟨k, i, f, t, a⟩ ++ [124] ++ attrT ⟨sq, xs⟩ = rowT rep no ⟨bal, vot, sta, ⟨k, i, f, t, a⟩, ⟨sq, xs⟩⟩ := by
  simp [rowT, joinB]
 have emk : (Prim.mk 1 5).run [i64 rep, i64 no, i64 bal, i64 vot, i64 sta] = some [rL [rep, no, bal, vot, sta]] := S_mk.2.2.2.2.1
 rw [List.length_map, show [rep, no, bal, vot, sta].length = 5 from rfl] at lA
 generalize joinB 32 ([rep, no, bal, vot, sta].map numT) = A at *
 have g1 := t_add (a := A) (b := [124]) (by simp only [List.length_cons, List.length_nil]; omega)
 have g2 := t_add (a := A ++ [124]) (b := cmdT ⟨k, i, f, t, a⟩) (by simp only [List.length_append, List.length_cons, List.length_nil]; omega)
 have g3 := t_add (a := A ++ [124] ++ cmdT ⟨k, i, f, t, a⟩) (b := [124]) (by simp only [List.length_append, List.length_cons, List.length_nil]; omega)
 have g4 := t_add (a := A ++ [124] ++ cmdT ⟨k, i, f, t, a⟩ ++ [124]) (b := attrT ⟨sq, xs⟩) (by simp only [List.length_append, List.length_cons, List.length_nil]; omega)
 simp (disch := first|assumption|omega) only [S0,rA,rQ,rB,rT,rE, emk, e0, g1, ec, g2, g3, ea, g4, hfin]
theorem spec_l14RowR (n rep no : Int) (r : TRow) (hg : isGrp n = true) (hi : inst n rep no = true) (hr : rowOk n r = true) : Fun T 27 [i64 rep, i64 no, i64 r.ballot, i64 r.vote, i64 r.state, i64 r.cmd.kind, i64 r.cmd.id, i64 r.cmd.src, i64 r.cmd.dst, i64 r.cmd.amt, i64 r.attr.seq, rL r.attr.deps] = some [.str (rowT rep no r)] := by
 have h1 := inst_rng hi
 have hn := isGrp_rng hg
 have h2 := rowOk_rng hr
 have h3 := rowOk_cmd hr
 have h4 := attrOk_rng (rowOk_attr hr hg)
 exact spec_l14Row rep no r.ballot r.vote r.state r.cmd.kind r.cmd.id r.cmd.src r.cmd.dst r.cmd.amt r.attr.seq r.attr.deps ⟨by omega, by omega⟩ (by
  intro x hx
  simp only [List.mem_cons, List.not_mem_nil, or_false] at hx
  omega) h3 ⟨h4.1, by omega⟩ (fun x hx => ⟨(h4.2.2.2 x hx).1, by have := (h4.2.2.2 x hx).2; omega⟩) (by omega)
theorem impl_rowTextR (n rep no : Int) (r : TRow) (hg : isGrp n = true) (hi : inst n rep no = true) (hr : rowOk n r = true) : Fun T 55 [i64 rep, i64 no, i64 r.ballot, i64 r.vote, i64 r.state, i64 r.cmd.kind, i64 r.cmd.id, i64 r.cmd.src, i64 r.cmd.dst, i64 r.cmd.amt, i64 r.attr.seq, rL r.attr.deps] = some [.str (rowT rep no r)] := by
 have h1 := inst_rng hi
 have hn := isGrp_rng hg
 have h2 := rowOk_rng hr
 have h3 := rowOk_cmd hr
 have h4 := attrOk_rng (rowOk_attr hr hg)
 have hne : r.attr.deps ≠ [] := by
  intro e
  rw [e] at h4
  simp only [List.length_nil] at h4
  omega
 exact impl_rowText rep no r.ballot r.vote r.state r.cmd.kind r.cmd.id r.cmd.src r.cmd.dst r.cmd.amt r.attr.seq r.attr.deps hne (by
  intro x hx
  simp only [List.mem_cons, List.not_mem_nil, or_false] at hx
  omega) h3 ⟨h4.1, by omega⟩ (fun x hx => ⟨(h4.2.2.2 x hx).1, by have := (h4.2.2.2 x hx).2; omega⟩) (by omega)
theorem spec_LogOf (n : Int) (rows : List (List TRow)) (hs : smTab rows) : Fun T 14 [i64 n, rL rows] = some [.str (logR ⟨n, rows⟩).1, .bool (logR ⟨n, rows⟩).2] := by
 rw [Fun_k (t := tm14) rfl]; unfold tm14
 unfold logR
 have eg := spec_GoodTable n rows hs
 cases hT : tabOk ⟨n, rows⟩
 ·simp only [Bool.false_and, Bool.false_eq_true, if_false]
  simp (disch := first|assumption|omega) only [S0,rA,rQ,rB,rT,rE, eg, hT]
 have hl := tabOk_len hT
 have hgr := isGrp_rng (tabOk_grp hT)
 have htl := tabF_len hT
 simp only at hl hgr htl
 simp only [Bool.true_and]
 simp (disch := first|assumption|omega) only [S0,rA,rQ,rB,rT,rE, eg, hT]
 rw [whileE (.yield 1, [.str (tabF rows rows.length)]) (fun i : Nat => rows.length - i) (fun i : Nat => i <= rows.length) (fun i => [.str (tabF rows i), i64 i]) 0 rfl (by simp) (by simp)]
 rotate_left
 ·intro i hi
  by_cases hlt : i < rows.length
  ·have d : decide ((i : Int) < (rows.length : Int)) = true := by simpa using hlt
   have hb : InB rows (i : Int) := InB_nat.2 hlt
   have hl6 := (tabOk_rows hT (at_mem hlt)).1
   have hta := fun (j : Nat) (hj : j < (atI rows (i : Int)).length) => tab_at hT (i := i) (j := j) hlt hj
   have hrl := rowF_len hT (i := i) hlt
   have htli := htl i (by omega)
   have htf : tabF rows (i + 1) = tabF rows i ++ rowF (i : Int) (atI rows (i : Int)) (atI rows (i : Int)).length := rfl
   simp only at hl6 hta hrl
   refine .inl ⟨i + 1, ?_, by omega, by omega⟩
   rw [htf]
   simp (disch := first|assumption|omega) only [S0,rA,rQ,rB,rT,rE, d, S_row]
   generalize atI rows (i : Int) = xs at *
   generalize tabF rows i = A at *
   rw [whileE (.yield 3, [.str (A ++ rowF (i : Int) xs xs.length)]) (fun j : Nat => xs.length - j) (fun j : Nat => j <= xs.length) (fun j => [.str (A ++ rowF (i : Int) xs j), i64 j]) 0 (by simp [Atom.val, rowF]) (by simp) (by simp)]
   rotate_left
   ·intro j hj
    by_cases hlt2 : j < xs.length
    ·have d2 : decide ((j : Int) < (xs.length : Int)) = true := by simpa using hlt2
     have hb2 : InB xs (j : Int) := InB_nat.2 hlt2
     obtain ⟨q1, q2, q3, q4⟩ := hta j hlt2
     have er := spec_l14RowR n (i : Int) ((j : Int) + 1) (atI xs (j : Int)) q1 q2 q3
     have hfew := rowT_few q1 q2 q3
     have ef := spec_l14Frame (rowT (i : Int) ((j : Int) + 1) (atI xs (j : Int))) (by omega)
     have hrf : rowF (i : Int) xs (j + 1) = rowF (i : Int) xs j ++ frameB (rowT (i : Int) ((j : Int) + 1) (atI xs (j : Int))) := rfl
     have hrlj := hrl j (by omega)
     have hfl := frameB_len (w := rowT (i : Int) ((j : Int) + 1) (atI xs (j : Int)))
     have g1 := t_add (a := A ++ rowF (i : Int) xs j) (b := frameB (rowT (i : Int) ((j : Int) + 1) (atI xs (j : Int)))) (by rw [List.length_append]; omega)
     rw [List.append_assoc, <- hrf] at g1
     refine .inl ⟨j + 1, ?_, by omega, by omega⟩
     simp (disch := first|assumption|omega) only [S0,rA,rQ,rB,rT,rE, d2, S_row, er, ef, g1]
    ·have d2 : decide ((j : Int) < (xs.length : Int)) = false := by simpa using hlt2
     obtain rfl : j = xs.length := by omega
     right
     simp (disch := first|assumption|omega) only [S0,rA,rQ,rB,rT,rE, d2]
   ·simp (disch := first|assumption|omega) only [S0,rA,rQ,rB,rT,rE]
  ·have d : decide ((i : Int) < (rows.length : Int)) = false := by simpa using hlt
   obtain rfl : i = rows.length := by omega
   right
   simp (disch := first|assumption|omega) only [S0,rA,rQ,rB,rT,rE, d]
 ·cases d : decide (20000 < ((tabF rows rows.length).length : Int))
  ·simp only [Bool.not_false, if_true]
   simp (disch := first|assumption|omega) only [S0,rA,rQ,rB,rT,rE, t_slen, d]
  ·simp only [Bool.not_true, Bool.false_eq_true, if_false]
   simp (disch := first|assumption|omega) only [S0,rA,rQ,rB,rT,rE, t_slen, d]
theorem impl_LogOf_1 (n rep no : Int) (r : TRow) (acc : List UInt8) (hg : isGrp n = true) (hi : inst n rep no = true) (hr : rowOk n r = true) (ha : acc.length <= 100000) : Fun T 54 [i64 rep, i64 no, i64 r.ballot, i64 r.vote, i64 r.state, i64 r.cmd.kind, i64 r.cmd.id, i64 r.cmd.src, i64 r.cmd.dst, i64 r.cmd.amt, i64 r.attr.seq, rL r.attr.deps, .bool false, .str acc] = some [.bool false, .str (acc ++ frameB (rowT rep no r))] := by
 rw [Fun_k (t := tm54) rfl]; unfold tm54
 have er := impl_rowTextR n rep no r hg hi hr
 have hfew := rowT_few hg hi hr
 have ef := impl_frame (rowT rep no r) (by omega)
 have hfl := frameB_len (w := rowT rep no r)
 have g1 := t_add (a := acc) (b := frameB (rowT rep no r)) (by omega)
 have d : decide (200 < ((rowT rep no r).length : Int)) = false := by simp; omega
 simp (disch := first|assumption|omega) only [S0,rA,rQ,rB,rT,rE, er, t_slen, d, ef, g1]
theorem each_LogOf (n : Int) (rows : List (List TRow)) (hT : tabOk ⟨n, rows⟩ = true) : Fun T 53 [i64 n, rL rows, .bool false, .str []] = some [.bool false, .str (tabF rows rows.length)] := by
 rw [Fun_k (t := tm53) rfl]; unfold tm53
 have hl := tabOk_len hT
 have hgr := isGrp_rng (tabOk_grp hT)
 have htl := tabF_len hT
 simp only at hl hgr htl
 simp (disch := first|assumption|omega) only [S0,rA,rQ,rB,rT,rE]
 rw [whileE (.yield 1, [.bool false, .str (tabF rows rows.length)]) (fun i : Nat => rows.length - i) (fun i : Nat => i <= rows.length) (fun i => [i64 i, .bool false, .str (tabF rows i)]) 0 rfl (by simp) (by simp)]
 rotate_left
 ·intro i hi
  by_cases hlt : i < rows.length
  ·have d : decide ((i : Int) < (rows.length : Int)) = true := by simpa using hlt
   have hb : InB rows (i : Int) := InB_nat.2 hlt
   have hl6 := (tabOk_rows hT (at_mem hlt)).1
   have hta := fun (j : Nat) (hj : j < (atI rows (i : Int)).length) => tab_at hT (i := i) (j := j) hlt hj
   have hrl := rowF_len hT (i := i) hlt
   have htli := htl i (by omega)
   have htf : tabF rows (i + 1) = tabF rows i ++ rowF (i : Int) (atI rows (i : Int)) (atI rows (i : Int)).length := rfl
   simp only at hl6 hta hrl
   refine .inl ⟨i + 1, ?_, by omega, by omega⟩
   rw [htf]
   simp (disch := first|assumption|omega) only [S0,rA,rQ,rB,rT,rE, d, S_row]
   generalize atI rows (i : Int) = xs at *
   generalize tabF rows i = A at *
   rw [whileE (.yield 3, [.bool false, .str (A ++ rowF (i : Int) xs xs.length)]) (fun j : Nat => xs.length - j) (fun j : Nat => j <= xs.length) (fun j => [i64 j, .bool false, .str (A ++ rowF (i : Int) xs j)]) 0 (by simp [Atom.val, rowF]) (by simp) (by simp)]
   rotate_left
   ·intro j hj
    by_cases hlt2 : j < xs.length
    ·have d2 : decide ((j : Int) < (xs.length : Int)) = true := by simpa using hlt2
     have hb2 : InB xs (j : Int) := InB_nat.2 hlt2
     obtain ⟨q1, q2, q3, q4⟩ := hta j hlt2
     have hrlj := hrl j (by omega)
     have er := impl_LogOf_1 n (i : Int) ((j : Int) + 1) (atI xs (j : Int)) (A ++ rowF (i : Int) xs j) q1 q2 q3 (by rw [List.length_append]; omega)
     have hrf : rowF (i : Int) xs (j + 1) = rowF (i : Int) xs j ++ frameB (rowT (i : Int) ((j : Int) + 1) (atI xs (j : Int))) := rfl
     rw [List.append_assoc, <- hrf] at er
     refine .inl ⟨j + 1, ?_, by omega, by omega⟩
     simp (disch := first|assumption|omega) only [S0,rA,rQ,rB,rT,rE, d2, S_row, er]
    ·have d2 : decide ((j : Int) < (xs.length : Int)) = false := by simpa using hlt2
     obtain rfl : j = xs.length := by omega
     right
     simp (disch := first|assumption|omega) only [S0,rA,rQ,rB,rT,rE, d2]
   ·simp (disch := first|assumption|omega) only [S0,rA,rQ,rB,rT,rE]
  ·have d : decide ((i : Int) < (rows.length : Int)) = false := by simpa using hlt
   obtain rfl : i = rows.length := by omega
   right
   simp (disch := first|assumption|omega) only [S0,rA,rQ,rB,rT,rE, d]
 ·simp (disch := first|assumption|omega) only [S0,rA,rQ,rB,rT,rE]
theorem impl_LogOf (n : Int) (rows : List (List TRow)) (hs : smTab rows) : Fun T 33 [i64 n, rL rows] = some [.str (logR ⟨n, rows⟩).1, .bool (logR ⟨n, rows⟩).2] := by
 rw [Fun_k (t := tm33) rfl]; unfold tm33
 unfold logR
 have eg := impl_GoodTable n rows hs
 cases hT : tabOk ⟨n, rows⟩
 ·simp only [Bool.false_and, Bool.false_eq_true, if_false]
  simp (disch := first|assumption|omega) only [S0,rA,rQ,rB,rT,rE, eg, hT]
 have e := each_LogOf n rows hT
 simp only [Bool.true_and]
 cases d : decide (20000 < ((tabF rows rows.length).length : Int))
 ·simp only [Bool.not_false, if_true]
  simp (disch := first|assumption|omega) only [S0,rA,rQ,rB,rT,rE, eg, hT, e, t_slen, d]
 ·simp only [Bool.not_true, Bool.false_eq_true, if_false]
  simp (disch := first|assumption|omega) only [S0,rA,rQ,rB,rT,rE, eg, hT, e, t_slen, d]
theorem law (t_n : Int) (t_rows : (List (List TRow))) (hw_t : wf_TTable ⟨t_n, t_rows⟩) : Fun T 0 [i64 t_n, rL t_rows] = some [.bool true] := by
 rw [Fun_k (t := tm0) rfl]; unfold tm0
 by_cases c_t : ((sz_TTable ⟨t_n, t_rows⟩ : Nat) : Int) <= 1048576
 rotate_left
 ·have e : szR (1048576) (sz_TTable ⟨t_n, t_rows⟩) = -1 := if_neg c_t
  (refine fork_in ?_; repeat' (refine fork_eq ?_ ?_<;>intro _<;>try simp (disch := first|assumption|omega) only [S0,rA,rQ,rB,rT,rE,lsz_TTable,lt0,ltm1, *]))
 have e_t : szR (1048576) (sz_TTable ⟨t_n, t_rows⟩) = 1048576 - ((sz_TTable ⟨t_n, t_rows⟩ : Nat) : Int) := if_pos c_t
 have s1_t : sz_TTable ⟨t_n, t_rows⟩ <= 1048576 := by omega
 have s2_t : sz_TTable ⟨t_n, t_rows⟩ <= 1099511627776 := by omega
 have szu_t := s1_t
 rw [szu_TTable] at szu_t
 simp only at szu_t
 have m1_t_rows : szL (szL sz_TRow) t_rows <= 1099511627776 := by first | omega | (have h := s2_t; rw [szL_zero] at h; exact h)
 have m2_t_rows : ctL (ctL ct_TRow) t_rows <= 1125899906842624 := by have := ctL_le (c := (ctL ct_TRow)) (f := (szL sz_TRow)) (m := 16) (by omega) (fun xs => Nat.le_trans (ctL_le (c := ct_TRow) (f := sz_TRow) (m := 16) (by omega) ctb_TRow xs) (Nat.le_add_left _ _)) t_rows; omega
 have s3 : smTab t_rows := smTab_of s1_t
 (refine fork_in ?_; repeat' (refine fork_eq ?_ ?_<;>intro _<;>try simp (disch := first|assumption|omega) only [S0,rA,rQ,rB,rT,rE,lsz_TTable,lto_TTable,spec_LogOf,impl_LogOf,leq_TTable,lt0,ltm1,t_ne, *]))
theorem hpure : ∀ ds, WTs [.int .i64, .sl 24 [.sl 96 [.int .i64, .int .i64, .int .i64, .int .i64, .int .i64, .int .i64, .int .i64, .int .i64, .int .i64, .sl 8 [.int .i64]]]] ds -> ∃ n, callN T n 0 ds = some [.bool true] := by
 intro ds h
 simp only [WTs] at h
 obtain ⟨d0, r0, rfl, w0, d1, r1, rfl, w1, rfl⟩ := h
 obtain ⟨t, e_t, hw_t⟩ := dec_TTable [d0, d1] (by simp only [WTs]; exact ⟨_, _, rfl, w0, _, _, rfl, w1, rfl⟩)
 simp only [Enc.enc, List.cons.injEq, and_true] at e_t
 obtain ⟨rfl, rfl⟩ := e_t
 exact pure_of (law (t.n) (t.rows) hw_t)
end FnExactLogOf
end Go.Proofs.YtnlhnfifkninpaaDoor
