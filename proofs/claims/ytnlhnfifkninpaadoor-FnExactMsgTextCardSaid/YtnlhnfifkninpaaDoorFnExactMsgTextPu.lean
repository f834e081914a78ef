/- What the terms of FnExactMsgText come to. -/
import Derived.Test.YtnlhnfifkninpaaDoorFnExactMsgTextTab
namespace Go.Proofs.YtnlhnfifkninpaaDoor
namespace FnExactMsgText
open Go Go.Proofs.YtnlhnfifkninpaaDoor.Rf
open Nat renaming reduceAdd → rA, reduceEqDiff → rQ
open Int renaming reduceBEq → rB, reduceLT → rT, reduceLE → rE
set_option linter.unusedSimpArgs false
set_option linter.unusedVariables false
set_option linter.unnecessarySimpa false
set_option maxHeartbeats 4000000
set_option maxRecDepth 10000
theorem lto_TCmd (x_kind x_id x_src x_dst x_amt : Int) : Fun T 5 [i64 x_kind, i64 x_id, i64 x_src, i64 x_dst, i64 x_amt] = some [i64 x_kind, i64 x_id, i64 x_src, i64 x_dst, i64 x_amt] := by
 rw [Fun_k (t := tm5) rfl]; unfold tm5
 (refine fork_in ?_; repeat' (refine fork_eq ?_ ?_<;>intro _<;>try simp (disch := first|assumption|omega) only [S0,rA,rQ,rB,rT,rE, *]))
theorem leq_TCmd (x_kind x_id x_src x_dst x_amt : Int) (y_kind y_id y_src y_dst y_amt : Int) : Fun T 62 [i64 x_kind, i64 x_id, i64 x_src, i64 x_dst, i64 x_amt, i64 y_kind, i64 y_id, i64 y_src, i64 y_dst, i64 y_amt] = some [.bool (decide ((⟨x_kind, x_id, x_src, x_dst, x_amt⟩ : TCmd) = ⟨y_kind, y_id, y_src, y_dst, y_amt⟩))] := by
 rw [Fun_k (t := tm62) rfl]; unfold tm62
 have e : decide ((⟨x_kind, x_id, x_src, x_dst, x_amt⟩ : TCmd) = ⟨y_kind, y_id, y_src, y_dst, y_amt⟩) = ((x_kind == y_kind) && (x_id == y_id) && (x_src == y_src) && (x_dst == y_dst) && (x_amt == y_amt)) := by
  simp only [TCmd.mk.injEq, Bool.beq_eq_decide_eq, Bool.decide_and, Bool.and_assoc]
 rw [e]
 (refine fork_in ?_; repeat' (refine fork_eq ?_ ?_<;>intro _<;>try simp (disch := first|assumption|omega) only [S0,rA,rQ,rB,rT,rE, *]))
theorem lsz_LI (xs : (List Int)) (l : Int) (h0 : 0 <= l) (h1 : l <= 1048576) (hw : xs.length <= 140737488351232) : Fun T 3 [rL xs, i64 l] = some [i64 (szR l (szL (fun _ => 0) xs))] := by
 rw [Fun_k (t := tm3) rfl]; unfold tm3
 have es : szL (fun _ => 0) xs = xs.length := szL_zero
 rw [es]
 by_cases c : (xs.length : Int) <= l
 ·have e : szR l xs.length = l - xs.length := if_pos c
  have d : decide (l - (xs.length : Int) < 0) = false := by simp; omega
  (refine fork_in ?_; repeat' (refine fork_eq ?_ ?_<;>intro _<;>try simp (disch := first|assumption|omega) only [S0,rA,rQ,rB,rT,rE, *]))
 ·have e : szR l xs.length = -1 := if_neg c
  have d : decide (l - (xs.length : Int) < 0) = true := by simp; omega
  (refine fork_in ?_; repeat' (refine fork_eq ?_ ?_<;>intro _<;>try simp (disch := first|assumption|omega) only [S0,rA,rQ,rB,rT,rE, *]))
theorem lto_LI (xs : (List Int)) (hs : szL (fun _ => 0) xs <= 1048576) : Fun T 7 [rL xs] = some [rL xs] := by
 rw [Fun_k (t := tm7) rfl]; unfold tm7
 have hl : xs.length <= 1048576 := Nat.le_trans szL_len hs
 simp (disch := first|assumption|omega) only [S0,rA,rQ,rB,rT,rE, S_make, Int.toNat_natCast, *]
 rw [toLoop xs rfl]
 ·(refine fork_in ?_; repeat' (refine fork_eq ?_ ?_<;>intro _<;>try simp (disch := first|assumption|omega) only [S0,rA,rQ,rB,rT,rE, *]))
 ·intro i ys hi hb hb' hl'
  (refine fork_in ?_; repeat' (refine fork_eq ?_ ?_<;>intro _<;>try simp (disch := first|assumption|omega) only [S0,rA,rQ,rB,rT,rE,S_row,S_set, *]))
 ·intro ys hl'
  (refine fork_in ?_; repeat' (refine fork_eq ?_ ?_<;>intro _<;>try simp (disch := first|assumption|omega) only [S0,rA,rQ,rB,rT,rE, *]))
theorem leq_LI (xs ys : (List Int)) (hs : szL (fun _ => 0) xs <= 1099511627776) : Fun T 64 [rL xs, rL ys] = some [.bool (decide (xs = ys))] := by
 rw [Fun_k (t := tm64) rfl]; unfold tm64
 have hx : xs.length <= 1099511627776 := Nat.le_trans szL_len hs
 by_cases hl : ys.length = xs.length
 ·simp (disch := first|assumption|omega) only [S0,rA,rQ,rB,rT,rE, *]
  rw [scanX 1 xs.length (fun i => decide (atI xs i = atI ys i)) [.bool false], allB_eq hl.symm]
  ·(refine fork_in ?_; repeat' (refine fork_eq ?_ ?_<;>intro _<;>try simp (disch := first|assumption|omega) only [S0,rA,rQ,rB,rT,rE, *]))
  ·intro i hi hp
   have hb : InB xs (i : Int) := InB_nat.2 hi
   have hb' : InB ys (i : Int) := InB_nat.2 (by omega)
   have h2 : decide ((i : Int) < xs.length) = true := by simp; omega
   have h3 : (atI xs i == atI ys i) = true := by simpa using hp
   (refine fork_in ?_; repeat' (refine fork_eq ?_ ?_<;>intro _<;>try simp (disch := first|assumption|omega) only [S0,rA,rQ,rB,rT,rE,S_row, *]))
  ·intro i hi hp
   have hb : InB xs (i : Int) := InB_nat.2 hi
   have hb' : InB ys (i : Int) := InB_nat.2 (by omega)
   have h2 : decide ((i : Int) < xs.length) = true := by simp; omega
   have h3 : (atI xs i == atI ys i) = false := by simpa using hp
   (refine fork_in ?_; repeat' (refine fork_eq ?_ ?_<;>intro _<;>try simp (disch := first|assumption|omega) only [S0,rA,rQ,rB,rT,rE,S_row, *]))
  ·have h2 : decide ((xs.length : Int) < xs.length) = false := by simp
   (refine fork_in ?_; repeat' (refine fork_eq ?_ ?_<;>intro _<;>try simp (disch := first|assumption|omega) only [S0,rA,rQ,rB,rT,rE, *]))
 ·have hl' : ((xs.length : Int) == (ys.length : Int)) = false := by simp; omega
  have e := eq_len (fun h => hl h.symm)
  (refine fork_in ?_; repeat' (refine fork_eq ?_ ?_<;>intro _<;>try simp (disch := first|assumption|omega) only [S0,rA,rQ,rB,rT,rE, *]))
theorem lsz_TAttr (x_seq : Int) (x_deps : (List Int)) (l : Int) (h0 : 0 <= l) (h1 : l <= 1048576) (hw : wf_TAttr ⟨x_seq, x_deps⟩) : Fun T 2 [i64 x_seq, rL x_deps, i64 l] = some [i64 (szR l (sz_TAttr ⟨x_seq, x_deps⟩))] := by
 rw [Fun_k (t := tm2) rfl]; unfold tm2
 unfold wf_TAttr at hw
 simp only at hw
 have w0 := hw
 by_cases c0 : ((szL (fun _ => 0) x_deps : Nat) : Int) <= l
 rotate_left
 ·have e0 : szR (l) (szL (fun _ => 0) x_deps) = -1 := if_neg c0
  have d0 : decide ((-1 : Int) < 0) = true := rfl
  have e : szR l (sz_TAttr ⟨x_seq, x_deps⟩) = -1 := by unfold szR sz_TAttr; simp only []; split <;> omega
  (refine fork_in ?_; repeat' (refine fork_eq ?_ ?_<;>intro _<;>try simp (disch := first|assumption|omega) only [S0,rA,rQ,rB,rT,rE,lsz_LI, *]))
 have e0 : szR (l) (szL (fun _ => 0) x_deps) = l - (szL (fun _ => 0) x_deps : Nat) := if_pos c0
 have d0 : decide (l - ((szL (fun _ => 0) x_deps : Nat) : Int) < 0) = false := by simp; omega
 have e : szR l (sz_TAttr ⟨x_seq, x_deps⟩) = l - ((szL (fun _ => 0) x_deps : Nat) : Int) := by unfold szR sz_TAttr; simp only []; split <;> omega
 (refine fork_in ?_; repeat' (refine fork_eq ?_ ?_<;>intro _<;>try simp (disch := first|assumption|omega) only [S0,rA,rQ,rB,rT,rE,lsz_LI, *]))
theorem lto_TAttr (x_seq : Int) (x_deps : (List Int)) (hs : sz_TAttr ⟨x_seq, x_deps⟩ <= 1048576) : Fun T 6 [i64 x_seq, rL x_deps] = some [i64 x_seq, rL x_deps] := by
 rw [Fun_k (t := tm6) rfl]; unfold tm6
 unfold sz_TAttr at hs
 simp only at hs
 have s0 : szL (fun _ => 0) x_deps <= 1048576 := by omega
 (refine fork_in ?_; repeat' (refine fork_eq ?_ ?_<;>intro _<;>try simp (disch := first|assumption|omega) only [S0,rA,rQ,rB,rT,rE,lto_LI, *]))
theorem leq_TAttr (x_seq : Int) (x_deps : (List Int)) (y_seq : Int) (y_deps : (List Int)) (hs : sz_TAttr ⟨x_seq, x_deps⟩ <= 1099511627776) : Fun T 63 [i64 x_seq, rL x_deps, i64 y_seq, rL y_deps] = some [.bool (decide ((⟨x_seq, x_deps⟩ : TAttr) = ⟨y_seq, y_deps⟩))] := by
 rw [Fun_k (t := tm63) rfl]; unfold tm63
 unfold sz_TAttr at hs
 simp only at hs
 have s0 : szL (fun _ => 0) x_deps <= 1099511627776 := by omega
 have e : decide ((⟨x_seq, x_deps⟩ : TAttr) = ⟨y_seq, y_deps⟩) = ((x_seq == y_seq) && decide ((x_deps : (List Int)) = y_deps)) := by
  simp only [TAttr.mk.injEq, Bool.beq_eq_decide_eq, Bool.decide_and, Bool.and_assoc]
 rw [e]
 (refine fork_in ?_; repeat' (refine fork_eq ?_ ?_<;>intro _<;>try simp (disch := first|assumption|omega) only [S0,rA,rQ,rB,rT,rE,leq_LI, *]))
theorem lsz_TMsg (x_kind x_src x_dst x_rep x_no x_ballot x_vote x_state x_cmd_kind x_cmd_id x_cmd_src x_cmd_dst x_cmd_amt x_attr_seq : Int) (x_attr_deps : (List Int)) (l : Int) (h0 : 0 <= l) (h1 : l <= 1048576) (hw : wf_TMsg ⟨x_kind, x_src, x_dst, x_rep, x_no, x_ballot, x_vote, x_state, ⟨x_cmd_kind, x_cmd_id, x_cmd_src, x_cmd_dst, x_cmd_amt⟩, ⟨x_attr_seq, x_attr_deps⟩⟩) : Fun T 1 [i64 x_kind, i64 x_src, i64 x_dst, i64 x_rep, i64 x_no, i64 x_ballot, i64 x_vote, i64 x_state, i64 x_cmd_kind, i64 x_cmd_id, i64 x_cmd_src, i64 x_cmd_dst, i64 x_cmd_amt, i64 x_attr_seq, rL x_attr_deps, i64 l] = some [i64 (szR l (sz_TMsg ⟨x_kind, x_src, x_dst, x_rep, x_no, x_ballot, x_vote, x_state, ⟨x_cmd_kind, x_cmd_id, x_cmd_src, x_cmd_dst, x_cmd_amt⟩, ⟨x_attr_seq, x_attr_deps⟩⟩))] := by
 rw [Fun_k (t := tm1) rfl]; unfold tm1
 unfold wf_TMsg at hw
 simp only at hw
 have w0 := hw
 by_cases c0 : ((sz_TAttr ⟨x_attr_seq, x_attr_deps⟩ : Nat) : Int) <= l
 rotate_left
 ·have e0 : szR (l) (sz_TAttr ⟨x_attr_seq, x_attr_deps⟩) = -1 := if_neg c0
  have d0 : decide ((-1 : Int) < 0) = true := rfl
  have e : szR l (sz_TMsg ⟨x_kind, x_src, x_dst, x_rep, x_no, x_ballot, x_vote, x_state, ⟨x_cmd_kind, x_cmd_id, x_cmd_src, x_cmd_dst, x_cmd_amt⟩, ⟨x_attr_seq, x_attr_deps⟩⟩) = -1 := by unfold szR sz_TMsg; simp only []; split <;> omega
  (refine fork_in ?_; repeat' (refine fork_eq ?_ ?_<;>intro _<;>try simp (disch := first|assumption|omega) only [S0,rA,rQ,rB,rT,rE,lsz_TAttr, *]))
 have e0 : szR (l) (sz_TAttr ⟨x_attr_seq, x_attr_deps⟩) = l - (sz_TAttr ⟨x_attr_seq, x_attr_deps⟩ : Nat) := if_pos c0
 have d0 : decide (l - ((sz_TAttr ⟨x_attr_seq, x_attr_deps⟩ : Nat) : Int) < 0) = false := by simp; omega
 have e : szR l (sz_TMsg ⟨x_kind, x_src, x_dst, x_rep, x_no, x_ballot, x_vote, x_state, ⟨x_cmd_kind, x_cmd_id, x_cmd_src, x_cmd_dst, x_cmd_amt⟩, ⟨x_attr_seq, x_attr_deps⟩⟩) = l - ((sz_TAttr ⟨x_attr_seq, x_attr_deps⟩ : Nat) : Int) := by unfold szR sz_TMsg; simp only []; split <;> omega
 (refine fork_in ?_; repeat' (refine fork_eq ?_ ?_<;>intro _<;>try simp (disch := first|assumption|omega) only [S0,rA,rQ,rB,rT,rE,lsz_TAttr, *]))
theorem lto_TMsg (x_kind x_src x_dst x_rep x_no x_ballot x_vote x_state x_cmd_kind x_cmd_id x_cmd_src x_cmd_dst x_cmd_amt x_attr_seq : Int) (x_attr_deps : (List Int)) (hs : sz_TMsg ⟨x_kind, x_src, x_dst, x_rep, x_no, x_ballot, x_vote, x_state, ⟨x_cmd_kind, x_cmd_id, x_cmd_src, x_cmd_dst, x_cmd_amt⟩, ⟨x_attr_seq, x_attr_deps⟩⟩ <= 1048576) : Fun T 4 [i64 x_kind, i64 x_src, i64 x_dst, i64 x_rep, i64 x_no, i64 x_ballot, i64 x_vote, i64 x_state, i64 x_cmd_kind, i64 x_cmd_id, i64 x_cmd_src, i64 x_cmd_dst, i64 x_cmd_amt, i64 x_attr_seq, rL x_attr_deps] = some [i64 x_kind, i64 x_src, i64 x_dst, i64 x_rep, i64 x_no, i64 x_ballot, i64 x_vote, i64 x_state, i64 x_cmd_kind, i64 x_cmd_id, i64 x_cmd_src, i64 x_cmd_dst, i64 x_cmd_amt, i64 x_attr_seq, rL x_attr_deps] := by
 rw [Fun_k (t := tm4) rfl]; unfold tm4
 unfold sz_TMsg at hs
 simp only at hs
 have s0 : sz_TAttr ⟨x_attr_seq, x_attr_deps⟩ <= 1048576 := by omega
 (refine fork_in ?_; repeat' (refine fork_eq ?_ ?_<;>intro _<;>try simp (disch := first|assumption|omega) only [S0,rA,rQ,rB,rT,rE,lto_TCmd,lto_TAttr, *]))
theorem leq_TMsg (x_kind x_src x_dst x_rep x_no x_ballot x_vote x_state x_cmd_kind x_cmd_id x_cmd_src x_cmd_dst x_cmd_amt x_attr_seq : Int) (x_attr_deps : (List Int)) (y_kind y_src y_dst y_rep y_no y_ballot y_vote y_state y_cmd_kind y_cmd_id y_cmd_src y_cmd_dst y_cmd_amt y_attr_seq : Int) (y_attr_deps : (List Int)) (hs : sz_TMsg ⟨x_kind, x_src, x_dst, x_rep, x_no, x_ballot, x_vote, x_state, ⟨x_cmd_kind, x_cmd_id, x_cmd_src, x_cmd_dst, x_cmd_amt⟩, ⟨x_attr_seq, x_attr_deps⟩⟩ <= 1099511627776) : Fun T 61 [i64 x_kind, i64 x_src, i64 x_dst, i64 x_rep, i64 x_no, i64 x_ballot, i64 x_vote, i64 x_state, i64 x_cmd_kind, i64 x_cmd_id, i64 x_cmd_src, i64 x_cmd_dst, i64 x_cmd_amt, i64 x_attr_seq, rL x_attr_deps, i64 y_kind, i64 y_src, i64 y_dst, i64 y_rep, i64 y_no, i64 y_ballot, i64 y_vote, i64 y_state, i64 y_cmd_kind, i64 y_cmd_id, i64 y_cmd_src, i64 y_cmd_dst, i64 y_cmd_amt, i64 y_attr_seq, rL y_attr_deps] = some [.bool (decide ((⟨x_kind, x_src, x_dst, x_rep, x_no, x_ballot, x_vote, x_state, ⟨x_cmd_kind, x_cmd_id, x_cmd_src, x_cmd_dst, x_cmd_amt⟩, ⟨x_attr_seq, x_attr_deps⟩⟩ : TMsg) = ⟨y_kind, y_src, y_dst, y_rep, y_no, y_ballot, y_vote, y_state, ⟨y_cmd_kind, y_cmd_id, y_cmd_src, y_cmd_dst, y_cmd_amt⟩, ⟨y_attr_seq, y_attr_deps⟩⟩))] := by
 rw [Fun_k (t := tm61) rfl]; unfold tm61
 unfold sz_TMsg at hs
 simp only at hs
 have s0 : sz_TAttr ⟨x_attr_seq, x_attr_deps⟩ <= 1099511627776 := by omega
 have e : decide ((⟨x_kind, x_src, x_dst, x_rep, x_no, x_ballot, x_vote, x_state, ⟨x_cmd_kind, x_cmd_id, x_cmd_src, x_cmd_dst, x_cmd_amt⟩, ⟨x_attr_seq, x_attr_deps⟩⟩ : TMsg) = ⟨y_kind, y_src, y_dst, y_rep, y_no, y_ballot, y_vote, y_state, ⟨y_cmd_kind, y_cmd_id, y_cmd_src, y_cmd_dst, y_cmd_amt⟩, ⟨y_attr_seq, y_attr_deps⟩⟩) = ((x_kind == y_kind) && (x_src == y_src) && (x_dst == y_dst) && (x_rep == y_rep) && (x_no == y_no) && (x_ballot == y_ballot) && (x_vote == y_vote) && (x_state == y_state) && decide ((⟨x_cmd_kind, x_cmd_id, x_cmd_src, x_cmd_dst, x_cmd_amt⟩ : TCmd) = ⟨y_cmd_kind, y_cmd_id, y_cmd_src, y_cmd_dst, y_cmd_amt⟩) && decide ((⟨x_attr_seq, x_attr_deps⟩ : TAttr) = ⟨y_attr_seq, y_attr_deps⟩)) := by
  simp only [TMsg.mk.injEq, Bool.beq_eq_decide_eq, Bool.decide_and, Bool.and_assoc]
 rw [e]
 (refine fork_in ?_; repeat' (refine fork_eq ?_ ?_<;>intro _<;>try simp (disch := first|assumption|omega) only [S0,rA,rQ,rB,rT,rE,leq_TCmd,leq_TAttr, *]))
theorem impl_within (x lo up : Int) : Fun T 29 [i64 x, i64 lo, i64 up] = some [.bool (inR x lo up)] := by
 rw [Fun_k (t := tm29) rfl]; unfold tm29; unfold inR
 (refine fork_in ?_; repeat' (refine fork_eq ?_ ?_<;>intro _<;>try simp (disch := first|assumption|omega) only [S0,rA,rQ,rB,rT,rE, *]))
theorem spec_l1In (x lo up : Int) : Fun T 11 [i64 x, i64 lo, i64 up] = some [.bool (inR x lo up)] := by
 rw [Fun_k (t := tm11) rfl]; unfold tm11; unfold inR
 (refine fork_in ?_; repeat' (refine fork_eq ?_ ?_<;>intro _<;>try simp (disch := first|assumption|omega) only [S0,rA,rQ,rB,rT,rE, *]))
theorem impl_IsGroup (n : Int) : Fun T 31 [i64 n] = some [.bool (isGrp n)] := by
 rw [Fun_k (t := tm31) rfl]; unfold tm31; unfold isGrp
 (refine fork_in ?_; repeat' (refine fork_eq ?_ ?_<;>intro _<;>try simp (disch := first|assumption|omega) only [S0,rA,rQ,rB,rT,rE, *]))
theorem spec_IsGroup (n : Int) : Fun T 10 [i64 n] = some [.bool (isGrp n)] := by
 rw [Fun_k (t := tm10) rfl]; unfold tm10; unfold isGrp
 (refine fork_in ?_; repeat' (refine fork_eq ?_ ?_<;>intro _<;>try simp (disch := first|assumption|omega) only [S0,rA,rQ,rB,rT,rE, *]))
theorem impl_isAccount (n : Int) : Fun T 37 [i64 n] = some [.bool (inR n 0 3)] := by
 rw [Fun_k (t := tm37) rfl]; unfold tm37
 (refine fork_in ?_; repeat' (refine fork_eq ?_ ?_<;>intro _<;>try simp (disch := first|assumption|omega) only [S0,rA,rQ,rB,rT,rE,impl_within, *]))
theorem spec_l2Account (n : Int) : Fun T 19 [i64 n] = some [.bool (inR n 0 3)] := by
 rw [Fun_k (t := tm19) rfl]; unfold tm19
 (refine fork_in ?_; repeat' (refine fork_eq ?_ ?_<;>intro _<;>try simp (disch := first|assumption|omega) only [S0,rA,rQ,rB,rT,rE,spec_l1In, *]))
theorem spec_l2Code (k i f t a : Int) : Fun T 18 [i64 k, i64 i, i64 f, i64 t, i64 a] = some [i64 (cmdCode ⟨k, i, f, t, a⟩)] := by
 rw [Fun_k (t := tm18) rfl]; unfold tm18; unfold cmdCode
 (refine fork_in ?_; repeat' (refine fork_eq ?_ ?_<;>intro _<;>try simp (disch := first|assumption|omega) only [S0,rA,rQ,rB,rT,rE,spec_l2Account,spec_l1In, *]))
theorem spec_GoodCmd (k i f t a : Int) : Fun T 17 [i64 k, i64 i, i64 f, i64 t, i64 a] = some [.bool (cmdOk ⟨k, i, f, t, a⟩)] := by
 rw [Fun_k (t := tm17) rfl]; unfold tm17; unfold cmdOk
 (refine fork_in ?_; repeat' (refine fork_eq ?_ ?_<;>intro _<;>try simp (disch := first|assumption|omega) only [S0,rA,rQ,rB,rT,rE,spec_l2Code,S_eqs,cmdCode0, *]))
 all_goals (refine bool_fin ?_; simp only [Bool.and_eq_true, Bool.or_eq_true, Bool.not_eq_true', Bool.not_eq_false', Bool.and_eq_false_iff, Bool.or_eq_false_iff, Bool.false_eq_true, beq_iff_eq, beq_eq_false_iff_ne, decide_eq_true_eq, decide_eq_false_iff_not, ne_eq] at *; grind)
theorem impl_GoodCmd (k i f t a : Int) : Fun T 36 [i64 k, i64 i, i64 f, i64 t, i64 a] = some [.bool (cmdOk ⟨k, i, f, t, a⟩)] := by
 rw [Fun_k (t := tm36) rfl]; unfold tm36; unfold cmdOk
 (refine fork_in ?_; repeat' (refine fork_eq ?_ ?_<;>intro _<;>try simp (disch := first|assumption|omega) only [S0,rA,rQ,rB,rT,rE,impl_within,impl_isAccount,S_eqs, *]))
theorem spec_l3Inst (n rep no : Int) (hg : isGrp n = true) : Fun T 12 [i64 n, i64 rep, i64 no] = some [.bool (inst n rep no)] := by
 rw [Fun_k (t := tm12) rfl]; unfold tm12; unfold inst
 have hn := isGrp_rng hg
 (refine fork_in ?_; repeat' (refine fork_eq ?_ ?_<;>intro _<;>try simp (disch := first|assumption|omega) only [S0,rA,rQ,rB,rT,rE,spec_l1In, *]))
theorem impl_isInstance (n rep no : Int) : Fun T 30 [i64 n, i64 rep, i64 no] = some [.bool (isGrp n && inst n rep no)] := by
 rw [Fun_k (t := tm30) rfl]; unfold tm30; unfold inst
 cases hg : isGrp n
 ·(refine fork_in ?_; repeat' (refine fork_eq ?_ ?_<;>intro _<;>try simp (disch := first|assumption|omega) only [S0,rA,rQ,rB,rT,rE,impl_IsGroup, *]))
 have hn := isGrp_rng hg
 (refine fork_in ?_; repeat' (refine fork_eq ?_ ?_<;>intro _<;>try simp (disch := first|assumption|omega) only [S0,rA,rQ,rB,rT,rE,impl_IsGroup,impl_within, *]))
theorem spec_l1All (xs : List Int) (lo up : Int) (hx : xs.length <= 1099511627776) : Fun T 21 [rL xs, i64 lo, i64 up] = some [.bool (xs.all fun x => inR x lo up)] := by
 rw [Fun_k (t := tm21) rfl]; unfold tm21
 simp (disch := first|assumption|omega) only [S0,rA,rQ,rB,rT,rE, S_row, *]
 rw [allX 1 xs (fun x => inR x lo up) [.bool false]]
 ·(refine fork_in ?_; repeat' (refine fork_eq ?_ ?_<;>intro _<;>try simp (disch := first|assumption|omega) only [S0,rA,rQ,rB,rT,rE, *]))
 ·intro i hi hb hl hp
  (refine fork_in ?_; repeat' (refine fork_eq ?_ ?_<;>intro _<;>try simp (disch := first|assumption|omega) only [S0,rA,rQ,rB,rT,rE,S_row,spec_l1In, *]))
 ·intro i hi hb hl hp
  (refine fork_in ?_; repeat' (refine fork_eq ?_ ?_<;>intro _<;>try simp (disch := first|assumption|omega) only [S0,rA,rQ,rB,rT,rE,S_row,spec_l1In, *]))
 ·intro hl
  (refine fork_in ?_; repeat' (refine fork_eq ?_ ?_<;>intro _<;>try simp (disch := first|assumption|omega) only [S0,rA,rQ,rB,rT,rE, *]))
theorem spec_l3Attr (n s : Int) (xs : List Int) (hx : xs.length <= 1099511627776) : Fun T 20 [i64 n, i64 s, rL xs] = some [.bool (attrOk n ⟨s, xs⟩)] := by
 rw [Fun_k (t := tm20) rfl]; unfold tm20; unfold attrOk
 (refine fork_in ?_; repeat' (refine fork_eq ?_ ?_<;>intro _<;>try simp (disch := first|assumption|omega) only [S0,rA,rQ,rB,rT,rE,spec_l1In,spec_l1All, *]))
theorem impl_GoodAttr_1 (x : Int) : Fun T 41 [i64 x] = some [.bool (!inR x 0 6)] := by
 rw [Fun_k (t := tm41) rfl]; unfold tm41
 (refine fork_in ?_; repeat' (refine fork_eq ?_ ?_<;>intro _<;>try simp (disch := first|assumption|omega) only [S0,rA,rQ,rB,rT,rE,impl_within, *]))
theorem ix_GoodAttr_1  (xs : List Int) (hx : xs.length <= 1099511627776) : Fun T 40 [rL xs] = some [i64 (ixF (fun x => !inR x 0 6) xs)] := by
 rw [Fun_k (t := tm40) rfl]; unfold tm40
 simp (disch := first|assumption|omega) only [S0,rA,rQ,rB,rT,rE, S_row, *]
 rw [findX 1 xs (fun x => !inR x 0 6) (fun i => [i64 i])]
 ·cases h : xs.any (fun x => !inR x 0 6)
  ·have e : ixF (fun x => !inR x 0 6) xs = -1 := by
    have h2 := ixF_any (fun x => !inR x 0 6) xs
    rw [h] at h2
    unfold ixF at h2 ⊢
    split at h2 <;> simp_all
   rw [e]; simp (disch := first|assumption|omega) only [S0,rA,rQ,rB,rT,rE]
  ·simp (disch := first|assumption|omega) only [S0,rA,rQ,rB,rT,rE]
 ·intro i hi hb hl hp
  (refine fork_in ?_; repeat' (refine fork_eq ?_ ?_<;>intro _<;>try simp (disch := first|assumption|omega) only [S0,rA,rQ,rB,rT,rE,S_row,impl_GoodAttr_1, *]))
 ·intro i hi hb hl hp
  (refine fork_in ?_; repeat' (refine fork_eq ?_ ?_<;>intro _<;>try simp (disch := first|assumption|omega) only [S0,rA,rQ,rB,rT,rE,S_row,impl_GoodAttr_1, *]))
 ·intro hl
  (refine fork_in ?_; repeat' (refine fork_eq ?_ ?_<;>intro _<;>try simp (disch := first|assumption|omega) only [S0,rA,rQ,rB,rT,rE, *]))
theorem ct_GoodAttr_1  (xs : List Int) (hx : xs.length <= 1099511627776) : Fun T 39 [rL xs] = some [.bool (xs.any (fun x => !inR x 0 6))] := by
 rw [Fun_k (t := tm39) rfl]; unfold tm39
 (refine fork_in ?_; repeat' (refine fork_eq ?_ ?_<;>intro _<;>try simp (disch := first|assumption|omega) only [S0,rA,rQ,rB,rT,rE,ix_GoodAttr_1,ixF_any, *]))
theorem impl_GoodAttr (n s : Int) (xs : List Int) (hx : xs.length <= 1099511627776) : Fun T 38 [i64 n, i64 s, rL xs] = some [.bool (isGrp n && attrOk n ⟨s, xs⟩)] := by
 rw [Fun_k (t := tm38) rfl]; unfold tm38; unfold attrOk
 have e : xs.any (fun x => !inR x 0 6) = !xs.all fun x => inR x 0 6 := by rw [List.not_all_eq_any_not]
 (refine fork_in ?_; repeat' (refine fork_eq ?_ ?_<;>intro _<;>try simp (disch := first|assumption|omega) only [S0,rA,rQ,rB,rT,rE,impl_IsGroup,impl_within,ct_GoodAttr_1,e,Bool.not_not, *]))
theorem spec_l1Same (xs ys : List Int) (hx : xs.length <= 1099511627776) : Fun T 16 [rL xs, rL ys] = some [.bool (decide (xs = ys))] := by
 rw [Fun_k (t := tm16) rfl]; unfold tm16
 by_cases hl : ys.length = xs.length
 ·simp (disch := first|assumption|omega) only [S0,rA,rQ,rB,rT,rE, *]
  rw [scanX 1 xs.length (fun i => decide (atI xs i = atI ys i)) [.bool false], allB_eq hl.symm]
  ·(refine fork_in ?_; repeat' (refine fork_eq ?_ ?_<;>intro _<;>try simp (disch := first|assumption|omega) only [S0,rA,rQ,rB,rT,rE, *]))
  ·intro i hi hp
   have hb : InB xs (i : Int) := InB_nat.2 hi
   have hb' : InB ys (i : Int) := InB_nat.2 (by omega)
   have h2 : decide ((i : Int) < xs.length) = true := by simp; omega
   have h3 : (atI xs i == atI ys i) = true := by simpa using hp
   (refine fork_in ?_; repeat' (refine fork_eq ?_ ?_<;>intro _<;>try simp (disch := first|assumption|omega) only [S0,rA,rQ,rB,rT,rE,S_row, *]))
  ·intro i hi hp
   have hb : InB xs (i : Int) := InB_nat.2 hi
   have hb' : InB ys (i : Int) := InB_nat.2 (by omega)
   have h2 : decide ((i : Int) < xs.length) = true := by simp; omega
   have h3 : (atI xs i == atI ys i) = false := by simpa using hp
   (refine fork_in ?_; repeat' (refine fork_eq ?_ ?_<;>intro _<;>try simp (disch := first|assumption|omega) only [S0,rA,rQ,rB,rT,rE,S_row, *]))
  ·have h2 : decide ((xs.length : Int) < xs.length) = false := by simp
   (refine fork_in ?_; repeat' (refine fork_eq ?_ ?_<;>intro _<;>try simp (disch := first|assumption|omega) only [S0,rA,rQ,rB,rT,rE, *]))
 ·have hl' : ((xs.length : Int) == (ys.length : Int)) = false := by simp; omega
  have e := eq_len (fun h => hl h.symm)
  (refine fork_in ?_; repeat' (refine fork_eq ?_ ?_<;>intro _<;>try simp (disch := first|assumption|omega) only [S0,rA,rQ,rB,rT,rE, *]))
theorem slices_Equal_int (xs ys : List Int) (hx : xs.length <= 1099511627776) : Fun T 44 [rL xs, rL ys] = some [.bool (decide (xs = ys))] := by
 rw [Fun_k (t := tm44) rfl]; unfold tm44
 by_cases hl : ys.length = xs.length
 ·simp (disch := first|assumption|omega) only [S0,rA,rQ,rB,rT,rE, *]
  rw [scanX 1 xs.length (fun i => decide (atI xs i = atI ys i)) [.bool false], allB_eq hl.symm]
  ·(refine fork_in ?_; repeat' (refine fork_eq ?_ ?_<;>intro _<;>try simp (disch := first|assumption|omega) only [S0,rA,rQ,rB,rT,rE, *]))
  ·intro i hi hp
   have hb : InB xs (i : Int) := InB_nat.2 hi
   have hb' : InB ys (i : Int) := InB_nat.2 (by omega)
   have h2 : decide ((i : Int) < xs.length) = true := by simp; omega
   have h3 : (atI xs i == atI ys i) = true := by simpa using hp
   (refine fork_in ?_; repeat' (refine fork_eq ?_ ?_<;>intro _<;>try simp (disch := first|assumption|omega) only [S0,rA,rQ,rB,rT,rE,S_row, *]))
  ·intro i hi hp
   have hb : InB xs (i : Int) := InB_nat.2 hi
   have hb' : InB ys (i : Int) := InB_nat.2 (by omega)
   have h2 : decide ((i : Int) < xs.length) = true := by simp; omega
   have h3 : (atI xs i == atI ys i) = false := by simpa using hp
   (refine fork_in ?_; repeat' (refine fork_eq ?_ ?_<;>intro _<;>try simp (disch := first|assumption|omega) only [S0,rA,rQ,rB,rT,rE,S_row, *]))
  ·have h2 : decide ((xs.length : Int) < xs.length) = false := by simp
   (refine fork_in ?_; repeat' (refine fork_eq ?_ ?_<;>intro _<;>try simp (disch := first|assumption|omega) only [S0,rA,rQ,rB,rT,rE, *]))
 ·have hl' : ((xs.length : Int) == (ys.length : Int)) = false := by simp; omega
  have e := eq_len (fun h => hl h.symm)
  (refine fork_in ?_; repeat' (refine fork_eq ?_ ?_<;>intro _<;>try simp (disch := first|assumption|omega) only [S0,rA,rQ,rB,rT,rE, *]))
theorem spec_SameAttr (s s' : Int) (xs ys : List Int) (hx : xs.length <= 1099511627776) : Fun T 15 [i64 s, rL xs, i64 s', rL ys] = some [.bool (decide ((⟨s, xs⟩ : TAttr) = ⟨s', ys⟩))] := by
 rw [Fun_k (t := tm15) rfl]; unfold tm15
 have e : decide ((⟨s, xs⟩ : TAttr) = ⟨s', ys⟩) = (s == s' && decide (xs = ys)) := by simp [TAttr.mk.injEq, Bool.beq_eq_decide_eq]
 (refine fork_in ?_; repeat' (refine fork_eq ?_ ?_<;>intro _<;>try simp (disch := first|assumption|omega) only [S0,rA,rQ,rB,rT,rE,spec_l1Same,e, *]))
theorem impl_SameAttr (s s' : Int) (xs ys : List Int) (hx : xs.length <= 1099511627776) : Fun T 43 [i64 s, rL xs, i64 s', rL ys] = some [.bool (decide ((⟨s, xs⟩ : TAttr) = ⟨s', ys⟩))] := by
 rw [Fun_k (t := tm43) rfl]; unfold tm43
 have e : decide ((⟨s, xs⟩ : TAttr) = ⟨s', ys⟩) = (s == s' && decide (xs = ys)) := by simp [TAttr.mk.injEq, Bool.beq_eq_decide_eq]
 (refine fork_in ?_; repeat' (refine fork_eq ?_ ?_<;>intro _<;>try simp (disch := first|assumption|omega) only [S0,rA,rQ,rB,rT,rE,slices_Equal_int,e, *]))
theorem spec_l3None (n : Int) (hg : isGrp n = true) : Fun T 14 [i64 n] = some [i64 (none0 n).seq, rL (none0 n).deps] := by
 rw [Fun_k (t := tm14) rfl]; unfold tm14; unfold none0
 have hn := isGrp_rng hg
 (refine fork_in ?_; repeat' (refine fork_eq ?_ ?_<;>intro _<;>try simp (disch := first|assumption|omega) only [S0,rA,rQ,rB,rT,rE,S_make, *]))
theorem impl_noneAttr (n : Int) (hg : isGrp n = true) : Fun T 42 [i64 n] = some [i64 (none0 n).seq, rL (none0 n).deps] := by
 rw [Fun_k (t := tm42) rfl]; unfold tm42; unfold none0
 have hn := isGrp_rng hg
 (refine fork_in ?_; repeat' (refine fork_eq ?_ ?_<;>intro _<;>try simp (disch := first|assumption|omega) only [S0,rA,rQ,rB,rT,rE,S_make, *]))
theorem spec_l4Row (n bal vot sta k i f t a sq : Int) (xs : List Int) (hg : isGrp n = true) (hx : xs.length <= 1099511627776) :
  Fun T 13 [i64 n, i64 bal, i64 vot, i64 sta, i64 k, i64 i, i64 f, i64 t, i64 a, i64 sq, rL xs] = some [.bool (rowOk n ⟨bal, vot, sta, ⟨k, i, f, t, a⟩, ⟨sq, xs⟩⟩)] := by
 rw [Fun_k (t := tm13) rfl]; unfold tm13; unfold rowOk
 (refine fork_in ?_; repeat' (refine fork_eq ?_ ?_<;>intro _<;>try simp (disch := first|assumption|omega) only [S0,rA,rQ,rB,rT,rE,spec_l1In,S_eqs,spec_l3None,spec_SameAttr,spec_GoodCmd,spec_l3Attr, *]))
theorem impl_goodRow (n bal vot sta k i f t a sq : Int) (xs : List Int) (hg : isGrp n = true) (hx : xs.length <= 1099511627776) :
  Fun T 35 [i64 n, i64 bal, i64 vot, i64 sta, i64 k, i64 i, i64 f, i64 t, i64 a, i64 sq, rL xs] = some [.bool (rowOk n ⟨bal, vot, sta, ⟨k, i, f, t, a⟩, ⟨sq, xs⟩⟩)] := by
 rw [Fun_k (t := tm35) rfl]; unfold tm35; unfold rowOk
 have h1 := @cmdZ_ok ⟨k, i, f, t, a⟩
 have h2 := none0_ok hg
 have h3 : decide ((⟨sq, xs⟩ : TAttr) = none0 n) = true -> attrOk n ⟨sq, xs⟩ = true := fun h => by rw [of_decide_eq_true h]; exact h2
 (refine fork_in ?_; repeat' (refine fork_eq ?_ ?_<;>intro _<;>try simp (disch := first|assumption|omega) only [S0,rA,rQ,rB,rT,rE,impl_within,S_eqs,impl_noneAttr,impl_SameAttr,impl_GoodCmd,impl_GoodAttr, *]))
 all_goals (refine bool_fin ?_; simp only [Bool.and_eq_true, Bool.or_eq_true, Bool.not_eq_true', Bool.not_eq_false', Bool.and_eq_false_iff, Bool.or_eq_false_iff, Bool.false_eq_true, beq_iff_eq, beq_eq_false_iff_ne, decide_eq_true_eq, decide_eq_false_iff_not, ne_eq] at *; grind)
theorem slices_Clone_int (xs : List Int) (hx : xs.length <= 10000000000) : Fun T 34 [rL xs] = some [rL xs] := by
 rw [Fun_ext (e := ex34) rfl]
 cases xs with
 | nil => rfl
 | cons x xs =>
  show Fun (entTab [(34, .tm tm34)]) 34 [rL (x :: xs)] = _
  rw [Fun_k (t := tm34) rfl]
  unfold tm34
  have hx' : (x :: xs).length <= 100000000000 := by omega
  have h0 : (Prim.mk 1 0).run [] = some [.rows 1 []] := rfl
  have h1 : (x :: xs).isEmpty = false := rfl
  simp (disch := first | assumption | omega) only [SA, SB, SC, SP, SQ, SZ, reduceIte, reduceCtorEq, Nat.reduceAdd, Nat.reduceEqDiff, rL_ne, rL_emp, h0, h1, S_app]
theorem impl_Attr_copied (s : Int) (xs : List Int) (hx : xs.length <= 10000000000) : Fun T 33 [i64 s, rL xs] = some [i64 s, rL xs] := by
 rw [Fun_k (t := tm33) rfl]; unfold tm33
 (refine fork_in ?_; repeat' (refine fork_eq ?_ ?_<;>intro _<;>try simp (disch := first|assumption|omega) only [S0,rA,rQ,rB,rT,rE,slices_Clone_int, *]))
theorem impl_Msg_row (m_kind m_src m_dst m_rep m_no m_ballot m_vote m_state m_cmd_kind m_cmd_id m_cmd_src m_cmd_dst m_cmd_amt m_attr_seq : Int) (m_attr_deps : (List Int)) (hx : m_attr_deps.length <= 10000000000) : Fun T 32 [i64 m_kind, i64 m_src, i64 m_dst, i64 m_rep, i64 m_no, i64 m_ballot, i64 m_vote, i64 m_state, i64 m_cmd_kind, i64 m_cmd_id, i64 m_cmd_src, i64 m_cmd_dst, i64 m_cmd_amt, i64 m_attr_seq, rL m_attr_deps] = some [i64 m_ballot, i64 m_vote, i64 m_state, i64 m_cmd_kind, i64 m_cmd_id, i64 m_cmd_src, i64 m_cmd_dst, i64 m_cmd_amt, i64 m_attr_seq, rL m_attr_deps] := by
 rw [Fun_k (t := tm32) rfl]; unfold tm32
 (refine fork_in ?_; repeat' (refine fork_eq ?_ ?_<;>intro _<;>try simp (disch := first|assumption|omega) only [S0,rA,rQ,rB,rT,rE,impl_Attr_copied, *]))
theorem spec_GoodMsg (n : Int) (m_kind m_src m_dst m_rep m_no m_ballot m_vote m_state m_cmd_kind m_cmd_id m_cmd_src m_cmd_dst m_cmd_amt m_attr_seq : Int) (m_attr_deps : (List Int)) (hx : m_attr_deps.length <= 10000000000) : Fun T 9 [i64 n, i64 m_kind, i64 m_src, i64 m_dst, i64 m_rep, i64 m_no, i64 m_ballot, i64 m_vote, i64 m_state, i64 m_cmd_kind, i64 m_cmd_id, i64 m_cmd_src, i64 m_cmd_dst, i64 m_cmd_amt, i64 m_attr_seq, rL m_attr_deps] = some [.bool (msgOk n ⟨m_kind, m_src, m_dst, m_rep, m_no, m_ballot, m_vote, m_state, ⟨m_cmd_kind, m_cmd_id, m_cmd_src, m_cmd_dst, m_cmd_amt⟩, ⟨m_attr_seq, m_attr_deps⟩⟩)] := by
 rw [Fun_k (t := tm9) rfl]; unfold tm9; unfold msgOk
 have hx' : m_attr_deps.length <= 1099511627776 := by omega
 cases hg : isGrp n
 ·(refine fork_in ?_; repeat' (refine fork_eq ?_ ?_<;>intro _<;>try simp (disch := first|assumption|omega) only [S0,rA,rQ,rB,rT,rE,spec_IsGroup, *]))
 have hn := isGrp_rng hg
 (refine fork_in ?_; repeat' (refine fork_eq ?_ ?_<;>intro _<;>try simp (disch := first|assumption|omega) only [S0,rA,rQ,rB,rT,rE,spec_IsGroup,spec_l1In,spec_l3Inst,spec_l4Row,spec_l3Attr,spec_GoodCmd,S_eqs,spec_l3None,spec_SameAttr, *]))
 all_goals (refine bool_fin ?_; simp only [Bool.and_eq_true, Bool.or_eq_true, Bool.not_eq_true', Bool.not_eq_false', Bool.and_eq_false_iff, Bool.or_eq_false_iff, Bool.false_eq_true, beq_iff_eq, beq_eq_false_iff_ne, decide_eq_true_eq, decide_eq_false_iff_not, ne_eq] at *; grind)
theorem impl_GoodMsg (n : Int) (m_kind m_src m_dst m_rep m_no m_ballot m_vote m_state m_cmd_kind m_cmd_id m_cmd_src m_cmd_dst m_cmd_amt m_attr_seq : Int) (m_attr_deps : (List Int)) (hx : m_attr_deps.length <= 10000000000) : Fun T 28 [i64 n, i64 m_kind, i64 m_src, i64 m_dst, i64 m_rep, i64 m_no, i64 m_ballot, i64 m_vote, i64 m_state, i64 m_cmd_kind, i64 m_cmd_id, i64 m_cmd_src, i64 m_cmd_dst, i64 m_cmd_amt, i64 m_attr_seq, rL m_attr_deps] = some [.bool (msgOk n ⟨m_kind, m_src, m_dst, m_rep, m_no, m_ballot, m_vote, m_state, ⟨m_cmd_kind, m_cmd_id, m_cmd_src, m_cmd_dst, m_cmd_amt⟩, ⟨m_attr_seq, m_attr_deps⟩⟩)] := by
 rw [Fun_k (t := tm28) rfl]; unfold tm28; unfold msgOk
 have hx' : m_attr_deps.length <= 1099511627776 := by omega
 cases hg : isGrp n
 ·(refine fork_in ?_; repeat' (refine fork_eq ?_ ?_<;>intro _<;>try simp (disch := first|assumption|omega) only [S0,rA,rQ,rB,rT,rE,impl_isInstance,impl_within, *]))
 have hn := isGrp_rng hg
 have hk : inR m_kind 1 7 = true -> 1 <= m_kind /\ m_kind <= 7 := by simp [inR]
 (refine fork_in ?_; repeat' (refine fork_eq ?_ ?_<;>intro _<;>try simp (disch := first|assumption|omega) only [S0,rA,rQ,rB,rT,rE,impl_isInstance,impl_within,impl_Msg_row,impl_goodRow,impl_GoodAttr,impl_GoodCmd,S_eqs,impl_noneAttr,impl_SameAttr, *]))
 all_goals (refine bool_fin ?_; simp only [Bool.and_eq_true, Bool.or_eq_true, Bool.not_eq_true', Bool.not_eq_false', Bool.and_eq_false_iff, Bool.or_eq_false_iff, Bool.false_eq_true, beq_iff_eq, beq_eq_false_iff_ne, decide_eq_true_eq, decide_eq_false_iff_not, ne_eq] at *; grind)
theorem spec_l1Num : ∀ n : Nat, n <= 1000000 -> Fun T 23 [i64 n] = some [.str (numD n)] := by
 intro n
 induction n using Nat.strongRecOn with
 | _ n ih =>
  intro hn
  have hdig : ∀ k : Nat, k < 10 -> (Prim.conv .u8).run [i64 (48 + (k : Int))] = some [.int .u8 (48 + (k : Int))] /\ Prim.bstr.run [.rows 1 [[.int .u8 (48 + (k : Int))]]] = some [.str [UInt8.ofNat (48 + k)]] := by
   intro k hk
   constructor
   ·show some [D.int .u8 (IntKind.u8.wrap (48 + (k : Int)))] = _
    have : IntKind.u8.wrap (48 + (k : Int)) = 48 + (k : Int) := by simp [IntKind.wrap, IntKind.bits, IntKind.signed]; omega
    rw [this]
   ·show some [D.str [UInt8.ofNat (48 + (k : Int)).toNat]] = _
    rw [show (48 + (k : Int)).toNat = 48 + k by omega]
  have hmk : ∀ x : Int, (Prim.mk 1 1).run [.int .u8 x] = some [.rows 1 [[.int .u8 x]]] := fun _ => rfl
  rw [Fun_k (t := tm23) rfl]; unfold tm23
  by_cases h : n < 10
  ·have d : decide ((n : Int) < 10) = true := by simp; omega
   obtain ⟨e1, e2⟩ := hdig n h
   rw [numD_lt h]
   simp (disch := first|assumption|omega) only [S0,rA,rQ,rB,rT,rE, d, e1, hmk, e2]
  ·have d : decide ((n : Int) < 10) = false := by simp; omega
   have eq : (Prim.bin .quo).run [i64 n, i64 10] = some [i64 ((n / 10 : Nat) : Int)] := by
    show (if (10 : Int) = 0 then none else some (D.int .i64 (IntKind.i64.wrap ((n : Int).tdiv 10)))).map (fun d => [d]) = _
    rw [if_neg (by decide)]
    have : (n : Int).tdiv 10 = ((n / 10 : Nat) : Int) := by rw [Int.tdiv_eq_ediv_of_nonneg (by omega)]; omega
    rw [this, wrap_i64 (by omega) (by omega)]
    rfl
   have em : (Prim.bin .rem).run [i64 n, i64 10] = some [i64 ((n % 10 : Nat) : Int)] := by
    show (if (10 : Int) = 0 then none else some (D.int .i64 ((n : Int).tmod 10))).map (fun d => [d]) = _
    rw [if_neg (by decide)]
    have : (n : Int).tmod 10 = ((n % 10 : Nat) : Int) := by rw [Int.tmod_eq_emod_of_nonneg (by omega)]; omega
    rw [this]
    rfl
   have ei := ih (n / 10) (by omega) (by omega)
   obtain ⟨e1, e2⟩ := hdig (n % 10) (by omega)
   have hl := numD_len (n / 10)
   have ea := t_add (a := numD (n / 10)) (b := [UInt8.ofNat (48 + n % 10)]) (by simp only [List.length_cons, List.length_nil]; omega)
   rw [numD_ge (by omega)]
   simp (disch := first|assumption|omega) only [S0,rA,rQ,rB,rT,rE, d, eq, em, ei, e1, hmk, e2, ea]
theorem spec_l1NumT (n : Int) (h0 : 0 <= n) (h1 : n <= 9999) : Fun T 23 [i64 n] = some [.str (numT n)] := by
 have := spec_l1Num n.toNat (by omega)
 rw [show ((n.toNat : Nat) : Int) = n by omega] at this
 exact this
theorem spec_l2Text (k i f t a : Int) (h : cmdOk ⟨k, i, f, t, a⟩ = true) : Fun T 24 [i64 k, i64 i, i64 f, i64 t, i64 a] = some [.str (cmdT ⟨k, i, f, t, a⟩)] := by
 rw [Fun_k (t := tm24) rfl]; unfold tm24
 have hr := cmdOk_rng h
 simp only at hr
 obtain ⟨⟨i0, i1⟩, ⟨f0, f1⟩, ⟨t0, t1⟩, a0, a1⟩ := hr
 have li := numT_len i1
 have lf := numT_len f1
 have lt := numT_len t1
 have la := numT_len a1
 have ni := spec_l1NumT i i0 i1
 have nf := spec_l1NumT f f0 f1
 have nt := spec_l1NumT t t0 t1
 have na := spec_l1NumT a a0 a1
 have hk := cmdOk_kind h
 simp only at hk
 unfold cmdT
 rcases hk with rfl | rfl | rfl
 ·simp (disch := first|assumption|omega) only [S0,rA,rQ,rB,rT,rE]
 ·have g1 := t_add (a := [109, 111, 118, 101, 32]) (b := numT i) (by simp only [List.length_cons, List.length_nil]; omega)
  have g2 := t_add (a := [109, 111, 118, 101, 32] ++ numT i) (b := [32]) (by simp only [List.length_append, List.length_cons, List.length_nil]; omega)
  have g3 := t_add (a := [109, 111, 118, 101, 32] ++ numT i ++ [32]) (b := numT f) (by simp only [List.length_append, List.length_cons, List.length_nil]; omega)
  have g4 := t_add (a := [109, 111, 118, 101, 32] ++ numT i ++ [32] ++ numT f) (b := [32]) (by simp only [List.length_append, List.length_cons, List.length_nil]; omega)
  have g5 := t_add (a := [109, 111, 118, 101, 32] ++ numT i ++ [32] ++ numT f ++ [32]) (b := numT t) (by simp only [List.length_append, List.length_cons, List.length_nil]; omega)
  have g6 := t_add (a := [109, 111, 118, 101, 32] ++ numT i ++ [32] ++ numT f ++ [32] ++ numT t) (b := [32]) (by simp only [List.length_append, List.length_cons, List.length_nil]; omega)
  have g7 := t_add (a := [109, 111, 118, 101, 32] ++ numT i ++ [32] ++ numT f ++ [32] ++ numT t ++ [32]) (b := numT a) (by simp only [List.length_append, List.length_cons, List.length_nil]; omega)
  simp (disch := first|assumption|omega) only [S0,rA,rQ,rB,rT,rE, ni, nf, nt, na, g1, g2, g3, g4, g5, g6, g7]
 ·have g1 := t_add (a := [114, 101, 97, 100, 32]) (b := numT i) (by simp only [List.length_cons, List.length_nil]; omega)
  have g2 := t_add (a := [114, 101, 97, 100, 32] ++ numT i) (b := [32]) (by simp only [List.length_append, List.length_cons, List.length_nil]; omega)
  have g3 := t_add (a := [114, 101, 97, 100, 32] ++ numT i ++ [32]) (b := numT f) (by simp only [List.length_append, List.length_cons, List.length_nil]; omega)
  simp (disch := first|assumption|omega) only [S0,rA,rQ,rB,rT,rE, ni, nf, g1, g2, g3]
theorem spec_l3List (xs : List Int) (hr : ∀ x ∈ xs, 0 <= x /\ x <= 9999) (hx : xs.length <= 1000) : Fun T 26 [rL xs] = some [.str (joinB 44 (xs.map numT))] := by
 rw [Fun_k (t := tm26) rfl]; unfold tm26
 simp (disch := first|assumption|omega) only [S0,rA,rQ,rB,rT,rE]
 have hj : ∀ i : Nat, i <= xs.length -> (joinB 44 ((xs.take i).map numT)).length <= 10010000 := by
  intro i hi
  have := joinB_len (b := 44) (ws := (xs.take i).map numT) (by
   intro w hw
   obtain ⟨x, h1, rfl⟩ := List.mem_map.1 hw
   exact numT_len (hr x (List.mem_of_mem_take h1)).2)
  rw [List.length_map, List.length_take] at this
  omega
 rw [whileE (.yield 1, [.str (joinB 44 (xs.map numT))]) (fun i : Nat => xs.length - i) (fun i : Nat => i <= xs.length) (fun i => [.str (joinB 44 ((xs.take i).map numT)), i64 i]) 0 rfl (by simp) (by simp)]
 rotate_left
 ·intro i hi
  by_cases hlt : i < xs.length
  ·have d : decide ((i : Int) < (xs.length : Int)) = true := by simpa using hlt
   have hb : InB xs (i : Int) := InB_nat.2 hlt
   have hm := hr _ (at_mem hlt)
   have e := spec_l1NumT (atI xs (i : Int)) hm.1 hm.2
   have l1 := numT_len hm.2
   have l2 := hj i hi
   refine .inl ⟨i + 1, ?_, by omega, by omega⟩
   by_cases h0 : 0 < i
   ·have d0 : decide ((0 : Int) < (i : Int)) = true := by simpa using h0
    have g1 := t_add (a := joinB 44 ((xs.take i).map numT)) (b := [44]) (by simp only [List.length_cons, List.length_nil]; omega)
    have g2 := t_add (a := joinB 44 ((xs.take i).map numT) ++ [44]) (b := numT (atI xs (i : Int))) (by simp only [List.length_append, List.length_cons, List.length_nil]; omega)
    have e3 : joinB 44 ((xs.take i).map numT) ++ [44] ++ numT (atI xs (i : Int)) = joinB 44 ((xs.take (i + 1)).map numT) := by
     rw [<- take_at hlt, List.map_append]
     refine (joinB_snoc ?_).symm
     intro hn
     have := congrArg List.length hn
     simp only [List.length_map, List.length_take, List.length_nil] at this
     omega
    simp (disch := first|assumption|omega) only [S0,rA,rQ,rB,rT,rE, d, S_row, e, d0, g1, g2, e3]
   ·obtain rfl : i = 0 := by omega
    have d0 : decide ((0 : Int) < ((0 : Nat) : Int)) = false := rfl
    have g2 := t_add (a := joinB 44 ((xs.take 0).map numT)) (b := numT (atI xs ((0 : Nat) : Int))) (by omega)
    have e3 : joinB 44 ((xs.take 0).map numT) ++ numT (atI xs ((0 : Nat) : Int)) = joinB 44 ((xs.take (0 + 1)).map numT) := by
     rw [<- take_at hlt]
     simp [joinB]
    simp (disch := first|assumption|omega) only [S0,rA,rQ,rB,rT,rE, d, S_row, e, d0, g2, e3]
  ·have d : decide ((i : Int) < (xs.length : Int)) = false := by simpa using hlt
   obtain rfl : i = xs.length := by omega
   right
   rw [List.take_of_length_le (Nat.le_refl _)]
   simp (disch := first|assumption|omega) only [S0,rA,rQ,rB,rT,rE, d]
 ·simp (disch := first|assumption|omega) only [S0,rA,rQ,rB,rT,rE]
theorem spec_l3Text (sq : Int) (xs : List Int) (h0 : 0 <= sq) (h1 : sq <= 9999) (hr : ∀ x ∈ xs, 0 <= x /\ x <= 9999) (hx : xs.length <= 1000) : Fun T 25 [i64 sq, rL xs] = some [.str (attrT ⟨sq, xs⟩)] /\ (attrT ⟨sq, xs⟩).length <= 20000000 := by
 have l1 := numT_len h1
 have l2 : (joinB 44 (xs.map numT)).length <= 10001 * xs.length := by
  have := joinB_len (b := 44) (ws := xs.map numT) (by
   intro w hw
   obtain ⟨x, h1, rfl⟩ := List.mem_map.1 hw
   exact numT_len (hr x h1).2)
  rwa [List.length_map] at this
 refine ⟨?_, by simp only [attrT, List.length_append, List.length_cons]; omega⟩
 rw [Fun_k (t := tm25) rfl]; unfold tm25
 have e := spec_l1NumT sq h0 h1
 have e2 := spec_l3List xs hr hx
 have g1 := t_add (a := numT sq) (b := [58]) (by simp only [List.length_cons, List.length_nil]; omega)
 have g2 := t_add (a := numT sq ++ [58]) (b := joinB 44 (xs.map numT)) (by simp only [List.length_append, List.length_cons, List.length_nil]; omega)
 have e3 : numT sq ++ [58] ++ joinB 44 (xs.map numT) = attrT ⟨sq, xs⟩ := by simp [attrT]
 simp (disch := first|assumption|omega) only [S0,rA,rQ,rB,rT,rE, e, g1, e2, g2, e3]
theorem spec_l7Words : Fun T 22 [] = some [rL wordsM] := by
 rw [Fun_k (t := tm22) rfl]; unfold tm22
 have e : (Prim.mk 1 8).run [.str [], .str [112, 114, 101], .str [112, 114, 101, 111, 107], .str [97, 99, 99], .str [97, 99, 99, 111, 107], .str [99, 111, 109], .str [112, 114, 101, 112], .str [112, 114, 101, 112, 111, 107]] = some [rL wordsM] := rfl
 simp (disch := first|assumption|omega) only [S0,rA,rQ,rB,rT,rE, e]
theorem impl_msgWords : Fun T 46 [] = some [rL wordsM] := by
 rw [Fun_k (t := tm46) rfl]; unfold tm46
 have e : (Prim.mk 1 8).run [.str [], .str [112, 114, 101], .str [112, 114, 101, 111, 107], .str [97, 99, 99], .str [97, 99, 99, 111, 107], .str [99, 111, 109], .str [112, 114, 101, 112], .str [112, 114, 101, 112, 111, 107]] = some [rL wordsM] := rfl
 simp (disch := first|assumption|omega) only [S0,rA,rQ,rB,rT,rE, e]
theorem strconv_FormatInt (n : Int) (h0 : 0 <= n) (h1 : n <= 9999) : Fun T 51 [i64 n, i64 10] = some [.str (numT n)] := by
 rw [Fun_ext (e := fmtE) rfl]
 exact fmtE_num h0 h1
theorem strconv_Itoa0 (n : Int) (h0 : 0 <= n) (h1 : n <= 9999) : Fun T 50 [i64 n] = some [.str (numT n)] := by
 rw [Fun_k (t := tm50) rfl]; unfold tm50
 simp (disch := first|assumption|omega) only [S0,rA,rQ,rB,rT,rE, strconv_FormatInt]
theorem strconv_Itoa (n : Int) (h0 : 0 <= n) (h1 : n <= 9999) : Fun T 49 [i64 n] = some [.str (numT n)] := by
 rw [Fun_k (t := tm49) rfl]; unfold tm49
 simp (disch := first|assumption|omega) only [S0,rA,rQ,rB,rT,rE, strconv_Itoa0]
theorem strings_Join (xs : List (List UInt8)) (b : UInt8) (hne : xs ≠ []) (hl : xs.length <= 100000) (hw : ∀ w ∈ xs, w.length <= 10000) : Fun T 54 [rL xs, .str [b]] = some [.str (joinB b xs)] := by
 rw [Fun_ext (e := joinE) rfl]
 exact joinE_B hne hl hw
theorem impl_joined (xs : List Int) (b : UInt8) (hne : xs ≠ []) (hl : xs.length <= 1000) (hr : ∀ x ∈ xs, 0 <= x /\ x <= 9999) : Fun T 48 [.str [b], rL xs] = some [.str (joinB b (xs.map numT))] := by
 rw [Fun_k (t := tm48) rfl]; unfold tm48
 have em0 : (Prim.mk 1 0).run [] = some [rL ([] : List (List UInt8))] := rfl
 simp (disch := first|assumption|omega) only [S0,rA,rQ,rB,rT,rE, em0]
 rw [whileE (.yield 1, [rL (xs.map numT)]) (fun i : Nat => xs.length - i) (fun i : Nat => i <= xs.length) (fun i => [rL ((xs.take i).map numT), i64 i]) 0 rfl (by simp) (by simp)]
 rotate_left
 ·intro i hi
  by_cases hlt : i < xs.length
  ·have d : decide ((i : Int) < (xs.length : Int)) = true := by simpa using hlt
   have hb : InB xs (i : Int) := InB_nat.2 hlt
   have hm := hr _ (at_mem hlt)
   have e := strconv_Itoa (atI xs (i : Int)) hm.1 hm.2
   have z : ((xs.take i).map numT).length + ([numT (atI xs (i : Int))] : List (List UInt8)).length <= 100000000000 := by rw [List.length_map, List.length_take]; simp only [List.length_cons, List.length_nil]; omega
   have e3 : (xs.take i).map numT ++ [numT (atI xs (i : Int))] = (xs.take (i + 1)).map numT := by
    rw [<- take_at hlt]
    simp
   refine .inl ⟨i + 1, ?_, by omega, by omega⟩
   simp (disch := first|assumption|omega) only [S0,rA,rQ,rB,rT,rE, d, S_row, e, S_mk, S_app, e3]
  ·have d : decide ((i : Int) < (xs.length : Int)) = false := by simpa using hlt
   obtain rfl : i = xs.length := by omega
   right
   rw [List.take_of_length_le (Nat.le_refl _)]
   simp (disch := first|assumption|omega) only [S0,rA,rQ,rB,rT,rE, d]
 ·have ej := strings_Join (xs.map numT) b (by simpa using hne) (by rw [List.length_map]; omega) (by
   intro w hw
   obtain ⟨x, h1, rfl⟩ := List.mem_map.1 hw
   exact numT_len (hr x h1).2)
  simp (disch := first|assumption|omega) only [S0,rA,rQ,rB,rT,rE, ej]
theorem impl_spelled (xs : List Int) (hne : xs ≠ []) (hl : xs.length <= 1000) (hr : ∀ x ∈ xs, 0 <= x /\ x <= 9999) : Fun T 47 [rL xs] = some [.str (joinB 32 (xs.map numT))] := by
 rw [Fun_k (t := tm47) rfl]; unfold tm47
 have e := impl_joined xs 32 hne hl hr
 simp (disch := first|assumption|omega) only [S0,rA,rQ,rB,rT,rE, e]
theorem impl_attrText (sq : Int) (xs : List Int) (hne : xs ≠ []) (h0 : 0 <= sq) (h1 : sq <= 9999) (hr : ∀ x ∈ xs, 0 <= x /\ x <= 9999) (hx : xs.length <= 1000) : Fun T 60 [i64 sq, rL xs] = some [.str (attrT ⟨sq, xs⟩)] /\ (attrT ⟨sq, xs⟩).length <= 20000000 := by
 have l1 := numT_len h1
 have l2 : (joinB 44 (xs.map numT)).length <= 10001 * xs.length := by
  have := joinB_len (b := 44) (ws := xs.map numT) (by
   intro w hw
   obtain ⟨x, h1, rfl⟩ := List.mem_map.1 hw
   exact numT_len (hr x h1).2)
  rwa [List.length_map] at this
 refine ⟨?_, by simp only [attrT, List.length_append, List.length_cons]; omega⟩
 rw [Fun_k (t := tm60) rfl]; unfold tm60
 have e := strconv_Itoa sq h0 h1
 have e2 := impl_joined xs 44 hne hx hr
 have g1 := t_add (a := numT sq) (b := [58]) (by simp only [List.length_cons, List.length_nil]; omega)
 have g2 := t_add (a := numT sq ++ [58]) (b := joinB 44 (xs.map numT)) (by simp only [List.length_append, List.length_cons, List.length_nil]; omega)
 have e3 : numT sq ++ [58] ++ joinB 44 (xs.map numT) = attrT ⟨sq, xs⟩ := by simp [attrT]
 simp (disch := first|assumption|omega) only [S0,rA,rQ,rB,rT,rE, e, g1, e2, g2, e3]
theorem impl_cmdText (k i f t a : Int) (h : cmdOk ⟨k, i, f, t, a⟩ = true) : Fun T 59 [i64 k, i64 i, i64 f, i64 t, i64 a] = some [.str (cmdT ⟨k, i, f, t, a⟩)] := by
 rw [Fun_k (t := tm59) rfl]; unfold tm59
 have hr := cmdOk_rng h
 simp only at hr
 obtain ⟨⟨i0, i1⟩, ⟨f0, f1⟩, ⟨t0, t1⟩, a0, a1⟩ := hr
 have li := numT_len i1
 have lf := numT_len f1
 have lt := numT_len t1
 have la := numT_len a1
 have hk := cmdOk_kind h
 simp only at hk
 unfold cmdT
 rcases hk with rfl | rfl | rfl
 ·simp (disch := first|assumption|omega) only [S0,rA,rQ,rB,rT,rE]
 ·have e := impl_spelled [i, f, t, a] (by simp) (by simp) (by
   intro x hx
   simp only [List.mem_cons, List.not_mem_nil, or_false] at hx
   omega)
  have g1 := t_add (a := [109, 111, 118, 101, 32]) (b := joinB 32 ([i, f, t, a].map numT)) (by simp only [List.map_cons, List.map_nil, joinB, List.length_append, List.length_cons, List.length_nil]; omega)
  have e3 : [109, 111, 118, 101, 32] ++ joinB 32 ([i, f, t, a].map numT) = [109, 111, 118, 101, 32] ++ numT i ++ [32] ++ numT f ++ [32] ++ numT t ++ [32] ++ numT a := by simp [joinB]
  simp (disch := first|assumption|omega) only [S0,rA,rQ,rB,rT,rE, S_mk, e, g1, e3]
 ·have e := impl_spelled [i, f] (by simp) (by simp) (by
   intro x hx
   simp only [List.mem_cons, List.not_mem_nil, or_false] at hx
   omega)
  have g1 := t_add (a := [114, 101, 97, 100, 32]) (b := joinB 32 ([i, f].map numT)) (by simp only [List.map_cons, List.map_nil, joinB, List.length_append, List.length_cons, List.length_nil]; omega)
  have e3 : [114, 101, 97, 100, 32] ++ joinB 32 ([i, f].map numT) = [114, 101, 97, 100, 32] ++ numT i ++ [32] ++ numT f := by simp [joinB]
  simp (disch := first|assumption|omega) only [S0,rA,rQ,rB,rT,rE, S_mk, e, g1, e3]
theorem impl_msgText (n kd src dst rep no bal vot sta k i f t a sq : Int) (xs : List Int) (h : msgOk n ⟨kd, src, dst, rep, no, bal, vot, sta, ⟨k, i, f, t, a⟩, ⟨sq, xs⟩⟩ = true) : Fun T 45 [i64 kd, i64 src, i64 dst, i64 rep, i64 no, i64 bal, i64 vot, i64 sta, i64 k, i64 i, i64 f, i64 t, i64 a, i64 sq, rL xs] = some [.str (msgT ⟨kd, src, dst, rep, no, bal, vot, sta, ⟨k, i, f, t, a⟩, ⟨sq, xs⟩⟩)] := by
 rw [Fun_k (t := tm45) rfl]; unfold tm45
 obtain ⟨hg, hk, hn, hc, ha⟩ := msgOk_rng h
 have hgr := isGrp_rng hg
 have h4 := attrOk_rng ha
 simp only at hk hc h4
 have hne : xs ≠ [] := by
  intro e
  rw [e] at h4
  simp only [List.length_nil] at h4
  omega
 have hb : InB wordsM kd := by
  have hl : wordsM.length = 8 := rfl
  unfold InB
  omega
 have hw := word_len hb
 have e0 := impl_spelled [src, dst, rep, no, bal, vot, sta] (by simp) (by simp) hn
 have ec := impl_cmdText k i f t a hc
 obtain ⟨ea, la⟩ := impl_attrText sq xs hne h4.1 (by omega) (fun x hx => ⟨(h4.2.2.2 x hx).1, by have := (h4.2.2.2 x hx).2; omega⟩) (by omega)
 have lc := cmdT_len hc
 have lA := joinB_len (b := 32) (ws := [src, dst, rep, no, bal, vot, sta].map numT) (by
  intro w hw
  obtain ⟨x, h1, rfl⟩ := List.mem_map.1 hw
  exact numT_len (hn x h1).2)
 have hjf := join_flat (xs := [src, dst, rep, no, bal, vot, sta]) (by simp)
 have hfin : atI wordsM kd ++ [32] ++ joinB 32 ([src, dst, rep, no, bal, vot, sta].map numT) ++ [124] ++ cmdT ⟨k, i, f, t, a⟩ ++ [124] ++ attrT ⟨sq, xs⟩ = msgT ⟨kd, src, dst, rep, no, bal, vot, sta, ⟨k, i, f, t, a⟩, ⟨sq, xs⟩⟩ := by
  unfold msgT msgNs
  rw [List.append_assoc (atI wordsM kd), hjf]
 have emk : (Prim.mk 1 7).run [i64 src, i64 dst, i64 rep, i64 no, i64 bal, i64 vot, i64 sta] = some [rL [src, dst, rep, no, bal, vot, sta]] := S_mk.2.2.2.2.2.1
 rw [List.length_map, show [src, dst, rep, no, bal, vot, sta].length = 7 from rfl] at lA
 generalize joinB 32 ([src, dst, rep, no, bal, vot, sta].map numT) = J at *
 generalize hW : atI wordsM kd = W at *
 have g0 := t_add (a := W) (b := [32]) (by simp only [List.length_cons, List.length_nil]; omega)
 have g1 := t_add (a := W ++ [32]) (b := J) (by simp only [List.length_append, List.length_cons, List.length_nil]; omega)
 have g2 := t_add (a := W ++ [32] ++ J) (b := [124]) (by simp only [List.length_append, List.length_cons, List.length_nil]; omega)
 have g3 := t_add (a := W ++ [32] ++ J ++ [124]) (b := cmdT ⟨k, i, f, t, a⟩) (by simp only [List.length_append, List.length_cons, List.length_nil]; omega)
 have g4 := t_add (a := W ++ [32] ++ J ++ [124] ++ cmdT ⟨k, i, f, t, a⟩) (b := [124]) (by simp only [List.length_append, List.length_cons, List.length_nil]; omega)
 have g5 := t_add (a := W ++ [32] ++ J ++ [124] ++ cmdT ⟨k, i, f, t, a⟩ ++ [124]) (b := attrT ⟨sq, xs⟩) (by simp only [List.length_append, List.length_cons, List.length_nil]; omega)
 simp (disch := first|assumption|omega) only [S0,rA,rQ,rB,rT,rE, impl_msgWords, S_row, hW, g0, emk, e0, g1, g2, ec, g3, g4, ea, g5, hfin]
theorem impl_MsgText (n kd src dst rep no bal vot sta k i f t a sq : Int) (xs : List Int) (hx : xs.length <= 10000000000) : Fun T 27 [i64 n, i64 kd, i64 src, i64 dst, i64 rep, i64 no, i64 bal, i64 vot, i64 sta, i64 k, i64 i, i64 f, i64 t, i64 a, i64 sq, rL xs] = some [.str (msgR n ⟨kd, src, dst, rep, no, bal, vot, sta, ⟨k, i, f, t, a⟩, ⟨sq, xs⟩⟩).1, .bool (msgR n ⟨kd, src, dst, rep, no, bal, vot, sta, ⟨k, i, f, t, a⟩, ⟨sq, xs⟩⟩).2] := by
 rw [Fun_k (t := tm27) rfl]; unfold tm27
 unfold msgR
 have eg := impl_GoodMsg n kd src dst rep no bal vot sta k i f t a sq xs hx
 cases h : msgOk n ⟨kd, src, dst, rep, no, bal, vot, sta, ⟨k, i, f, t, a⟩, ⟨sq, xs⟩⟩
 ·simp (disch := first|assumption|omega) only [S0,rA,rQ,rB,rT,rE, eg, h]
 ·have e := impl_msgText n kd src dst rep no bal vot sta k i f t a sq xs h
  simp (disch := first|assumption|omega) only [S0,rA,rQ,rB,rT,rE, eg, h, e]
theorem spec_MsgText (n kd src dst rep no bal vot sta k i f t a sq : Int) (xs : List Int) (hx : xs.length <= 10000000000) : Fun T 8 [i64 n, i64 kd, i64 src, i64 dst, i64 rep, i64 no, i64 bal, i64 vot, i64 sta, i64 k, i64 i, i64 f, i64 t, i64 a, i64 sq, rL xs] = some [.str (msgR n ⟨kd, src, dst, rep, no, bal, vot, sta, ⟨k, i, f, t, a⟩, ⟨sq, xs⟩⟩).1, .bool (msgR n ⟨kd, src, dst, rep, no, bal, vot, sta, ⟨k, i, f, t, a⟩, ⟨sq, xs⟩⟩).2] := by
 rw [Fun_k (t := tm8) rfl]; unfold tm8
 unfold msgR
 have eg := spec_GoodMsg n kd src dst rep no bal vot sta k i f t a sq xs hx
 cases h : msgOk n ⟨kd, src, dst, rep, no, bal, vot, sta, ⟨k, i, f, t, a⟩, ⟨sq, xs⟩⟩
 ·simp (disch := first|assumption|omega) only [S0,rA,rQ,rB,rT,rE, eg, h]
 obtain ⟨hg, hk, hn, hc, ha⟩ := msgOk_rng h
 have hgr := isGrp_rng hg
 have h4 := attrOk_rng ha
 simp only at hk hc h4
 have hb : InB wordsM kd := by
  have hl : wordsM.length = 8 := rfl
  unfold InB
  omega
 have hw := word_len hb
 have ec := spec_l2Text k i f t a hc
 obtain ⟨ea, la⟩ := spec_l3Text sq xs h4.1 (by omega) (fun x hx => ⟨(h4.2.2.2 x hx).1, by have := (h4.2.2.2 x hx).2; omega⟩) (by omega)
 have lc := cmdT_len hc
 have emk : (Prim.mk 1 7).run [i64 src, i64 dst, i64 rep, i64 no, i64 bal, i64 vot, i64 sta] = some [rL [src, dst, rep, no, bal, vot, sta]] := S_mk.2.2.2.2.2.1
 have hfin : atI wordsM kd ++ [src, dst, rep, no, bal, vot, sta].flatMap (fun x => 32 :: numT x) ++ [124] ++ cmdT ⟨k, i, f, t, a⟩ ++ [124] ++ attrT ⟨sq, xs⟩ = msgT ⟨kd, src, dst, rep, no, bal, vot, sta, ⟨k, i, f, t, a⟩, ⟨sq, xs⟩⟩ := rfl
 simp only [if_true]
 have hL : [src, dst, rep, no, bal, vot, sta].length = 7 := rfl
 change ∀ x ∈ [src, dst, rep, no, bal, vot, sta], _ at hn
 generalize [src, dst, rep, no, bal, vot, sta] = L at *
 generalize hW : atI wordsM kd = W at *
 simp (disch := first|assumption|omega) only [S0,rA,rQ,rB,rT,rE, eg, h, spec_l7Words, S_row, hW, emk]
 have hj : ∀ j : Nat, j <= L.length -> (W ++ (L.take j).flatMap (fun x => 32 :: numT x)).length <= 6 + 10001 * 7 := by
  intro j hj
  have := flat_len (xs := L.take j) (fun x hx => hn x (List.mem_of_mem_take hx))
  rw [List.length_take] at this
  rw [List.length_append]
  omega
 rw [whileE (.yield 1, [.str (W ++ L.flatMap (fun x => 32 :: numT x))]) (fun j : Nat => L.length - j) (fun j : Nat => j <= L.length) (fun j => [.str (W ++ (L.take j).flatMap (fun x => 32 :: numT x)), i64 j]) 0 (by simp [Atom.val]) (by simp) (by simp)]
 rotate_left
 ·intro j hjl
  by_cases hlt : j < L.length
  ·have d : decide ((j : Int) < (L.length : Int)) = true := by simpa using hlt
   have hb : InB L (j : Int) := InB_nat.2 hlt
   have hm := hn _ (at_mem hlt)
   have e := spec_l1NumT (atI L (j : Int)) hm.1 hm.2
   have l1 := numT_len hm.2
   have l2 := hj j hjl
   have e9 : ([32] ++ numT (atI L (j : Int))).length = (numT (atI L (j : Int))).length + 1 := by simp
   have g1 := t_add (a := [32]) (b := numT (atI L (j : Int))) (by simp only [List.length_cons, List.length_nil]; omega)
   have g2 := t_add (a := W ++ (L.take j).flatMap (fun x => 32 :: numT x)) (b := [32] ++ numT (atI L (j : Int))) (by omega)
   have e3 : W ++ (L.take j).flatMap (fun x => 32 :: numT x) ++ ([32] ++ numT (atI L (j : Int))) = W ++ (L.take (j + 1)).flatMap (fun x => 32 :: numT x) := by
    rw [<- take_at hlt]
    simp
   refine .inl ⟨j + 1, ?_, by omega, by omega⟩
   simp (disch := first|assumption|omega) only [S0,rA,rQ,rB,rT,rE, d, S_row, e, g1, g2, e3]
  ·have d : decide ((j : Int) < (L.length : Int)) = false := by simpa using hlt
   obtain rfl : j = L.length := by omega
   right
   rw [List.take_of_length_le (Nat.le_refl _)]
   simp (disch := first|assumption|omega) only [S0,rA,rQ,rB,rT,rE, d]
 ·have lF := hj L.length (Nat.le_refl _)
  rw [List.take_of_length_le (Nat.le_refl _)] at lF
  generalize W ++ L.flatMap (fun x => 32 :: numT x) = B at *
  have g1 := t_add (a := B) (b := [124]) (by simp only [List.length_cons, List.length_nil]; omega)
  have g2 := t_add (a := B ++ [124]) (b := cmdT ⟨k, i, f, t, a⟩) (by simp only [List.length_append, List.length_cons, List.length_nil]; omega)
  have g3 := t_add (a := B ++ [124] ++ cmdT ⟨k, i, f, t, a⟩) (b := [124]) (by simp only [List.length_append, List.length_cons, List.length_nil]; omega)
  have g4 := t_add (a := B ++ [124] ++ cmdT ⟨k, i, f, t, a⟩ ++ [124]) (b := attrT ⟨sq, xs⟩) (by simp only [List.length_append, List.length_cons, List.length_nil]; omega)
  simp (disch := first|assumption|omega) only [S0,rA,rQ,rB,rT,rE, g1, ec, g2, g3, ea, g4, hfin]
theorem law (n : Int) (m_kind m_src m_dst m_rep m_no m_ballot m_vote m_state m_cmd_kind m_cmd_id m_cmd_src m_cmd_dst m_cmd_amt m_attr_seq : Int) (m_attr_deps : (List Int)) (hw_m : wf_TMsg ⟨m_kind, m_src, m_dst, m_rep, m_no, m_ballot, m_vote, m_state, ⟨m_cmd_kind, m_cmd_id, m_cmd_src, m_cmd_dst, m_cmd_amt⟩, ⟨m_attr_seq, m_attr_deps⟩⟩) : Fun T 0 [i64 n, i64 m_kind, i64 m_src, i64 m_dst, i64 m_rep, i64 m_no, i64 m_ballot, i64 m_vote, i64 m_state, i64 m_cmd_kind, i64 m_cmd_id, i64 m_cmd_src, i64 m_cmd_dst, i64 m_cmd_amt, i64 m_attr_seq, rL m_attr_deps] = some [.bool true] := by
 rw [Fun_k (t := tm0) rfl]; unfold tm0
 by_cases c_m : ((sz_TMsg ⟨m_kind, m_src, m_dst, m_rep, m_no, m_ballot, m_vote, m_state, ⟨m_cmd_kind, m_cmd_id, m_cmd_src, m_cmd_dst, m_cmd_amt⟩, ⟨m_attr_seq, m_attr_deps⟩⟩ : Nat) : Int) <= 1048576
 rotate_left
 ·have e : szR (1048576) (sz_TMsg ⟨m_kind, m_src, m_dst, m_rep, m_no, m_ballot, m_vote, m_state, ⟨m_cmd_kind, m_cmd_id, m_cmd_src, m_cmd_dst, m_cmd_amt⟩, ⟨m_attr_seq, m_attr_deps⟩⟩) = -1 := if_neg c_m
  (refine fork_in ?_; repeat' (refine fork_eq ?_ ?_<;>intro _<;>try simp (disch := first|assumption|omega) only [S0,rA,rQ,rB,rT,rE,lsz_TMsg,lt0,ltm1, *]))
 have e_m : szR (1048576) (sz_TMsg ⟨m_kind, m_src, m_dst, m_rep, m_no, m_ballot, m_vote, m_state, ⟨m_cmd_kind, m_cmd_id, m_cmd_src, m_cmd_dst, m_cmd_amt⟩, ⟨m_attr_seq, m_attr_deps⟩⟩) = 1048576 - ((sz_TMsg ⟨m_kind, m_src, m_dst, m_rep, m_no, m_ballot, m_vote, m_state, ⟨m_cmd_kind, m_cmd_id, m_cmd_src, m_cmd_dst, m_cmd_amt⟩, ⟨m_attr_seq, m_attr_deps⟩⟩ : Nat) : Int) := if_pos c_m
 have s1_m : sz_TMsg ⟨m_kind, m_src, m_dst, m_rep, m_no, m_ballot, m_vote, m_state, ⟨m_cmd_kind, m_cmd_id, m_cmd_src, m_cmd_dst, m_cmd_amt⟩, ⟨m_attr_seq, m_attr_deps⟩⟩ <= 1048576 := by omega
 have s2_m : sz_TMsg ⟨m_kind, m_src, m_dst, m_rep, m_no, m_ballot, m_vote, m_state, ⟨m_cmd_kind, m_cmd_id, m_cmd_src, m_cmd_dst, m_cmd_amt⟩, ⟨m_attr_seq, m_attr_deps⟩⟩ <= 1099511627776 := by omega
 have szu_m := s1_m
 rw [szu_TMsg] at szu_m
 simp only at szu_m
 have m1_m_attr_deps : m_attr_deps.length <= 1099511627776 := by first | omega | (have h := s2_m; rw [szL_zero] at h; exact h)
 have m2_m_attr_deps : ctL (fun _ => 1) m_attr_deps <= 1125899906842624 := by have := ctL_le (c := (fun _ => 1)) (f := (fun _ => 0)) (m := 16) (by omega) (fun _ => by simp) m_attr_deps; simp only [szL_zero] at *; omega
 (refine fork_in ?_; repeat' (refine fork_eq ?_ ?_<;>intro _<;>try simp (disch := first|assumption|omega) only [S0,rA,rQ,rB,rT,rE,lsz_TMsg,lto_TMsg,spec_MsgText,impl_MsgText,leq_TMsg,lt0,ltm1,t_ne, *]))
theorem hpure : ∀ ds, WTs [.int .i64, .int .i64, .int .i64, .int .i64, .int .i64, .int .i64, .int .i64, .int .i64, .int .i64, .int .i64, .int .i64, .int .i64, .int .i64, .int .i64, .int .i64, .sl 8 [.int .i64]] ds -> ∃ n, callN T n 0 ds = some [.bool true] := by
 intro ds h
 simp only [WTs] at h
 obtain ⟨d0, r0, rfl, w0, d1, r1, rfl, w1, d2, r2, rfl, w2, d3, r3, rfl, w3, d4, r4, rfl, w4, d5, r5, rfl, w5, d6, r6, rfl, w6, d7, r7, rfl, w7, d8, r8, rfl, w8, d9, r9, rfl, w9, d10, r10, rfl, w10, d11, r11, rfl, w11, d12, r12, rfl, w12, d13, r13, rfl, w13, d14, r14, rfl, w14, d15, r15, rfl, w15, rfl⟩ := h
 obtain ⟨n, rfl, hn1, hn2⟩ := WT_int w0
 obtain ⟨m, e_m, hw_m⟩ := dec_TMsg [d1, d2, d3, d4, d5, d6, d7, d8, d9, d10, d11, d12, d13, d14, d15] (by simp only [WTs]; exact ⟨_, _, rfl, w1, _, _, rfl, w2, _, _, rfl, w3, _, _, rfl, w4, _, _, rfl, w5, _, _, rfl, w6, _, _, rfl, w7, _, _, rfl, w8, _, _, rfl, w9, _, _, rfl, w10, _, _, rfl, w11, _, _, rfl, w12, _, _, rfl, w13, _, _, rfl, w14, _, _, rfl, w15, rfl⟩)
 simp only [Enc.enc, List.cons.injEq, and_true] at e_m
 obtain ⟨rfl, rfl, rfl, rfl, rfl, rfl, rfl, rfl, rfl, rfl, rfl, rfl, rfl, rfl, rfl⟩ := e_m
 exact pure_of (law n (m.kind) (m.src) (m.dst) (m.rep) (m.no) (m.ballot) (m.vote) (m.state) (m.cmd.kind) (m.cmd.id) (m.cmd.src) (m.cmd.dst) (m.cmd.amt) (m.attr.seq) (m.attr.deps) hw_m)
end FnExactMsgText
end Go.Proofs.YtnlhnfifkninpaaDoor
