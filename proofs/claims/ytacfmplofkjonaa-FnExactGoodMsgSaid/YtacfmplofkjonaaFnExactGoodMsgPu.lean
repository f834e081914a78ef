/- What the terms of FnExactGoodMsg come to. -/
import Derived.Test.YtacfmplofkjonaaFnExactGoodMsgTab
namespace Go.Proofs.Ytacfmplofkjonaa
namespace FnExactGoodMsg
open Go Go.Proofs.Ytacfmplofkjonaa.Rf
set_option linter.unusedSimpArgs false
set_option linter.unusedVariables false
set_option linter.unnecessarySimpa false
set_option maxHeartbeats 4000000
set_option maxRecDepth 10000
theorem lto_TCmd (x_kind x_id x_src x_dst x_amt : Int) : Fun T 5 [i64 x_kind, i64 x_id, i64 x_src, i64 x_dst, i64 x_amt] = some [i64 x_kind, i64 x_id, i64 x_src, i64 x_dst, i64 x_amt] := by
  rw [Fun_k (t := tm5) rfl]; unfold tm5
  simp (disch := first | assumption | omega) only [SA, SB, SC, SP, SQ, SZ, reduceIte, reduceCtorEq, Nat.reduceAdd, Nat.reduceEqDiff, beq_self_eq_true, S_eta, *] <;> repeat' (refine fork_eq (fun _ => ?_) (fun _ => ?_) <;> try simp (disch := first | assumption | omega) only [SA, SB, SC, SP, SQ, SZ, reduceIte, reduceCtorEq, Nat.reduceAdd, Nat.reduceEqDiff, beq_self_eq_true, S_eta, *])
theorem leq_TCmd (x_kind x_id x_src x_dst x_amt : Int) (y_kind y_id y_src y_dst y_amt : Int) : Fun T 39 [i64 x_kind, i64 x_id, i64 x_src, i64 x_dst, i64 x_amt, i64 y_kind, i64 y_id, i64 y_src, i64 y_dst, i64 y_amt] = some [.bool (decide ((⟨x_kind, x_id, x_src, x_dst, x_amt⟩ : TCmd) = ⟨y_kind, y_id, y_src, y_dst, y_amt⟩))] := by
  rw [Fun_k (t := tm39) rfl]; unfold tm39
  have e : decide ((⟨x_kind, x_id, x_src, x_dst, x_amt⟩ : TCmd) = ⟨y_kind, y_id, y_src, y_dst, y_amt⟩) = ((x_kind == y_kind) && (x_id == y_id) && (x_src == y_src) && (x_dst == y_dst) && (x_amt == y_amt)) := by
    simp only [TCmd.mk.injEq, Bool.beq_eq_decide_eq, Bool.decide_and, Bool.and_assoc]
  rw [e]
  simp (disch := first | assumption | omega) only [SA, SB, SC, SP, SQ, SZ, reduceIte, reduceCtorEq, Nat.reduceAdd, Nat.reduceEqDiff, beq_self_eq_true, S_eta, *] <;> repeat' (refine fork_eq (fun _ => ?_) (fun _ => ?_) <;> try simp (disch := first | assumption | omega) only [SA, SB, SC, SP, SQ, SZ, reduceIte, reduceCtorEq, Nat.reduceAdd, Nat.reduceEqDiff, beq_self_eq_true, S_eta, *])
theorem lsz_LI (xs : (List Int)) (l : Int) (h0 : 0 ≤ l) (h1 : l ≤ 1048576) (hw : xs.length ≤ 140737488351232) : Fun T 3 [rL xs, i64 l] = some [i64 (szR l (szL (fun _ => 0) xs))] := by
  rw [Fun_k (t := tm3) rfl]; unfold tm3
  have es : szL (fun _ => 0) xs = xs.length := szL_zero
  rw [es]
  by_cases c : (xs.length : Int) ≤ l
  · have e : szR l xs.length = l - xs.length := if_pos c
    have d : decide (l - (xs.length : Int) < 0) = false := by simp; omega
    simp (disch := first | assumption | omega) only [SA, SB, SC, SP, SQ, SZ, reduceIte, reduceCtorEq, Nat.reduceAdd, Nat.reduceEqDiff, beq_self_eq_true, S_eta, *] <;> repeat' (refine fork_eq (fun _ => ?_) (fun _ => ?_) <;> try simp (disch := first | assumption | omega) only [SA, SB, SC, SP, SQ, SZ, reduceIte, reduceCtorEq, Nat.reduceAdd, Nat.reduceEqDiff, beq_self_eq_true, S_eta, *])
  · have e : szR l xs.length = -1 := if_neg c
    have d : decide (l - (xs.length : Int) < 0) = true := by simp; omega
    simp (disch := first | assumption | omega) only [SA, SB, SC, SP, SQ, SZ, reduceIte, reduceCtorEq, Nat.reduceAdd, Nat.reduceEqDiff, beq_self_eq_true, S_eta, *] <;> repeat' (refine fork_eq (fun _ => ?_) (fun _ => ?_) <;> try simp (disch := first | assumption | omega) only [SA, SB, SC, SP, SQ, SZ, reduceIte, reduceCtorEq, Nat.reduceAdd, Nat.reduceEqDiff, beq_self_eq_true, S_eta, *])
theorem lto_LI (xs : (List Int)) (hs : szL (fun _ => 0) xs ≤ 1048576) : Fun T 7 [rL xs] = some [rL xs] := by
  rw [Fun_k (t := tm7) rfl]; unfold tm7
  have hl : xs.length ≤ 1048576 := Nat.le_trans szL_len hs
  simp (disch := first | assumption | omega) only [SA, SB, SC, SP, SQ, SZ, reduceIte, reduceCtorEq, Nat.reduceAdd, Nat.reduceEqDiff, beq_self_eq_true, S_eta, S_make, Int.toNat_natCast, *]
  rw [toLoop xs rfl]
  · simp (disch := first | assumption | omega) only [SA, SB, SC, SP, SQ, SZ, reduceIte, reduceCtorEq, Nat.reduceAdd, Nat.reduceEqDiff, beq_self_eq_true, S_eta, *] <;> repeat' (refine fork_eq (fun _ => ?_) (fun _ => ?_) <;> try simp (disch := first | assumption | omega) only [SA, SB, SC, SP, SQ, SZ, reduceIte, reduceCtorEq, Nat.reduceAdd, Nat.reduceEqDiff, beq_self_eq_true, S_eta, *])
  · intro i ys hi hb hb' hl'
    simp (disch := first | assumption | omega) only [SA, SB, SC, SP, SQ, SZ, reduceIte, reduceCtorEq, Nat.reduceAdd, Nat.reduceEqDiff, beq_self_eq_true, S_eta, S_row, S_set, *] <;> repeat' (refine fork_eq (fun _ => ?_) (fun _ => ?_) <;> try simp (disch := first | assumption | omega) only [SA, SB, SC, SP, SQ, SZ, reduceIte, reduceCtorEq, Nat.reduceAdd, Nat.reduceEqDiff, beq_self_eq_true, S_eta, S_row, S_set, *])
  · intro ys hl'
    simp (disch := first | assumption | omega) only [SA, SB, SC, SP, SQ, SZ, reduceIte, reduceCtorEq, Nat.reduceAdd, Nat.reduceEqDiff, beq_self_eq_true, S_eta, *] <;> repeat' (refine fork_eq (fun _ => ?_) (fun _ => ?_) <;> try simp (disch := first | assumption | omega) only [SA, SB, SC, SP, SQ, SZ, reduceIte, reduceCtorEq, Nat.reduceAdd, Nat.reduceEqDiff, beq_self_eq_true, S_eta, *])
theorem leq_LI (xs ys : (List Int)) (hs : szL (fun _ => 0) xs ≤ 1099511627776) : Fun T 41 [rL xs, rL ys] = some [.bool (decide (xs = ys))] := by
  rw [Fun_k (t := tm41) rfl]; unfold tm41
  have hx : xs.length ≤ 1099511627776 := Nat.le_trans szL_len hs
  by_cases hl : ys.length = xs.length
  · simp (disch := first | assumption | omega) only [SA, SB, SC, SP, SQ, SZ, reduceIte, reduceCtorEq, Nat.reduceAdd, Nat.reduceEqDiff, beq_self_eq_true, S_eta, *]
    rw [scanX 1 xs.length (fun i => decide (atI xs i = atI ys i)) [.bool false], allB_eq hl.symm]
    · simp (disch := first | assumption | omega) only [SA, SB, SC, SP, SQ, SZ, reduceIte, reduceCtorEq, Nat.reduceAdd, Nat.reduceEqDiff, beq_self_eq_true, S_eta, *] <;> repeat' (refine fork_eq (fun _ => ?_) (fun _ => ?_) <;> try simp (disch := first | assumption | omega) only [SA, SB, SC, SP, SQ, SZ, reduceIte, reduceCtorEq, Nat.reduceAdd, Nat.reduceEqDiff, beq_self_eq_true, S_eta, *])
    · intro i hi hp
      have hb : InB xs (i : Int) := InB_nat.2 hi
      have hb' : InB ys (i : Int) := InB_nat.2 (by omega)
      have h2 : decide ((i : Int) < xs.length) = true := by simp; omega
      have h3 : (atI xs i == atI ys i) = true := by simpa using hp
      simp (disch := first | assumption | omega) only [SA, SB, SC, SP, SQ, SZ, reduceIte, reduceCtorEq, Nat.reduceAdd, Nat.reduceEqDiff, beq_self_eq_true, S_eta, S_row, *] <;> repeat' (refine fork_eq (fun _ => ?_) (fun _ => ?_) <;> try simp (disch := first | assumption | omega) only [SA, SB, SC, SP, SQ, SZ, reduceIte, reduceCtorEq, Nat.reduceAdd, Nat.reduceEqDiff, beq_self_eq_true, S_eta, S_row, *])
    · intro i hi hp
      have hb : InB xs (i : Int) := InB_nat.2 hi
      have hb' : InB ys (i : Int) := InB_nat.2 (by omega)
      have h2 : decide ((i : Int) < xs.length) = true := by simp; omega
      have h3 : (atI xs i == atI ys i) = false := by simpa using hp
      simp (disch := first | assumption | omega) only [SA, SB, SC, SP, SQ, SZ, reduceIte, reduceCtorEq, Nat.reduceAdd, Nat.reduceEqDiff, beq_self_eq_true, S_eta, S_row, *] <;> repeat' (refine fork_eq (fun _ => ?_) (fun _ => ?_) <;> try simp (disch := first | assumption | omega) only [SA, SB, SC, SP, SQ, SZ, reduceIte, reduceCtorEq, Nat.reduceAdd, Nat.reduceEqDiff, beq_self_eq_true, S_eta, S_row, *])
    · have h2 : decide ((xs.length : Int) < xs.length) = false := by simp
      simp (disch := first | assumption | omega) only [SA, SB, SC, SP, SQ, SZ, reduceIte, reduceCtorEq, Nat.reduceAdd, Nat.reduceEqDiff, beq_self_eq_true, S_eta, *] <;> repeat' (refine fork_eq (fun _ => ?_) (fun _ => ?_) <;> try simp (disch := first | assumption | omega) only [SA, SB, SC, SP, SQ, SZ, reduceIte, reduceCtorEq, Nat.reduceAdd, Nat.reduceEqDiff, beq_self_eq_true, S_eta, *])
  · have hl' : ((xs.length : Int) == (ys.length : Int)) = false := by simp; omega
    have e := eq_len (fun h => hl h.symm)
    simp (disch := first | assumption | omega) only [SA, SB, SC, SP, SQ, SZ, reduceIte, reduceCtorEq, Nat.reduceAdd, Nat.reduceEqDiff, beq_self_eq_true, S_eta, *] <;> repeat' (refine fork_eq (fun _ => ?_) (fun _ => ?_) <;> try simp (disch := first | assumption | omega) only [SA, SB, SC, SP, SQ, SZ, reduceIte, reduceCtorEq, Nat.reduceAdd, Nat.reduceEqDiff, beq_self_eq_true, S_eta, *])
theorem lsz_TAttr (x_seq : Int) (x_deps : (List Int)) (l : Int) (h0 : 0 ≤ l) (h1 : l ≤ 1048576) (hw : wf_TAttr ⟨x_seq, x_deps⟩) : Fun T 2 [i64 x_seq, rL x_deps, i64 l] = some [i64 (szR l (sz_TAttr ⟨x_seq, x_deps⟩))] := by
  rw [Fun_k (t := tm2) rfl]; unfold tm2
  unfold wf_TAttr at hw
  simp only at hw
  have w0 := hw
  by_cases c0 : ((szL (fun _ => 0) x_deps : Nat) : Int) ≤ l
  rotate_left
  · have e0 : szR (l) (szL (fun _ => 0) x_deps) = -1 := if_neg c0
    have d0 : decide ((-1 : Int) < 0) = true := rfl
    have e : szR l (sz_TAttr ⟨x_seq, x_deps⟩) = -1 := by unfold szR sz_TAttr; simp only []; split <;> omega
    simp (disch := first | assumption | omega) only [SA, SB, SC, SP, SQ, SZ, reduceIte, reduceCtorEq, Nat.reduceAdd, Nat.reduceEqDiff, beq_self_eq_true, S_eta, lsz_LI, *] <;> repeat' (refine fork_eq (fun _ => ?_) (fun _ => ?_) <;> try simp (disch := first | assumption | omega) only [SA, SB, SC, SP, SQ, SZ, reduceIte, reduceCtorEq, Nat.reduceAdd, Nat.reduceEqDiff, beq_self_eq_true, S_eta, lsz_LI, *])
  have e0 : szR (l) (szL (fun _ => 0) x_deps) = l - (szL (fun _ => 0) x_deps : Nat) := if_pos c0
  have d0 : decide (l - ((szL (fun _ => 0) x_deps : Nat) : Int) < 0) = false := by simp; omega
  have e : szR l (sz_TAttr ⟨x_seq, x_deps⟩) = l - ((szL (fun _ => 0) x_deps : Nat) : Int) := by unfold szR sz_TAttr; simp only []; split <;> omega
  simp (disch := first | assumption | omega) only [SA, SB, SC, SP, SQ, SZ, reduceIte, reduceCtorEq, Nat.reduceAdd, Nat.reduceEqDiff, beq_self_eq_true, S_eta, lsz_LI, *] <;> repeat' (refine fork_eq (fun _ => ?_) (fun _ => ?_) <;> try simp (disch := first | assumption | omega) only [SA, SB, SC, SP, SQ, SZ, reduceIte, reduceCtorEq, Nat.reduceAdd, Nat.reduceEqDiff, beq_self_eq_true, S_eta, lsz_LI, *])
theorem lto_TAttr (x_seq : Int) (x_deps : (List Int)) (hs : sz_TAttr ⟨x_seq, x_deps⟩ ≤ 1048576) : Fun T 6 [i64 x_seq, rL x_deps] = some [i64 x_seq, rL x_deps] := by
  rw [Fun_k (t := tm6) rfl]; unfold tm6
  unfold sz_TAttr at hs
  simp only at hs
  have s0 : szL (fun _ => 0) x_deps ≤ 1048576 := by omega
  simp (disch := first | assumption | omega) only [SA, SB, SC, SP, SQ, SZ, reduceIte, reduceCtorEq, Nat.reduceAdd, Nat.reduceEqDiff, beq_self_eq_true, S_eta, lto_LI, *] <;> repeat' (refine fork_eq (fun _ => ?_) (fun _ => ?_) <;> try simp (disch := first | assumption | omega) only [SA, SB, SC, SP, SQ, SZ, reduceIte, reduceCtorEq, Nat.reduceAdd, Nat.reduceEqDiff, beq_self_eq_true, S_eta, lto_LI, *])
theorem leq_TAttr (x_seq : Int) (x_deps : (List Int)) (y_seq : Int) (y_deps : (List Int)) (hs : sz_TAttr ⟨x_seq, x_deps⟩ ≤ 1099511627776) : Fun T 40 [i64 x_seq, rL x_deps, i64 y_seq, rL y_deps] = some [.bool (decide ((⟨x_seq, x_deps⟩ : TAttr) = ⟨y_seq, y_deps⟩))] := by
  rw [Fun_k (t := tm40) rfl]; unfold tm40
  unfold sz_TAttr at hs
  simp only at hs
  have s0 : szL (fun _ => 0) x_deps ≤ 1099511627776 := by omega
  have e : decide ((⟨x_seq, x_deps⟩ : TAttr) = ⟨y_seq, y_deps⟩) = ((x_seq == y_seq) && decide ((x_deps : (List Int)) = y_deps)) := by
    simp only [TAttr.mk.injEq, Bool.beq_eq_decide_eq, Bool.decide_and, Bool.and_assoc]
  rw [e]
  simp (disch := first | assumption | omega) only [SA, SB, SC, SP, SQ, SZ, reduceIte, reduceCtorEq, Nat.reduceAdd, Nat.reduceEqDiff, beq_self_eq_true, S_eta, leq_LI, *] <;> repeat' (refine fork_eq (fun _ => ?_) (fun _ => ?_) <;> try simp (disch := first | assumption | omega) only [SA, SB, SC, SP, SQ, SZ, reduceIte, reduceCtorEq, Nat.reduceAdd, Nat.reduceEqDiff, beq_self_eq_true, S_eta, leq_LI, *])
theorem lsz_TMsg (x_kind x_src x_dst x_rep x_no x_ballot x_vote x_state x_cmd_kind x_cmd_id x_cmd_src x_cmd_dst x_cmd_amt x_attr_seq : Int) (x_attr_deps : (List Int)) (l : Int) (h0 : 0 ≤ l) (h1 : l ≤ 1048576) (hw : wf_TMsg ⟨x_kind, x_src, x_dst, x_rep, x_no, x_ballot, x_vote, x_state, ⟨x_cmd_kind, x_cmd_id, x_cmd_src, x_cmd_dst, x_cmd_amt⟩, ⟨x_attr_seq, x_attr_deps⟩⟩) : Fun T 1 [i64 x_kind, i64 x_src, i64 x_dst, i64 x_rep, i64 x_no, i64 x_ballot, i64 x_vote, i64 x_state, i64 x_cmd_kind, i64 x_cmd_id, i64 x_cmd_src, i64 x_cmd_dst, i64 x_cmd_amt, i64 x_attr_seq, rL x_attr_deps, i64 l] = some [i64 (szR l (sz_TMsg ⟨x_kind, x_src, x_dst, x_rep, x_no, x_ballot, x_vote, x_state, ⟨x_cmd_kind, x_cmd_id, x_cmd_src, x_cmd_dst, x_cmd_amt⟩, ⟨x_attr_seq, x_attr_deps⟩⟩))] := by
  rw [Fun_k (t := tm1) rfl]; unfold tm1
  unfold wf_TMsg at hw
  simp only at hw
  have w0 := hw
  by_cases c0 : ((sz_TAttr ⟨x_attr_seq, x_attr_deps⟩ : Nat) : Int) ≤ l
  rotate_left
  · have e0 : szR (l) (sz_TAttr ⟨x_attr_seq, x_attr_deps⟩) = -1 := if_neg c0
    have d0 : decide ((-1 : Int) < 0) = true := rfl
    have e : szR l (sz_TMsg ⟨x_kind, x_src, x_dst, x_rep, x_no, x_ballot, x_vote, x_state, ⟨x_cmd_kind, x_cmd_id, x_cmd_src, x_cmd_dst, x_cmd_amt⟩, ⟨x_attr_seq, x_attr_deps⟩⟩) = -1 := by unfold szR sz_TMsg; simp only []; split <;> omega
    simp (disch := first | assumption | omega) only [SA, SB, SC, SP, SQ, SZ, reduceIte, reduceCtorEq, Nat.reduceAdd, Nat.reduceEqDiff, beq_self_eq_true, S_eta, lsz_TAttr, *] <;> repeat' (refine fork_eq (fun _ => ?_) (fun _ => ?_) <;> try simp (disch := first | assumption | omega) only [SA, SB, SC, SP, SQ, SZ, reduceIte, reduceCtorEq, Nat.reduceAdd, Nat.reduceEqDiff, beq_self_eq_true, S_eta, lsz_TAttr, *])
  have e0 : szR (l) (sz_TAttr ⟨x_attr_seq, x_attr_deps⟩) = l - (sz_TAttr ⟨x_attr_seq, x_attr_deps⟩ : Nat) := if_pos c0
  have d0 : decide (l - ((sz_TAttr ⟨x_attr_seq, x_attr_deps⟩ : Nat) : Int) < 0) = false := by simp; omega
  have e : szR l (sz_TMsg ⟨x_kind, x_src, x_dst, x_rep, x_no, x_ballot, x_vote, x_state, ⟨x_cmd_kind, x_cmd_id, x_cmd_src, x_cmd_dst, x_cmd_amt⟩, ⟨x_attr_seq, x_attr_deps⟩⟩) = l - ((sz_TAttr ⟨x_attr_seq, x_attr_deps⟩ : Nat) : Int) := by unfold szR sz_TMsg; simp only []; split <;> omega
  simp (disch := first | assumption | omega) only [SA, SB, SC, SP, SQ, SZ, reduceIte, reduceCtorEq, Nat.reduceAdd, Nat.reduceEqDiff, beq_self_eq_true, S_eta, lsz_TAttr, *] <;> repeat' (refine fork_eq (fun _ => ?_) (fun _ => ?_) <;> try simp (disch := first | assumption | omega) only [SA, SB, SC, SP, SQ, SZ, reduceIte, reduceCtorEq, Nat.reduceAdd, Nat.reduceEqDiff, beq_self_eq_true, S_eta, lsz_TAttr, *])
theorem lto_TMsg (x_kind x_src x_dst x_rep x_no x_ballot x_vote x_state x_cmd_kind x_cmd_id x_cmd_src x_cmd_dst x_cmd_amt x_attr_seq : Int) (x_attr_deps : (List Int)) (hs : sz_TMsg ⟨x_kind, x_src, x_dst, x_rep, x_no, x_ballot, x_vote, x_state, ⟨x_cmd_kind, x_cmd_id, x_cmd_src, x_cmd_dst, x_cmd_amt⟩, ⟨x_attr_seq, x_attr_deps⟩⟩ ≤ 1048576) : Fun T 4 [i64 x_kind, i64 x_src, i64 x_dst, i64 x_rep, i64 x_no, i64 x_ballot, i64 x_vote, i64 x_state, i64 x_cmd_kind, i64 x_cmd_id, i64 x_cmd_src, i64 x_cmd_dst, i64 x_cmd_amt, i64 x_attr_seq, rL x_attr_deps] = some [i64 x_kind, i64 x_src, i64 x_dst, i64 x_rep, i64 x_no, i64 x_ballot, i64 x_vote, i64 x_state, i64 x_cmd_kind, i64 x_cmd_id, i64 x_cmd_src, i64 x_cmd_dst, i64 x_cmd_amt, i64 x_attr_seq, rL x_attr_deps] := by
  rw [Fun_k (t := tm4) rfl]; unfold tm4
  unfold sz_TMsg at hs
  simp only at hs
  have s0 : sz_TAttr ⟨x_attr_seq, x_attr_deps⟩ ≤ 1048576 := by omega
  simp (disch := first | assumption | omega) only [SA, SB, SC, SP, SQ, SZ, reduceIte, reduceCtorEq, Nat.reduceAdd, Nat.reduceEqDiff, beq_self_eq_true, S_eta, lto_TCmd, lto_TAttr, *] <;> repeat' (refine fork_eq (fun _ => ?_) (fun _ => ?_) <;> try simp (disch := first | assumption | omega) only [SA, SB, SC, SP, SQ, SZ, reduceIte, reduceCtorEq, Nat.reduceAdd, Nat.reduceEqDiff, beq_self_eq_true, S_eta, lto_TCmd, lto_TAttr, *])
theorem leq_TMsg (x_kind x_src x_dst x_rep x_no x_ballot x_vote x_state x_cmd_kind x_cmd_id x_cmd_src x_cmd_dst x_cmd_amt x_attr_seq : Int) (x_attr_deps : (List Int)) (y_kind y_src y_dst y_rep y_no y_ballot y_vote y_state y_cmd_kind y_cmd_id y_cmd_src y_cmd_dst y_cmd_amt y_attr_seq : Int) (y_attr_deps : (List Int)) (hs : sz_TMsg ⟨x_kind, x_src, x_dst, x_rep, x_no, x_ballot, x_vote, x_state, ⟨x_cmd_kind, x_cmd_id, x_cmd_src, x_cmd_dst, x_cmd_amt⟩, ⟨x_attr_seq, x_attr_deps⟩⟩ ≤ 1099511627776) : Fun T 38 [i64 x_kind, i64 x_src, i64 x_dst, i64 x_rep, i64 x_no, i64 x_ballot, i64 x_vote, i64 x_state, i64 x_cmd_kind, i64 x_cmd_id, i64 x_cmd_src, i64 x_cmd_dst, i64 x_cmd_amt, i64 x_attr_seq, rL x_attr_deps, i64 y_kind, i64 y_src, i64 y_dst, i64 y_rep, i64 y_no, i64 y_ballot, i64 y_vote, i64 y_state, i64 y_cmd_kind, i64 y_cmd_id, i64 y_cmd_src, i64 y_cmd_dst, i64 y_cmd_amt, i64 y_attr_seq, rL y_attr_deps] = some [.bool (decide ((⟨x_kind, x_src, x_dst, x_rep, x_no, x_ballot, x_vote, x_state, ⟨x_cmd_kind, x_cmd_id, x_cmd_src, x_cmd_dst, x_cmd_amt⟩, ⟨x_attr_seq, x_attr_deps⟩⟩ : TMsg) = ⟨y_kind, y_src, y_dst, y_rep, y_no, y_ballot, y_vote, y_state, ⟨y_cmd_kind, y_cmd_id, y_cmd_src, y_cmd_dst, y_cmd_amt⟩, ⟨y_attr_seq, y_attr_deps⟩⟩))] := by
  rw [Fun_k (t := tm38) rfl]; unfold tm38
  unfold sz_TMsg at hs
  simp only at hs
  have s0 : sz_TAttr ⟨x_attr_seq, x_attr_deps⟩ ≤ 1099511627776 := by omega
  have e : decide ((⟨x_kind, x_src, x_dst, x_rep, x_no, x_ballot, x_vote, x_state, ⟨x_cmd_kind, x_cmd_id, x_cmd_src, x_cmd_dst, x_cmd_amt⟩, ⟨x_attr_seq, x_attr_deps⟩⟩ : TMsg) = ⟨y_kind, y_src, y_dst, y_rep, y_no, y_ballot, y_vote, y_state, ⟨y_cmd_kind, y_cmd_id, y_cmd_src, y_cmd_dst, y_cmd_amt⟩, ⟨y_attr_seq, y_attr_deps⟩⟩) = ((x_kind == y_kind) && (x_src == y_src) && (x_dst == y_dst) && (x_rep == y_rep) && (x_no == y_no) && (x_ballot == y_ballot) && (x_vote == y_vote) && (x_state == y_state) && decide ((⟨x_cmd_kind, x_cmd_id, x_cmd_src, x_cmd_dst, x_cmd_amt⟩ : TCmd) = ⟨y_cmd_kind, y_cmd_id, y_cmd_src, y_cmd_dst, y_cmd_amt⟩) && decide ((⟨x_attr_seq, x_attr_deps⟩ : TAttr) = ⟨y_attr_seq, y_attr_deps⟩)) := by
    simp only [TMsg.mk.injEq, Bool.beq_eq_decide_eq, Bool.decide_and, Bool.and_assoc]
  rw [e]
  simp (disch := first | assumption | omega) only [SA, SB, SC, SP, SQ, SZ, reduceIte, reduceCtorEq, Nat.reduceAdd, Nat.reduceEqDiff, beq_self_eq_true, S_eta, leq_TCmd, leq_TAttr, *] <;> repeat' (refine fork_eq (fun _ => ?_) (fun _ => ?_) <;> try simp (disch := first | assumption | omega) only [SA, SB, SC, SP, SQ, SZ, reduceIte, reduceCtorEq, Nat.reduceAdd, Nat.reduceEqDiff, beq_self_eq_true, S_eta, leq_TCmd, leq_TAttr, *])
theorem impl_within (x lo up : Int) : Fun T 22 [i64 x, i64 lo, i64 up] = some [.bool (inR x lo up)] := by
  rw [Fun_k (t := tm22) rfl]; unfold tm22; unfold inR
  simp (disch := first | assumption | omega) only [SA, SB, SC, SP, SQ, SZ, reduceIte, reduceCtorEq, Nat.reduceAdd, Nat.reduceEqDiff, beq_self_eq_true, S_eta, *] <;> repeat' (refine fork_eq (fun _ => ?_) (fun _ => ?_) <;> try simp (disch := first | assumption | omega) only [SA, SB, SC, SP, SQ, SZ, reduceIte, reduceCtorEq, Nat.reduceAdd, Nat.reduceEqDiff, beq_self_eq_true, S_eta, *])
theorem spec_l1In (x lo up : Int) : Fun T 10 [i64 x, i64 lo, i64 up] = some [.bool (inR x lo up)] := by
  rw [Fun_k (t := tm10) rfl]; unfold tm10; unfold inR
  simp (disch := first | assumption | omega) only [SA, SB, SC, SP, SQ, SZ, reduceIte, reduceCtorEq, Nat.reduceAdd, Nat.reduceEqDiff, beq_self_eq_true, S_eta, *] <;> repeat' (refine fork_eq (fun _ => ?_) (fun _ => ?_) <;> try simp (disch := first | assumption | omega) only [SA, SB, SC, SP, SQ, SZ, reduceIte, reduceCtorEq, Nat.reduceAdd, Nat.reduceEqDiff, beq_self_eq_true, S_eta, *])
theorem impl_IsGroup (n : Int) : Fun T 24 [i64 n] = some [.bool (isGrp n)] := by
  rw [Fun_k (t := tm24) rfl]; unfold tm24; unfold isGrp
  simp (disch := first | assumption | omega) only [SA, SB, SC, SP, SQ, SZ, reduceIte, reduceCtorEq, Nat.reduceAdd, Nat.reduceEqDiff, beq_self_eq_true, S_eta, *] <;> repeat' (refine fork_eq (fun _ => ?_) (fun _ => ?_) <;> try simp (disch := first | assumption | omega) only [SA, SB, SC, SP, SQ, SZ, reduceIte, reduceCtorEq, Nat.reduceAdd, Nat.reduceEqDiff, beq_self_eq_true, S_eta, *])
theorem spec_IsGroup (n : Int) : Fun T 9 [i64 n] = some [.bool (isGrp n)] := by
  rw [Fun_k (t := tm9) rfl]; unfold tm9; unfold isGrp
  simp (disch := first | assumption | omega) only [SA, SB, SC, SP, SQ, SZ, reduceIte, reduceCtorEq, Nat.reduceAdd, Nat.reduceEqDiff, beq_self_eq_true, S_eta, *] <;> repeat' (refine fork_eq (fun _ => ?_) (fun _ => ?_) <;> try simp (disch := first | assumption | omega) only [SA, SB, SC, SP, SQ, SZ, reduceIte, reduceCtorEq, Nat.reduceAdd, Nat.reduceEqDiff, beq_self_eq_true, S_eta, *])
theorem impl_isAccount (n : Int) : Fun T 30 [i64 n] = some [.bool (inR n 0 3)] := by
  rw [Fun_k (t := tm30) rfl]; unfold tm30
  simp (disch := first | assumption | omega) only [SA, SB, SC, SP, SQ, SZ, reduceIte, reduceCtorEq, Nat.reduceAdd, Nat.reduceEqDiff, beq_self_eq_true, S_eta, impl_within, *] <;> repeat' (refine fork_eq (fun _ => ?_) (fun _ => ?_) <;> try simp (disch := first | assumption | omega) only [SA, SB, SC, SP, SQ, SZ, reduceIte, reduceCtorEq, Nat.reduceAdd, Nat.reduceEqDiff, beq_self_eq_true, S_eta, impl_within, *])
theorem spec_l2Account (n : Int) : Fun T 18 [i64 n] = some [.bool (inR n 0 3)] := by
  rw [Fun_k (t := tm18) rfl]; unfold tm18
  simp (disch := first | assumption | omega) only [SA, SB, SC, SP, SQ, SZ, reduceIte, reduceCtorEq, Nat.reduceAdd, Nat.reduceEqDiff, beq_self_eq_true, S_eta, spec_l1In, *] <;> repeat' (refine fork_eq (fun _ => ?_) (fun _ => ?_) <;> try simp (disch := first | assumption | omega) only [SA, SB, SC, SP, SQ, SZ, reduceIte, reduceCtorEq, Nat.reduceAdd, Nat.reduceEqDiff, beq_self_eq_true, S_eta, spec_l1In, *])
theorem spec_l2Code (k i f t a : Int) : Fun T 17 [i64 k, i64 i, i64 f, i64 t, i64 a] = some [i64 (cmdCode ⟨k, i, f, t, a⟩)] := by
  rw [Fun_k (t := tm17) rfl]; unfold tm17; unfold cmdCode
  simp (disch := first | assumption | omega) only [SA, SB, SC, SP, SQ, SZ, reduceIte, reduceCtorEq, Nat.reduceAdd, Nat.reduceEqDiff, beq_self_eq_true, S_eta, spec_l2Account, spec_l1In, *] <;> repeat' (refine fork_eq (fun _ => ?_) (fun _ => ?_) <;> try simp (disch := first | assumption | omega) only [SA, SB, SC, SP, SQ, SZ, reduceIte, reduceCtorEq, Nat.reduceAdd, Nat.reduceEqDiff, beq_self_eq_true, S_eta, spec_l2Account, spec_l1In, *])
theorem spec_GoodCmd (k i f t a : Int) : Fun T 16 [i64 k, i64 i, i64 f, i64 t, i64 a] = some [.bool (cmdOk ⟨k, i, f, t, a⟩)] := by
  rw [Fun_k (t := tm16) rfl]; unfold tm16; unfold cmdOk
  simp (disch := first | assumption | omega) only [SA, SB, SC, SP, SQ, SZ, reduceIte, reduceCtorEq, Nat.reduceAdd, Nat.reduceEqDiff, beq_self_eq_true, S_eta, spec_l2Code, S_eqs, cmdCode0, *] <;> repeat' (refine fork_eq (fun _ => ?_) (fun _ => ?_) <;> try simp (disch := first | assumption | omega) only [SA, SB, SC, SP, SQ, SZ, reduceIte, reduceCtorEq, Nat.reduceAdd, Nat.reduceEqDiff, beq_self_eq_true, S_eta, spec_l2Code, S_eqs, cmdCode0, *])
  all_goals (refine bool_fin ?_; simp only [Bool.and_eq_true, Bool.or_eq_true, Bool.not_eq_true', Bool.not_eq_false', Bool.and_eq_false_iff, Bool.or_eq_false_iff, Bool.false_eq_true, beq_iff_eq, beq_eq_false_iff_ne, decide_eq_true_eq, decide_eq_false_iff_not, ne_eq] at *; grind)
theorem impl_GoodCmd (k i f t a : Int) : Fun T 29 [i64 k, i64 i, i64 f, i64 t, i64 a] = some [.bool (cmdOk ⟨k, i, f, t, a⟩)] := by
  rw [Fun_k (t := tm29) rfl]; unfold tm29; unfold cmdOk
  simp (disch := first | assumption | omega) only [SA, SB, SC, SP, SQ, SZ, reduceIte, reduceCtorEq, Nat.reduceAdd, Nat.reduceEqDiff, beq_self_eq_true, S_eta, impl_within, impl_isAccount, S_eqs, *] <;> repeat' (refine fork_eq (fun _ => ?_) (fun _ => ?_) <;> try simp (disch := first | assumption | omega) only [SA, SB, SC, SP, SQ, SZ, reduceIte, reduceCtorEq, Nat.reduceAdd, Nat.reduceEqDiff, beq_self_eq_true, S_eta, impl_within, impl_isAccount, S_eqs, *])
theorem spec_l3Inst (n rep no : Int) (hg : isGrp n = true) : Fun T 11 [i64 n, i64 rep, i64 no] = some [.bool (inst n rep no)] := by
  rw [Fun_k (t := tm11) rfl]; unfold tm11; unfold inst
  have hn := isGrp_rng hg
  simp (disch := first | assumption | omega) only [SA, SB, SC, SP, SQ, SZ, reduceIte, reduceCtorEq, Nat.reduceAdd, Nat.reduceEqDiff, beq_self_eq_true, S_eta, spec_l1In, *] <;> repeat' (refine fork_eq (fun _ => ?_) (fun _ => ?_) <;> try simp (disch := first | assumption | omega) only [SA, SB, SC, SP, SQ, SZ, reduceIte, reduceCtorEq, Nat.reduceAdd, Nat.reduceEqDiff, beq_self_eq_true, S_eta, spec_l1In, *])
theorem impl_isInstance (n rep no : Int) : Fun T 23 [i64 n, i64 rep, i64 no] = some [.bool (isGrp n && inst n rep no)] := by
  rw [Fun_k (t := tm23) rfl]; unfold tm23; unfold inst
  cases hg : isGrp n
  · simp (disch := first | assumption | omega) only [SA, SB, SC, SP, SQ, SZ, reduceIte, reduceCtorEq, Nat.reduceAdd, Nat.reduceEqDiff, beq_self_eq_true, S_eta, impl_IsGroup, *] <;> repeat' (refine fork_eq (fun _ => ?_) (fun _ => ?_) <;> try simp (disch := first | assumption | omega) only [SA, SB, SC, SP, SQ, SZ, reduceIte, reduceCtorEq, Nat.reduceAdd, Nat.reduceEqDiff, beq_self_eq_true, S_eta, impl_IsGroup, *])
  have hn := isGrp_rng hg
  simp (disch := first | assumption | omega) only [SA, SB, SC, SP, SQ, SZ, reduceIte, reduceCtorEq, Nat.reduceAdd, Nat.reduceEqDiff, beq_self_eq_true, S_eta, impl_IsGroup, impl_within, *] <;> repeat' (refine fork_eq (fun _ => ?_) (fun _ => ?_) <;> try simp (disch := first | assumption | omega) only [SA, SB, SC, SP, SQ, SZ, reduceIte, reduceCtorEq, Nat.reduceAdd, Nat.reduceEqDiff, beq_self_eq_true, S_eta, impl_IsGroup, impl_within, *])
theorem spec_l1All (xs : List Int) (lo up : Int) (hx : xs.length ≤ 1099511627776) : Fun T 20 [rL xs, i64 lo, i64 up] = some [.bool (xs.all fun x => inR x lo up)] := by
  rw [Fun_k (t := tm20) rfl]; unfold tm20
  simp (disch := first | assumption | omega) only [SA, SB, SC, SP, SQ, SZ, reduceIte, reduceCtorEq, Nat.reduceAdd, Nat.reduceEqDiff, beq_self_eq_true, S_eta, S_row, *]
  rw [allX 1 xs (fun x => inR x lo up) [.bool false]]
  · simp (disch := first | assumption | omega) only [SA, SB, SC, SP, SQ, SZ, reduceIte, reduceCtorEq, Nat.reduceAdd, Nat.reduceEqDiff, beq_self_eq_true, S_eta, *] <;> repeat' (refine fork_eq (fun _ => ?_) (fun _ => ?_) <;> try simp (disch := first | assumption | omega) only [SA, SB, SC, SP, SQ, SZ, reduceIte, reduceCtorEq, Nat.reduceAdd, Nat.reduceEqDiff, beq_self_eq_true, S_eta, *])
  · intro i hi hb hl hp
    simp (disch := first | assumption | omega) only [SA, SB, SC, SP, SQ, SZ, reduceIte, reduceCtorEq, Nat.reduceAdd, Nat.reduceEqDiff, beq_self_eq_true, S_eta, S_row, spec_l1In, *] <;> repeat' (refine fork_eq (fun _ => ?_) (fun _ => ?_) <;> try simp (disch := first | assumption | omega) only [SA, SB, SC, SP, SQ, SZ, reduceIte, reduceCtorEq, Nat.reduceAdd, Nat.reduceEqDiff, beq_self_eq_true, S_eta, S_row, spec_l1In, *])
  · intro i hi hb hl hp
    simp (disch := first | assumption | omega) only [SA, SB, SC, SP, SQ, SZ, reduceIte, reduceCtorEq, Nat.reduceAdd, Nat.reduceEqDiff, beq_self_eq_true, S_eta, S_row, spec_l1In, *] <;> repeat' (refine fork_eq (fun _ => ?_) (fun _ => ?_) <;> try simp (disch := first | assumption | omega) only [SA, SB, SC, SP, SQ, SZ, reduceIte, reduceCtorEq, Nat.reduceAdd, Nat.reduceEqDiff, beq_self_eq_true, S_eta, S_row, spec_l1In, *])
  · intro hl
    simp (disch := first | assumption | omega) only [SA, SB, SC, SP, SQ, SZ, reduceIte, reduceCtorEq, Nat.reduceAdd, Nat.reduceEqDiff, beq_self_eq_true, S_eta, *] <;> repeat' (refine fork_eq (fun _ => ?_) (fun _ => ?_) <;> try simp (disch := first | assumption | omega) only [SA, SB, SC, SP, SQ, SZ, reduceIte, reduceCtorEq, Nat.reduceAdd, Nat.reduceEqDiff, beq_self_eq_true, S_eta, *])
theorem spec_l3Attr (n s : Int) (xs : List Int) (hx : xs.length ≤ 1099511627776) : Fun T 19 [i64 n, i64 s, rL xs] = some [.bool (attrOk n ⟨s, xs⟩)] := by
  rw [Fun_k (t := tm19) rfl]; unfold tm19; unfold attrOk
  simp (disch := first | assumption | omega) only [SA, SB, SC, SP, SQ, SZ, reduceIte, reduceCtorEq, Nat.reduceAdd, Nat.reduceEqDiff, beq_self_eq_true, S_eta, spec_l1In, spec_l1All, *] <;> repeat' (refine fork_eq (fun _ => ?_) (fun _ => ?_) <;> try simp (disch := first | assumption | omega) only [SA, SB, SC, SP, SQ, SZ, reduceIte, reduceCtorEq, Nat.reduceAdd, Nat.reduceEqDiff, beq_self_eq_true, S_eta, spec_l1In, spec_l1All, *])
theorem impl_GoodAttr_1 (x : Int) : Fun T 34 [i64 x] = some [.bool (!inR x 0 6)] := by
  rw [Fun_k (t := tm34) rfl]; unfold tm34
  simp (disch := first | assumption | omega) only [SA, SB, SC, SP, SQ, SZ, reduceIte, reduceCtorEq, Nat.reduceAdd, Nat.reduceEqDiff, beq_self_eq_true, S_eta, impl_within, *] <;> repeat' (refine fork_eq (fun _ => ?_) (fun _ => ?_) <;> try simp (disch := first | assumption | omega) only [SA, SB, SC, SP, SQ, SZ, reduceIte, reduceCtorEq, Nat.reduceAdd, Nat.reduceEqDiff, beq_self_eq_true, S_eta, impl_within, *])
theorem ix_GoodAttr_1  (xs : List Int) (hx : xs.length ≤ 1099511627776) : Fun T 33 [rL xs] = some [i64 (ixF (fun x => !inR x 0 6) xs)] := by
  rw [Fun_k (t := tm33) rfl]; unfold tm33
  simp (disch := first | assumption | omega) only [SA, SB, SC, SP, SQ, SZ, reduceIte, reduceCtorEq, Nat.reduceAdd, Nat.reduceEqDiff, beq_self_eq_true, S_eta, S_row, *]
  rw [findX 1 xs (fun x => !inR x 0 6) (fun i => [i64 i])]
  · cases h : xs.any (fun x => !inR x 0 6)
    · have e : ixF (fun x => !inR x 0 6) xs = -1 := by
        have h2 := ixF_any (fun x => !inR x 0 6) xs
        rw [h] at h2
        unfold ixF at h2 ⊢
        split at h2 <;> simp_all
      rw [e]; simp (disch := first | assumption | omega) only [SA, SB, SC, SP, SQ, SZ, reduceIte, reduceCtorEq, Nat.reduceAdd, Nat.reduceEqDiff, beq_self_eq_true, S_eta]
    · simp (disch := first | assumption | omega) only [SA, SB, SC, SP, SQ, SZ, reduceIte, reduceCtorEq, Nat.reduceAdd, Nat.reduceEqDiff, beq_self_eq_true, S_eta]
  · intro i hi hb hl hp
    simp (disch := first | assumption | omega) only [SA, SB, SC, SP, SQ, SZ, reduceIte, reduceCtorEq, Nat.reduceAdd, Nat.reduceEqDiff, beq_self_eq_true, S_eta, S_row, impl_GoodAttr_1, *] <;> repeat' (refine fork_eq (fun _ => ?_) (fun _ => ?_) <;> try simp (disch := first | assumption | omega) only [SA, SB, SC, SP, SQ, SZ, reduceIte, reduceCtorEq, Nat.reduceAdd, Nat.reduceEqDiff, beq_self_eq_true, S_eta, S_row, impl_GoodAttr_1, *])
  · intro i hi hb hl hp
    simp (disch := first | assumption | omega) only [SA, SB, SC, SP, SQ, SZ, reduceIte, reduceCtorEq, Nat.reduceAdd, Nat.reduceEqDiff, beq_self_eq_true, S_eta, S_row, impl_GoodAttr_1, *] <;> repeat' (refine fork_eq (fun _ => ?_) (fun _ => ?_) <;> try simp (disch := first | assumption | omega) only [SA, SB, SC, SP, SQ, SZ, reduceIte, reduceCtorEq, Nat.reduceAdd, Nat.reduceEqDiff, beq_self_eq_true, S_eta, S_row, impl_GoodAttr_1, *])
  · intro hl
    simp (disch := first | assumption | omega) only [SA, SB, SC, SP, SQ, SZ, reduceIte, reduceCtorEq, Nat.reduceAdd, Nat.reduceEqDiff, beq_self_eq_true, S_eta, *] <;> repeat' (refine fork_eq (fun _ => ?_) (fun _ => ?_) <;> try simp (disch := first | assumption | omega) only [SA, SB, SC, SP, SQ, SZ, reduceIte, reduceCtorEq, Nat.reduceAdd, Nat.reduceEqDiff, beq_self_eq_true, S_eta, *])
theorem ct_GoodAttr_1  (xs : List Int) (hx : xs.length ≤ 1099511627776) : Fun T 32 [rL xs] = some [.bool (xs.any (fun x => !inR x 0 6))] := by
  rw [Fun_k (t := tm32) rfl]; unfold tm32
  simp (disch := first | assumption | omega) only [SA, SB, SC, SP, SQ, SZ, reduceIte, reduceCtorEq, Nat.reduceAdd, Nat.reduceEqDiff, beq_self_eq_true, S_eta, ix_GoodAttr_1, ixF_any, *] <;> repeat' (refine fork_eq (fun _ => ?_) (fun _ => ?_) <;> try simp (disch := first | assumption | omega) only [SA, SB, SC, SP, SQ, SZ, reduceIte, reduceCtorEq, Nat.reduceAdd, Nat.reduceEqDiff, beq_self_eq_true, S_eta, ix_GoodAttr_1, ixF_any, *])
theorem impl_GoodAttr (n s : Int) (xs : List Int) (hx : xs.length ≤ 1099511627776) : Fun T 31 [i64 n, i64 s, rL xs] = some [.bool (isGrp n && attrOk n ⟨s, xs⟩)] := by
  rw [Fun_k (t := tm31) rfl]; unfold tm31; unfold attrOk
  have e : xs.any (fun x => !inR x 0 6) = !xs.all fun x => inR x 0 6 := by rw [List.not_all_eq_any_not]
  simp (disch := first | assumption | omega) only [SA, SB, SC, SP, SQ, SZ, reduceIte, reduceCtorEq, Nat.reduceAdd, Nat.reduceEqDiff, beq_self_eq_true, S_eta, impl_IsGroup, impl_within, ct_GoodAttr_1, e, Bool.not_not, *] <;> repeat' (refine fork_eq (fun _ => ?_) (fun _ => ?_) <;> try simp (disch := first | assumption | omega) only [SA, SB, SC, SP, SQ, SZ, reduceIte, reduceCtorEq, Nat.reduceAdd, Nat.reduceEqDiff, beq_self_eq_true, S_eta, impl_IsGroup, impl_within, ct_GoodAttr_1, e, Bool.not_not, *])
theorem spec_l1Same (xs ys : List Int) (hx : xs.length ≤ 1099511627776) : Fun T 15 [rL xs, rL ys] = some [.bool (decide (xs = ys))] := by
  rw [Fun_k (t := tm15) rfl]; unfold tm15
  by_cases hl : ys.length = xs.length
  · simp (disch := first | assumption | omega) only [SA, SB, SC, SP, SQ, SZ, reduceIte, reduceCtorEq, Nat.reduceAdd, Nat.reduceEqDiff, beq_self_eq_true, S_eta, *]
    rw [scanX 1 xs.length (fun i => decide (atI xs i = atI ys i)) [.bool false], allB_eq hl.symm]
    · simp (disch := first | assumption | omega) only [SA, SB, SC, SP, SQ, SZ, reduceIte, reduceCtorEq, Nat.reduceAdd, Nat.reduceEqDiff, beq_self_eq_true, S_eta, *] <;> repeat' (refine fork_eq (fun _ => ?_) (fun _ => ?_) <;> try simp (disch := first | assumption | omega) only [SA, SB, SC, SP, SQ, SZ, reduceIte, reduceCtorEq, Nat.reduceAdd, Nat.reduceEqDiff, beq_self_eq_true, S_eta, *])
    · intro i hi hp
      have hb : InB xs (i : Int) := InB_nat.2 hi
      have hb' : InB ys (i : Int) := InB_nat.2 (by omega)
      have h2 : decide ((i : Int) < xs.length) = true := by simp; omega
      have h3 : (atI xs i == atI ys i) = true := by simpa using hp
      simp (disch := first | assumption | omega) only [SA, SB, SC, SP, SQ, SZ, reduceIte, reduceCtorEq, Nat.reduceAdd, Nat.reduceEqDiff, beq_self_eq_true, S_eta, S_row, *] <;> repeat' (refine fork_eq (fun _ => ?_) (fun _ => ?_) <;> try simp (disch := first | assumption | omega) only [SA, SB, SC, SP, SQ, SZ, reduceIte, reduceCtorEq, Nat.reduceAdd, Nat.reduceEqDiff, beq_self_eq_true, S_eta, S_row, *])
    · intro i hi hp
      have hb : InB xs (i : Int) := InB_nat.2 hi
      have hb' : InB ys (i : Int) := InB_nat.2 (by omega)
      have h2 : decide ((i : Int) < xs.length) = true := by simp; omega
      have h3 : (atI xs i == atI ys i) = false := by simpa using hp
      simp (disch := first | assumption | omega) only [SA, SB, SC, SP, SQ, SZ, reduceIte, reduceCtorEq, Nat.reduceAdd, Nat.reduceEqDiff, beq_self_eq_true, S_eta, S_row, *] <;> repeat' (refine fork_eq (fun _ => ?_) (fun _ => ?_) <;> try simp (disch := first | assumption | omega) only [SA, SB, SC, SP, SQ, SZ, reduceIte, reduceCtorEq, Nat.reduceAdd, Nat.reduceEqDiff, beq_self_eq_true, S_eta, S_row, *])
    · have h2 : decide ((xs.length : Int) < xs.length) = false := by simp
      simp (disch := first | assumption | omega) only [SA, SB, SC, SP, SQ, SZ, reduceIte, reduceCtorEq, Nat.reduceAdd, Nat.reduceEqDiff, beq_self_eq_true, S_eta, *] <;> repeat' (refine fork_eq (fun _ => ?_) (fun _ => ?_) <;> try simp (disch := first | assumption | omega) only [SA, SB, SC, SP, SQ, SZ, reduceIte, reduceCtorEq, Nat.reduceAdd, Nat.reduceEqDiff, beq_self_eq_true, S_eta, *])
  · have hl' : ((xs.length : Int) == (ys.length : Int)) = false := by simp; omega
    have e := eq_len (fun h => hl h.symm)
    simp (disch := first | assumption | omega) only [SA, SB, SC, SP, SQ, SZ, reduceIte, reduceCtorEq, Nat.reduceAdd, Nat.reduceEqDiff, beq_self_eq_true, S_eta, *] <;> repeat' (refine fork_eq (fun _ => ?_) (fun _ => ?_) <;> try simp (disch := first | assumption | omega) only [SA, SB, SC, SP, SQ, SZ, reduceIte, reduceCtorEq, Nat.reduceAdd, Nat.reduceEqDiff, beq_self_eq_true, S_eta, *])
theorem slices_Equal_int (xs ys : List Int) (hx : xs.length ≤ 1099511627776) : Fun T 37 [rL xs, rL ys] = some [.bool (decide (xs = ys))] := by
  rw [Fun_k (t := tm37) rfl]; unfold tm37
  by_cases hl : ys.length = xs.length
  · simp (disch := first | assumption | omega) only [SA, SB, SC, SP, SQ, SZ, reduceIte, reduceCtorEq, Nat.reduceAdd, Nat.reduceEqDiff, beq_self_eq_true, S_eta, *]
    rw [scanX 1 xs.length (fun i => decide (atI xs i = atI ys i)) [.bool false], allB_eq hl.symm]
    · simp (disch := first | assumption | omega) only [SA, SB, SC, SP, SQ, SZ, reduceIte, reduceCtorEq, Nat.reduceAdd, Nat.reduceEqDiff, beq_self_eq_true, S_eta, *] <;> repeat' (refine fork_eq (fun _ => ?_) (fun _ => ?_) <;> try simp (disch := first | assumption | omega) only [SA, SB, SC, SP, SQ, SZ, reduceIte, reduceCtorEq, Nat.reduceAdd, Nat.reduceEqDiff, beq_self_eq_true, S_eta, *])
    · intro i hi hp
      have hb : InB xs (i : Int) := InB_nat.2 hi
      have hb' : InB ys (i : Int) := InB_nat.2 (by omega)
      have h2 : decide ((i : Int) < xs.length) = true := by simp; omega
      have h3 : (atI xs i == atI ys i) = true := by simpa using hp
      simp (disch := first | assumption | omega) only [SA, SB, SC, SP, SQ, SZ, reduceIte, reduceCtorEq, Nat.reduceAdd, Nat.reduceEqDiff, beq_self_eq_true, S_eta, S_row, *] <;> repeat' (refine fork_eq (fun _ => ?_) (fun _ => ?_) <;> try simp (disch := first | assumption | omega) only [SA, SB, SC, SP, SQ, SZ, reduceIte, reduceCtorEq, Nat.reduceAdd, Nat.reduceEqDiff, beq_self_eq_true, S_eta, S_row, *])
    · intro i hi hp
      have hb : InB xs (i : Int) := InB_nat.2 hi
      have hb' : InB ys (i : Int) := InB_nat.2 (by omega)
      have h2 : decide ((i : Int) < xs.length) = true := by simp; omega
      have h3 : (atI xs i == atI ys i) = false := by simpa using hp
      simp (disch := first | assumption | omega) only [SA, SB, SC, SP, SQ, SZ, reduceIte, reduceCtorEq, Nat.reduceAdd, Nat.reduceEqDiff, beq_self_eq_true, S_eta, S_row, *] <;> repeat' (refine fork_eq (fun _ => ?_) (fun _ => ?_) <;> try simp (disch := first | assumption | omega) only [SA, SB, SC, SP, SQ, SZ, reduceIte, reduceCtorEq, Nat.reduceAdd, Nat.reduceEqDiff, beq_self_eq_true, S_eta, S_row, *])
    · have h2 : decide ((xs.length : Int) < xs.length) = false := by simp
      simp (disch := first | assumption | omega) only [SA, SB, SC, SP, SQ, SZ, reduceIte, reduceCtorEq, Nat.reduceAdd, Nat.reduceEqDiff, beq_self_eq_true, S_eta, *] <;> repeat' (refine fork_eq (fun _ => ?_) (fun _ => ?_) <;> try simp (disch := first | assumption | omega) only [SA, SB, SC, SP, SQ, SZ, reduceIte, reduceCtorEq, Nat.reduceAdd, Nat.reduceEqDiff, beq_self_eq_true, S_eta, *])
  · have hl' : ((xs.length : Int) == (ys.length : Int)) = false := by simp; omega
    have e := eq_len (fun h => hl h.symm)
    simp (disch := first | assumption | omega) only [SA, SB, SC, SP, SQ, SZ, reduceIte, reduceCtorEq, Nat.reduceAdd, Nat.reduceEqDiff, beq_self_eq_true, S_eta, *] <;> repeat' (refine fork_eq (fun _ => ?_) (fun _ => ?_) <;> try simp (disch := first | assumption | omega) only [SA, SB, SC, SP, SQ, SZ, reduceIte, reduceCtorEq, Nat.reduceAdd, Nat.reduceEqDiff, beq_self_eq_true, S_eta, *])
theorem spec_SameAttr (s s' : Int) (xs ys : List Int) (hx : xs.length ≤ 1099511627776) : Fun T 14 [i64 s, rL xs, i64 s', rL ys] = some [.bool (decide ((⟨s, xs⟩ : TAttr) = ⟨s', ys⟩))] := by
  rw [Fun_k (t := tm14) rfl]; unfold tm14
  have e : decide ((⟨s, xs⟩ : TAttr) = ⟨s', ys⟩) = (s == s' && decide (xs = ys)) := by simp [TAttr.mk.injEq, Bool.beq_eq_decide_eq]
  simp (disch := first | assumption | omega) only [SA, SB, SC, SP, SQ, SZ, reduceIte, reduceCtorEq, Nat.reduceAdd, Nat.reduceEqDiff, beq_self_eq_true, S_eta, spec_l1Same, e, *] <;> repeat' (refine fork_eq (fun _ => ?_) (fun _ => ?_) <;> try simp (disch := first | assumption | omega) only [SA, SB, SC, SP, SQ, SZ, reduceIte, reduceCtorEq, Nat.reduceAdd, Nat.reduceEqDiff, beq_self_eq_true, S_eta, spec_l1Same, e, *])
theorem impl_SameAttr (s s' : Int) (xs ys : List Int) (hx : xs.length ≤ 1099511627776) : Fun T 36 [i64 s, rL xs, i64 s', rL ys] = some [.bool (decide ((⟨s, xs⟩ : TAttr) = ⟨s', ys⟩))] := by
  rw [Fun_k (t := tm36) rfl]; unfold tm36
  have e : decide ((⟨s, xs⟩ : TAttr) = ⟨s', ys⟩) = (s == s' && decide (xs = ys)) := by simp [TAttr.mk.injEq, Bool.beq_eq_decide_eq]
  simp (disch := first | assumption | omega) only [SA, SB, SC, SP, SQ, SZ, reduceIte, reduceCtorEq, Nat.reduceAdd, Nat.reduceEqDiff, beq_self_eq_true, S_eta, slices_Equal_int, e, *] <;> repeat' (refine fork_eq (fun _ => ?_) (fun _ => ?_) <;> try simp (disch := first | assumption | omega) only [SA, SB, SC, SP, SQ, SZ, reduceIte, reduceCtorEq, Nat.reduceAdd, Nat.reduceEqDiff, beq_self_eq_true, S_eta, slices_Equal_int, e, *])
theorem spec_l3None (n : Int) (hg : isGrp n = true) : Fun T 13 [i64 n] = some [i64 (none0 n).seq, rL (none0 n).deps] := by
  rw [Fun_k (t := tm13) rfl]; unfold tm13; unfold none0
  have hn := isGrp_rng hg
  simp (disch := first | assumption | omega) only [SA, SB, SC, SP, SQ, SZ, reduceIte, reduceCtorEq, Nat.reduceAdd, Nat.reduceEqDiff, beq_self_eq_true, S_eta, S_make, *] <;> repeat' (refine fork_eq (fun _ => ?_) (fun _ => ?_) <;> try simp (disch := first | assumption | omega) only [SA, SB, SC, SP, SQ, SZ, reduceIte, reduceCtorEq, Nat.reduceAdd, Nat.reduceEqDiff, beq_self_eq_true, S_eta, S_make, *])
theorem impl_noneAttr (n : Int) (hg : isGrp n = true) : Fun T 35 [i64 n] = some [i64 (none0 n).seq, rL (none0 n).deps] := by
  rw [Fun_k (t := tm35) rfl]; unfold tm35; unfold none0
  have hn := isGrp_rng hg
  simp (disch := first | assumption | omega) only [SA, SB, SC, SP, SQ, SZ, reduceIte, reduceCtorEq, Nat.reduceAdd, Nat.reduceEqDiff, beq_self_eq_true, S_eta, S_make, *] <;> repeat' (refine fork_eq (fun _ => ?_) (fun _ => ?_) <;> try simp (disch := first | assumption | omega) only [SA, SB, SC, SP, SQ, SZ, reduceIte, reduceCtorEq, Nat.reduceAdd, Nat.reduceEqDiff, beq_self_eq_true, S_eta, S_make, *])
theorem spec_l4Row (n bal vot sta k i f t a sq : Int) (xs : List Int) (hg : isGrp n = true) (hx : xs.length ≤ 1099511627776) :
    Fun T 12 [i64 n, i64 bal, i64 vot, i64 sta, i64 k, i64 i, i64 f, i64 t, i64 a, i64 sq, rL xs] = some [.bool (rowOk n ⟨bal, vot, sta, ⟨k, i, f, t, a⟩, ⟨sq, xs⟩⟩)] := by
  rw [Fun_k (t := tm12) rfl]; unfold tm12; unfold rowOk
  simp (disch := first | assumption | omega) only [SA, SB, SC, SP, SQ, SZ, reduceIte, reduceCtorEq, Nat.reduceAdd, Nat.reduceEqDiff, beq_self_eq_true, S_eta, spec_l1In, S_eqs, spec_l3None, spec_SameAttr, spec_GoodCmd, spec_l3Attr, *] <;> repeat' (refine fork_eq (fun _ => ?_) (fun _ => ?_) <;> try simp (disch := first | assumption | omega) only [SA, SB, SC, SP, SQ, SZ, reduceIte, reduceCtorEq, Nat.reduceAdd, Nat.reduceEqDiff, beq_self_eq_true, S_eta, spec_l1In, S_eqs, spec_l3None, spec_SameAttr, spec_GoodCmd, spec_l3Attr, *])
theorem impl_goodRow (n bal vot sta k i f t a sq : Int) (xs : List Int) (hg : isGrp n = true) (hx : xs.length ≤ 1099511627776) :
    Fun T 28 [i64 n, i64 bal, i64 vot, i64 sta, i64 k, i64 i, i64 f, i64 t, i64 a, i64 sq, rL xs] = some [.bool (rowOk n ⟨bal, vot, sta, ⟨k, i, f, t, a⟩, ⟨sq, xs⟩⟩)] := by
  rw [Fun_k (t := tm28) rfl]; unfold tm28; unfold rowOk
  have h1 := @cmdZ_ok ⟨k, i, f, t, a⟩
  have h2 := none0_ok hg
  have h3 : decide ((⟨sq, xs⟩ : TAttr) = none0 n) = true → attrOk n ⟨sq, xs⟩ = true := fun h => by rw [of_decide_eq_true h]; exact h2
  simp (disch := first | assumption | omega) only [SA, SB, SC, SP, SQ, SZ, reduceIte, reduceCtorEq, Nat.reduceAdd, Nat.reduceEqDiff, beq_self_eq_true, S_eta, impl_within, S_eqs, impl_noneAttr, impl_SameAttr, impl_GoodCmd, impl_GoodAttr, *] <;> repeat' (refine fork_eq (fun _ => ?_) (fun _ => ?_) <;> try simp (disch := first | assumption | omega) only [SA, SB, SC, SP, SQ, SZ, reduceIte, reduceCtorEq, Nat.reduceAdd, Nat.reduceEqDiff, beq_self_eq_true, S_eta, impl_within, S_eqs, impl_noneAttr, impl_SameAttr, impl_GoodCmd, impl_GoodAttr, *])
  all_goals (refine bool_fin ?_; simp only [Bool.and_eq_true, Bool.or_eq_true, Bool.not_eq_true', Bool.not_eq_false', Bool.and_eq_false_iff, Bool.or_eq_false_iff, Bool.false_eq_true, beq_iff_eq, beq_eq_false_iff_ne, decide_eq_true_eq, decide_eq_false_iff_not, ne_eq] at *; grind)
theorem slices_Clone_int (xs : List Int) (hx : xs.length ≤ 10000000000) : Fun T 27 [rL xs] = some [rL xs] := by
  rw [Fun_ext (e := ex27) rfl]
  cases xs with
  | nil => rfl
  | cons x xs =>
    show Fun (entTab [(27, .tm tm27)]) 27 [rL (x :: xs)] = _
    rw [Fun_k (t := tm27) rfl]
    unfold tm27
    have hx' : (x :: xs).length ≤ 100000000000 := by omega
    have h0 : (Prim.mk 1 0).run [] = some [.rows 1 []] := rfl
    have h1 : (x :: xs).isEmpty = false := rfl
    simp (disch := first | assumption | omega) only [SA, SB, SC, SP, SQ, SZ, reduceIte, reduceCtorEq, Nat.reduceAdd, Nat.reduceEqDiff, rL_ne, rL_emp, h0, h1, S_app]
theorem impl_Attr_copied (s : Int) (xs : List Int) (hx : xs.length ≤ 10000000000) : Fun T 26 [i64 s, rL xs] = some [i64 s, rL xs] := by
  rw [Fun_k (t := tm26) rfl]; unfold tm26
  simp (disch := first | assumption | omega) only [SA, SB, SC, SP, SQ, SZ, reduceIte, reduceCtorEq, Nat.reduceAdd, Nat.reduceEqDiff, beq_self_eq_true, S_eta, slices_Clone_int, *] <;> repeat' (refine fork_eq (fun _ => ?_) (fun _ => ?_) <;> try simp (disch := first | assumption | omega) only [SA, SB, SC, SP, SQ, SZ, reduceIte, reduceCtorEq, Nat.reduceAdd, Nat.reduceEqDiff, beq_self_eq_true, S_eta, slices_Clone_int, *])
theorem impl_Msg_row (m_kind m_src m_dst m_rep m_no m_ballot m_vote m_state m_cmd_kind m_cmd_id m_cmd_src m_cmd_dst m_cmd_amt m_attr_seq : Int) (m_attr_deps : (List Int)) (hx : m_attr_deps.length ≤ 10000000000) : Fun T 25 [i64 m_kind, i64 m_src, i64 m_dst, i64 m_rep, i64 m_no, i64 m_ballot, i64 m_vote, i64 m_state, i64 m_cmd_kind, i64 m_cmd_id, i64 m_cmd_src, i64 m_cmd_dst, i64 m_cmd_amt, i64 m_attr_seq, rL m_attr_deps] = some [i64 m_ballot, i64 m_vote, i64 m_state, i64 m_cmd_kind, i64 m_cmd_id, i64 m_cmd_src, i64 m_cmd_dst, i64 m_cmd_amt, i64 m_attr_seq, rL m_attr_deps] := by
  rw [Fun_k (t := tm25) rfl]; unfold tm25
  simp (disch := first | assumption | omega) only [SA, SB, SC, SP, SQ, SZ, reduceIte, reduceCtorEq, Nat.reduceAdd, Nat.reduceEqDiff, beq_self_eq_true, S_eta, impl_Attr_copied, *] <;> repeat' (refine fork_eq (fun _ => ?_) (fun _ => ?_) <;> try simp (disch := first | assumption | omega) only [SA, SB, SC, SP, SQ, SZ, reduceIte, reduceCtorEq, Nat.reduceAdd, Nat.reduceEqDiff, beq_self_eq_true, S_eta, impl_Attr_copied, *])
theorem spec_GoodMsg (n : Int) (m_kind m_src m_dst m_rep m_no m_ballot m_vote m_state m_cmd_kind m_cmd_id m_cmd_src m_cmd_dst m_cmd_amt m_attr_seq : Int) (m_attr_deps : (List Int)) (hx : m_attr_deps.length ≤ 10000000000) : Fun T 8 [i64 n, i64 m_kind, i64 m_src, i64 m_dst, i64 m_rep, i64 m_no, i64 m_ballot, i64 m_vote, i64 m_state, i64 m_cmd_kind, i64 m_cmd_id, i64 m_cmd_src, i64 m_cmd_dst, i64 m_cmd_amt, i64 m_attr_seq, rL m_attr_deps] = some [.bool (msgOk n ⟨m_kind, m_src, m_dst, m_rep, m_no, m_ballot, m_vote, m_state, ⟨m_cmd_kind, m_cmd_id, m_cmd_src, m_cmd_dst, m_cmd_amt⟩, ⟨m_attr_seq, m_attr_deps⟩⟩)] := by
  rw [Fun_k (t := tm8) rfl]; unfold tm8; unfold msgOk
  have hx' : m_attr_deps.length ≤ 1099511627776 := by omega
  cases hg : isGrp n
  · simp (disch := first | assumption | omega) only [SA, SB, SC, SP, SQ, SZ, reduceIte, reduceCtorEq, Nat.reduceAdd, Nat.reduceEqDiff, beq_self_eq_true, S_eta, spec_IsGroup, *] <;> repeat' (refine fork_eq (fun _ => ?_) (fun _ => ?_) <;> try simp (disch := first | assumption | omega) only [SA, SB, SC, SP, SQ, SZ, reduceIte, reduceCtorEq, Nat.reduceAdd, Nat.reduceEqDiff, beq_self_eq_true, S_eta, spec_IsGroup, *])
  have hn := isGrp_rng hg
  simp (disch := first | assumption | omega) only [SA, SB, SC, SP, SQ, SZ, reduceIte, reduceCtorEq, Nat.reduceAdd, Nat.reduceEqDiff, beq_self_eq_true, S_eta, spec_IsGroup, spec_l1In, spec_l3Inst, spec_l4Row, spec_l3Attr, spec_GoodCmd, S_eqs, spec_l3None, spec_SameAttr, *] <;> repeat' (refine fork_eq (fun _ => ?_) (fun _ => ?_) <;> try simp (disch := first | assumption | omega) only [SA, SB, SC, SP, SQ, SZ, reduceIte, reduceCtorEq, Nat.reduceAdd, Nat.reduceEqDiff, beq_self_eq_true, S_eta, spec_IsGroup, spec_l1In, spec_l3Inst, spec_l4Row, spec_l3Attr, spec_GoodCmd, S_eqs, spec_l3None, spec_SameAttr, *])
  all_goals (refine bool_fin ?_; simp only [Bool.and_eq_true, Bool.or_eq_true, Bool.not_eq_true', Bool.not_eq_false', Bool.and_eq_false_iff, Bool.or_eq_false_iff, Bool.false_eq_true, beq_iff_eq, beq_eq_false_iff_ne, decide_eq_true_eq, decide_eq_false_iff_not, ne_eq] at *; grind)
theorem impl_GoodMsg (n : Int) (m_kind m_src m_dst m_rep m_no m_ballot m_vote m_state m_cmd_kind m_cmd_id m_cmd_src m_cmd_dst m_cmd_amt m_attr_seq : Int) (m_attr_deps : (List Int)) (hx : m_attr_deps.length ≤ 10000000000) : Fun T 21 [i64 n, i64 m_kind, i64 m_src, i64 m_dst, i64 m_rep, i64 m_no, i64 m_ballot, i64 m_vote, i64 m_state, i64 m_cmd_kind, i64 m_cmd_id, i64 m_cmd_src, i64 m_cmd_dst, i64 m_cmd_amt, i64 m_attr_seq, rL m_attr_deps] = some [.bool (msgOk n ⟨m_kind, m_src, m_dst, m_rep, m_no, m_ballot, m_vote, m_state, ⟨m_cmd_kind, m_cmd_id, m_cmd_src, m_cmd_dst, m_cmd_amt⟩, ⟨m_attr_seq, m_attr_deps⟩⟩)] := by
  rw [Fun_k (t := tm21) rfl]; unfold tm21; unfold msgOk
  have hx' : m_attr_deps.length ≤ 1099511627776 := by omega
  cases hg : isGrp n
  · simp (disch := first | assumption | omega) only [SA, SB, SC, SP, SQ, SZ, reduceIte, reduceCtorEq, Nat.reduceAdd, Nat.reduceEqDiff, beq_self_eq_true, S_eta, impl_isInstance, impl_within, *] <;> repeat' (refine fork_eq (fun _ => ?_) (fun _ => ?_) <;> try simp (disch := first | assumption | omega) only [SA, SB, SC, SP, SQ, SZ, reduceIte, reduceCtorEq, Nat.reduceAdd, Nat.reduceEqDiff, beq_self_eq_true, S_eta, impl_isInstance, impl_within, *])
  have hn := isGrp_rng hg
  have hk : inR m_kind 1 7 = true → 1 ≤ m_kind ∧ m_kind ≤ 7 := by simp [inR]
  simp (disch := first | assumption | omega) only [SA, SB, SC, SP, SQ, SZ, reduceIte, reduceCtorEq, Nat.reduceAdd, Nat.reduceEqDiff, beq_self_eq_true, S_eta, impl_isInstance, impl_within, impl_Msg_row, impl_goodRow, impl_GoodAttr, impl_GoodCmd, S_eqs, impl_noneAttr, impl_SameAttr, *] <;> repeat' (refine fork_eq (fun _ => ?_) (fun _ => ?_) <;> try simp (disch := first | assumption | omega) only [SA, SB, SC, SP, SQ, SZ, reduceIte, reduceCtorEq, Nat.reduceAdd, Nat.reduceEqDiff, beq_self_eq_true, S_eta, impl_isInstance, impl_within, impl_Msg_row, impl_goodRow, impl_GoodAttr, impl_GoodCmd, S_eqs, impl_noneAttr, impl_SameAttr, *])
  all_goals (refine bool_fin ?_; simp only [Bool.and_eq_true, Bool.or_eq_true, Bool.not_eq_true', Bool.not_eq_false', Bool.and_eq_false_iff, Bool.or_eq_false_iff, Bool.false_eq_true, beq_iff_eq, beq_eq_false_iff_ne, decide_eq_true_eq, decide_eq_false_iff_not, ne_eq] at *; grind)
theorem law (n : Int) (m_kind m_src m_dst m_rep m_no m_ballot m_vote m_state m_cmd_kind m_cmd_id m_cmd_src m_cmd_dst m_cmd_amt m_attr_seq : Int) (m_attr_deps : (List Int)) (hw : wf_TMsg ⟨m_kind, m_src, m_dst, m_rep, m_no, m_ballot, m_vote, m_state, ⟨m_cmd_kind, m_cmd_id, m_cmd_src, m_cmd_dst, m_cmd_amt⟩, ⟨m_attr_seq, m_attr_deps⟩⟩) : Fun T 0 [i64 n, i64 m_kind, i64 m_src, i64 m_dst, i64 m_rep, i64 m_no, i64 m_ballot, i64 m_vote, i64 m_state, i64 m_cmd_kind, i64 m_cmd_id, i64 m_cmd_src, i64 m_cmd_dst, i64 m_cmd_amt, i64 m_attr_seq, rL m_attr_deps] = some [.bool true] := by
  rw [Fun_k (t := tm0) rfl]; unfold tm0
  by_cases c : ((sz_TMsg ⟨m_kind, m_src, m_dst, m_rep, m_no, m_ballot, m_vote, m_state, ⟨m_cmd_kind, m_cmd_id, m_cmd_src, m_cmd_dst, m_cmd_amt⟩, ⟨m_attr_seq, m_attr_deps⟩⟩ : Nat) : Int) ≤ 1048576
  · have e : szR 1048576 (sz_TMsg ⟨m_kind, m_src, m_dst, m_rep, m_no, m_ballot, m_vote, m_state, ⟨m_cmd_kind, m_cmd_id, m_cmd_src, m_cmd_dst, m_cmd_amt⟩, ⟨m_attr_seq, m_attr_deps⟩⟩) = 1048576 - (sz_TMsg ⟨m_kind, m_src, m_dst, m_rep, m_no, m_ballot, m_vote, m_state, ⟨m_cmd_kind, m_cmd_id, m_cmd_src, m_cmd_dst, m_cmd_amt⟩, ⟨m_attr_seq, m_attr_deps⟩⟩ : Nat) := if_pos c
    have d : decide (1048576 - ((sz_TMsg ⟨m_kind, m_src, m_dst, m_rep, m_no, m_ballot, m_vote, m_state, ⟨m_cmd_kind, m_cmd_id, m_cmd_src, m_cmd_dst, m_cmd_amt⟩, ⟨m_attr_seq, m_attr_deps⟩⟩ : Nat) : Int) < 0) = false := by simp; omega
    have s1 : sz_TMsg ⟨m_kind, m_src, m_dst, m_rep, m_no, m_ballot, m_vote, m_state, ⟨m_cmd_kind, m_cmd_id, m_cmd_src, m_cmd_dst, m_cmd_amt⟩, ⟨m_attr_seq, m_attr_deps⟩⟩ ≤ 1048576 := by omega
    have s2 : sz_TMsg ⟨m_kind, m_src, m_dst, m_rep, m_no, m_ballot, m_vote, m_state, ⟨m_cmd_kind, m_cmd_id, m_cmd_src, m_cmd_dst, m_cmd_amt⟩, ⟨m_attr_seq, m_attr_deps⟩⟩ ≤ 1099511627776 := by omega
    have s3 : m_attr_deps.length ≤ 10000000000 := by
      have h : sz_TMsg ⟨m_kind, m_src, m_dst, m_rep, m_no, m_ballot, m_vote, m_state, ⟨m_cmd_kind, m_cmd_id, m_cmd_src, m_cmd_dst, m_cmd_amt⟩, ⟨m_attr_seq, m_attr_deps⟩⟩ = m_attr_deps.length := szL_zero
      omega
    simp (disch := first | assumption | omega) only [SA, SB, SC, SP, SQ, SZ, reduceIte, reduceCtorEq, Nat.reduceAdd, Nat.reduceEqDiff, beq_self_eq_true, S_eta, lsz_TMsg, lto_TMsg, spec_GoodMsg, impl_GoodMsg, leq_TMsg, decide_true, *] <;> repeat' (refine fork_eq (fun _ => ?_) (fun _ => ?_) <;> try simp (disch := first | assumption | omega) only [SA, SB, SC, SP, SQ, SZ, reduceIte, reduceCtorEq, Nat.reduceAdd, Nat.reduceEqDiff, beq_self_eq_true, S_eta, lsz_TMsg, lto_TMsg, spec_GoodMsg, impl_GoodMsg, leq_TMsg, decide_true, *])
  · have e : szR 1048576 (sz_TMsg ⟨m_kind, m_src, m_dst, m_rep, m_no, m_ballot, m_vote, m_state, ⟨m_cmd_kind, m_cmd_id, m_cmd_src, m_cmd_dst, m_cmd_amt⟩, ⟨m_attr_seq, m_attr_deps⟩⟩) = -1 := if_neg c
    have d : decide ((-1 : Int) < 0) = true := rfl
    simp (disch := first | assumption | omega) only [SA, SB, SC, SP, SQ, SZ, reduceIte, reduceCtorEq, Nat.reduceAdd, Nat.reduceEqDiff, beq_self_eq_true, S_eta, lsz_TMsg, *] <;> repeat' (refine fork_eq (fun _ => ?_) (fun _ => ?_) <;> try simp (disch := first | assumption | omega) only [SA, SB, SC, SP, SQ, SZ, reduceIte, reduceCtorEq, Nat.reduceAdd, Nat.reduceEqDiff, beq_self_eq_true, S_eta, lsz_TMsg, *])
theorem hpure : ∀ ds, WTs [.int .i64, .int .i64, .int .i64, .int .i64, .int .i64, .int .i64, .int .i64, .int .i64, .int .i64, .int .i64, .int .i64, .int .i64, .int .i64, .int .i64, .int .i64, .sl 8 [.int .i64]] ds → ∃ n, callN T n 0 ds = some [.bool true] := by
  intro ds h
  simp only [WTs] at h
  obtain ⟨d0, r0, rfl, w0, d1, r1, rfl, w1, d2, r2, rfl, w2, d3, r3, rfl, w3, d4, r4, rfl, w4, d5, r5, rfl, w5, d6, r6, rfl, w6, d7, r7, rfl, w7, d8, r8, rfl, w8, d9, r9, rfl, w9, d10, r10, rfl, w10, d11, r11, rfl, w11, d12, r12, rfl, w12, d13, r13, rfl, w13, d14, r14, rfl, w14, d15, r15, rfl, w15, rfl⟩ := h
  obtain ⟨n, rfl, hn1, hn2⟩ := WT_int w0
  obtain ⟨m, e_m, hw_m⟩ := dec_TMsg [d1, d2, d3, d4, d5, d6, d7, d8, d9, d10, d11, d12, d13, d14, d15] (by simp only [WTs]; exact ⟨_, _, rfl, w1, _, _, rfl, w2, _, _, rfl, w3, _, _, rfl, w4, _, _, rfl, w5, _, _, rfl, w6, _, _, rfl, w7, _, _, rfl, w8, _, _, rfl, w9, _, _, rfl, w10, _, _, rfl, w11, _, _, rfl, w12, _, _, rfl, w13, _, _, rfl, w14, _, _, rfl, w15, rfl⟩)
  simp only [Enc.enc, List.cons.injEq, and_true] at e_m
  obtain ⟨rfl, rfl, rfl, rfl, rfl, rfl, rfl, rfl, rfl, rfl, rfl, rfl, rfl, rfl, rfl⟩ := e_m
  exact pure_of (law n (m.kind) (m.src) (m.dst) (m.rep) (m.no) (m.ballot) (m.vote) (m.state) (m.cmd.kind) (m.cmd.id) (m.cmd.src) (m.cmd.dst) (m.cmd.amt) (m.attr.seq) (m.attr.deps) hw_m)
end FnExactGoodMsg
end Go.Proofs.Ytacfmplofkjonaa
