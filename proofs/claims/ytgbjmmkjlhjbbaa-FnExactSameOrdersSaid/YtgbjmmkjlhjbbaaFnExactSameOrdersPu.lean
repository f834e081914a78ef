/- What the terms of FnExactSameOrders come to. -/
import Derived.Test.YtgbjmmkjlhjbbaaFnExactSameOrdersTab
namespace Go.Proofs.Ytgbjmmkjlhjbbaa
namespace FnExactSameOrders
open Go Go.Proofs.Ytgbjmmkjlhjbbaa.Rf
set_option linter.unusedSimpArgs false
set_option linter.unusedVariables false
set_option linter.unnecessarySimpa false
set_option maxHeartbeats 4000000
set_option maxRecDepth 10000
theorem dec_LI (ds : List D) (h : WTs [.sl 8 [.int .i64]] ds) : ∃ x : (List Int), ds = Enc.enc x ∧ x.length ≤ 140737488351232 := by
 simp only [WTs] at h
 obtain ⟨d, r, rfl, w, rfl⟩ := h
 obtain ⟨x, rfl, l, p⟩ := WT_rL (α := Int) (P := fun _ => True) rfl dec_int w
 exact ⟨x, rfl, reach_len l (by decide)⟩
theorem dec_LLI (ds : List D) (h : WTs [.sl 24 [.sl 8 [.int .i64]]] ds) : ∃ x : (List (List Int)), ds = Enc.enc x ∧ x.length ≤ 140737488351232 ∧ ∀ y0 ∈ x, y0.length ≤ 140737488351232 := by
 simp only [WTs] at h
 obtain ⟨d, r, rfl, w, rfl⟩ := h
 obtain ⟨x, rfl, l, p⟩ := WT_rL (α := (List Int)) (P := fun y => y.length ≤ 140737488351232) rfl (dec_LI) w
 exact ⟨x, rfl, ⟨reach_len l (by decide), p⟩⟩
theorem lto_TCmd (x_kind x_id x_src x_dst x_amt : Int) : Fun T 14 [i64 x_kind, i64 x_id, i64 x_src, i64 x_dst, i64 x_amt] = some [i64 x_kind, i64 x_id, i64 x_src, i64 x_dst, i64 x_amt] := by
 rw [Fun_k (t := tm14) rfl]; unfold tm14
 simp (maxSteps := 2000000) (disch := first | assumption | omega) only [SA, SB, SC, SP, SQ, SZ, reduceIte, reduceCtorEq, Nat.reduceAdd, Nat.reduceEqDiff, beq_self_eq_true, decide_true, decide_false, Int.reduceBEq, Int.reduceLT, Int.reduceLE, cast1, S_eta, *] <;> repeat' (refine fork_eq (fun _ => ?_) (fun _ => ?_) <;> try simp (maxSteps := 2000000) (disch := first | assumption | omega) only [SA, SB, SC, SP, SQ, SZ, reduceIte, reduceCtorEq, Nat.reduceAdd, Nat.reduceEqDiff, beq_self_eq_true, decide_true, decide_false, Int.reduceBEq, Int.reduceLT, Int.reduceLE, cast1, S_eta, *])
theorem leq_TCmd (x_kind x_id x_src x_dst x_amt : Int) (y_kind y_id y_src y_dst y_amt : Int) : Fun T 87 [i64 x_kind, i64 x_id, i64 x_src, i64 x_dst, i64 x_amt, i64 y_kind, i64 y_id, i64 y_src, i64 y_dst, i64 y_amt] = some [.bool (decide ((⟨x_kind, x_id, x_src, x_dst, x_amt⟩ : TCmd) = ⟨y_kind, y_id, y_src, y_dst, y_amt⟩))] := by
 rw [Fun_k (t := tm87) rfl]; unfold tm87
 have e : decide ((⟨x_kind, x_id, x_src, x_dst, x_amt⟩ : TCmd) = ⟨y_kind, y_id, y_src, y_dst, y_amt⟩) = ((x_kind == y_kind) && (x_id == y_id) && (x_src == y_src) && (x_dst == y_dst) && (x_amt == y_amt)) := by
  simp only [TCmd.mk.injEq, Bool.beq_eq_decide_eq, Bool.decide_and, Bool.and_assoc]
 rw [e]
 simp (maxSteps := 2000000) (disch := first | assumption | omega) only [SA, SB, SC, SP, SQ, SZ, reduceIte, reduceCtorEq, Nat.reduceAdd, Nat.reduceEqDiff, beq_self_eq_true, decide_true, decide_false, Int.reduceBEq, Int.reduceLT, Int.reduceLE, cast1, S_eta, *] <;> repeat' (refine fork_eq (fun _ => ?_) (fun _ => ?_) <;> try simp (maxSteps := 2000000) (disch := first | assumption | omega) only [SA, SB, SC, SP, SQ, SZ, reduceIte, reduceCtorEq, Nat.reduceAdd, Nat.reduceEqDiff, beq_self_eq_true, decide_true, decide_false, Int.reduceBEq, Int.reduceLT, Int.reduceLE, cast1, S_eta, *])
theorem lsz_LI (xs : (List Int)) (l : Int) (h0 : 0 ≤ l) (h1 : l ≤ 1048576) (hw : xs.length ≤ 140737488351232) : Fun T 2 [rL xs, i64 l] = some [i64 (szR l (szL (fun _ => 0) xs))] := by
 rw [Fun_k (t := tm2) rfl]; unfold tm2
 have es : szL (fun _ => 0) xs = xs.length := szL_zero
 rw [es]
 by_cases c : (xs.length : Int) ≤ l
 ·have e : szR l xs.length = l - xs.length := if_pos c
  have d : decide (l - (xs.length : Int) < 0) = false := by simp; omega
  simp (maxSteps := 2000000) (disch := first | assumption | omega) only [SA, SB, SC, SP, SQ, SZ, reduceIte, reduceCtorEq, Nat.reduceAdd, Nat.reduceEqDiff, beq_self_eq_true, decide_true, decide_false, Int.reduceBEq, Int.reduceLT, Int.reduceLE, cast1, S_eta, *] <;> repeat' (refine fork_eq (fun _ => ?_) (fun _ => ?_) <;> try simp (maxSteps := 2000000) (disch := first | assumption | omega) only [SA, SB, SC, SP, SQ, SZ, reduceIte, reduceCtorEq, Nat.reduceAdd, Nat.reduceEqDiff, beq_self_eq_true, decide_true, decide_false, Int.reduceBEq, Int.reduceLT, Int.reduceLE, cast1, S_eta, *])
 ·have e : szR l xs.length = -1 := if_neg c
  have d : decide (l - (xs.length : Int) < 0) = true := by simp; omega
  simp (maxSteps := 2000000) (disch := first | assumption | omega) only [SA, SB, SC, SP, SQ, SZ, reduceIte, reduceCtorEq, Nat.reduceAdd, Nat.reduceEqDiff, beq_self_eq_true, decide_true, decide_false, Int.reduceBEq, Int.reduceLT, Int.reduceLE, cast1, S_eta, *] <;> repeat' (refine fork_eq (fun _ => ?_) (fun _ => ?_) <;> try simp (maxSteps := 2000000) (disch := first | assumption | omega) only [SA, SB, SC, SP, SQ, SZ, reduceIte, reduceCtorEq, Nat.reduceAdd, Nat.reduceEqDiff, beq_self_eq_true, decide_true, decide_false, Int.reduceBEq, Int.reduceLT, Int.reduceLE, cast1, S_eta, *])
theorem lto_LI (xs : (List Int)) (hs : szL (fun _ => 0) xs ≤ 1048576) : Fun T 9 [rL xs] = some [rL xs] := by
 rw [Fun_k (t := tm9) rfl]; unfold tm9
 have hl : xs.length ≤ 1048576 := Nat.le_trans szL_len hs
 simp (maxSteps := 2000000) (disch := first | assumption | omega) only [SA, SB, SC, SP, SQ, SZ, reduceIte, reduceCtorEq, Nat.reduceAdd, Nat.reduceEqDiff, beq_self_eq_true, decide_true, decide_false, Int.reduceBEq, Int.reduceLT, Int.reduceLE, cast1, S_eta, S_make, Int.toNat_natCast, *]
 rw [toLoop xs rfl]
 ·simp (maxSteps := 2000000) (disch := first | assumption | omega) only [SA, SB, SC, SP, SQ, SZ, reduceIte, reduceCtorEq, Nat.reduceAdd, Nat.reduceEqDiff, beq_self_eq_true, decide_true, decide_false, Int.reduceBEq, Int.reduceLT, Int.reduceLE, cast1, S_eta, *] <;> repeat' (refine fork_eq (fun _ => ?_) (fun _ => ?_) <;> try simp (maxSteps := 2000000) (disch := first | assumption | omega) only [SA, SB, SC, SP, SQ, SZ, reduceIte, reduceCtorEq, Nat.reduceAdd, Nat.reduceEqDiff, beq_self_eq_true, decide_true, decide_false, Int.reduceBEq, Int.reduceLT, Int.reduceLE, cast1, S_eta, *])
 ·intro i ys hi hb hb' hl'
  simp (maxSteps := 2000000) (disch := first | assumption | omega) only [SA, SB, SC, SP, SQ, SZ, reduceIte, reduceCtorEq, Nat.reduceAdd, Nat.reduceEqDiff, beq_self_eq_true, decide_true, decide_false, Int.reduceBEq, Int.reduceLT, Int.reduceLE, cast1, S_eta, S_row, S_set, *] <;> repeat' (refine fork_eq (fun _ => ?_) (fun _ => ?_) <;> try simp (maxSteps := 2000000) (disch := first | assumption | omega) only [SA, SB, SC, SP, SQ, SZ, reduceIte, reduceCtorEq, Nat.reduceAdd, Nat.reduceEqDiff, beq_self_eq_true, decide_true, decide_false, Int.reduceBEq, Int.reduceLT, Int.reduceLE, cast1, S_eta, S_row, S_set, *])
 ·intro ys hl'
  simp (maxSteps := 2000000) (disch := first | assumption | omega) only [SA, SB, SC, SP, SQ, SZ, reduceIte, reduceCtorEq, Nat.reduceAdd, Nat.reduceEqDiff, beq_self_eq_true, decide_true, decide_false, Int.reduceBEq, Int.reduceLT, Int.reduceLE, cast1, S_eta, *] <;> repeat' (refine fork_eq (fun _ => ?_) (fun _ => ?_) <;> try simp (maxSteps := 2000000) (disch := first | assumption | omega) only [SA, SB, SC, SP, SQ, SZ, reduceIte, reduceCtorEq, Nat.reduceAdd, Nat.reduceEqDiff, beq_self_eq_true, decide_true, decide_false, Int.reduceBEq, Int.reduceLT, Int.reduceLE, cast1, S_eta, *])
theorem leq_LI (xs ys : (List Int)) (hs : szL (fun _ => 0) xs ≤ 1099511627776) : Fun T 82 [rL xs, rL ys] = some [.bool (decide (xs = ys))] := by
 rw [Fun_k (t := tm82) rfl]; unfold tm82
 have hx : xs.length ≤ 1099511627776 := Nat.le_trans szL_len hs
 by_cases hl : ys.length = xs.length
 ·simp (maxSteps := 2000000) (disch := first | assumption | omega) only [SA, SB, SC, SP, SQ, SZ, reduceIte, reduceCtorEq, Nat.reduceAdd, Nat.reduceEqDiff, beq_self_eq_true, decide_true, decide_false, Int.reduceBEq, Int.reduceLT, Int.reduceLE, cast1, S_eta, *]
  rw [scanX 1 xs.length (fun i => decide (atI xs i = atI ys i)) [.bool false], allB_eq hl.symm]
  ·simp (maxSteps := 2000000) (disch := first | assumption | omega) only [SA, SB, SC, SP, SQ, SZ, reduceIte, reduceCtorEq, Nat.reduceAdd, Nat.reduceEqDiff, beq_self_eq_true, decide_true, decide_false, Int.reduceBEq, Int.reduceLT, Int.reduceLE, cast1, S_eta, *] <;> repeat' (refine fork_eq (fun _ => ?_) (fun _ => ?_) <;> try simp (maxSteps := 2000000) (disch := first | assumption | omega) only [SA, SB, SC, SP, SQ, SZ, reduceIte, reduceCtorEq, Nat.reduceAdd, Nat.reduceEqDiff, beq_self_eq_true, decide_true, decide_false, Int.reduceBEq, Int.reduceLT, Int.reduceLE, cast1, S_eta, *])
  ·intro i hi hp
   have hb : InB xs (i : Int) := InB_nat.2 hi
   have hb' : InB ys (i : Int) := InB_nat.2 (by omega)
   have h2 : decide ((i : Int) < xs.length) = true := by simp; omega
   have h3 : (atI xs i == atI ys i) = true := by simpa using hp
   simp (maxSteps := 2000000) (disch := first | assumption | omega) only [SA, SB, SC, SP, SQ, SZ, reduceIte, reduceCtorEq, Nat.reduceAdd, Nat.reduceEqDiff, beq_self_eq_true, decide_true, decide_false, Int.reduceBEq, Int.reduceLT, Int.reduceLE, cast1, S_eta, S_row, *] <;> repeat' (refine fork_eq (fun _ => ?_) (fun _ => ?_) <;> try simp (maxSteps := 2000000) (disch := first | assumption | omega) only [SA, SB, SC, SP, SQ, SZ, reduceIte, reduceCtorEq, Nat.reduceAdd, Nat.reduceEqDiff, beq_self_eq_true, decide_true, decide_false, Int.reduceBEq, Int.reduceLT, Int.reduceLE, cast1, S_eta, S_row, *])
  ·intro i hi hp
   have hb : InB xs (i : Int) := InB_nat.2 hi
   have hb' : InB ys (i : Int) := InB_nat.2 (by omega)
   have h2 : decide ((i : Int) < xs.length) = true := by simp; omega
   have h3 : (atI xs i == atI ys i) = false := by simpa using hp
   simp (maxSteps := 2000000) (disch := first | assumption | omega) only [SA, SB, SC, SP, SQ, SZ, reduceIte, reduceCtorEq, Nat.reduceAdd, Nat.reduceEqDiff, beq_self_eq_true, decide_true, decide_false, Int.reduceBEq, Int.reduceLT, Int.reduceLE, cast1, S_eta, S_row, *] <;> repeat' (refine fork_eq (fun _ => ?_) (fun _ => ?_) <;> try simp (maxSteps := 2000000) (disch := first | assumption | omega) only [SA, SB, SC, SP, SQ, SZ, reduceIte, reduceCtorEq, Nat.reduceAdd, Nat.reduceEqDiff, beq_self_eq_true, decide_true, decide_false, Int.reduceBEq, Int.reduceLT, Int.reduceLE, cast1, S_eta, S_row, *])
  ·have h2 : decide ((xs.length : Int) < xs.length) = false := by simp
   simp (maxSteps := 2000000) (disch := first | assumption | omega) only [SA, SB, SC, SP, SQ, SZ, reduceIte, reduceCtorEq, Nat.reduceAdd, Nat.reduceEqDiff, beq_self_eq_true, decide_true, decide_false, Int.reduceBEq, Int.reduceLT, Int.reduceLE, cast1, S_eta, *] <;> repeat' (refine fork_eq (fun _ => ?_) (fun _ => ?_) <;> try simp (maxSteps := 2000000) (disch := first | assumption | omega) only [SA, SB, SC, SP, SQ, SZ, reduceIte, reduceCtorEq, Nat.reduceAdd, Nat.reduceEqDiff, beq_self_eq_true, decide_true, decide_false, Int.reduceBEq, Int.reduceLT, Int.reduceLE, cast1, S_eta, *])
 ·have hl' : ((xs.length : Int) == (ys.length : Int)) = false := by simp; omega
  have e := eq_len (fun h => hl h.symm)
  simp (maxSteps := 2000000) (disch := first | assumption | omega) only [SA, SB, SC, SP, SQ, SZ, reduceIte, reduceCtorEq, Nat.reduceAdd, Nat.reduceEqDiff, beq_self_eq_true, decide_true, decide_false, Int.reduceBEq, Int.reduceLT, Int.reduceLE, cast1, S_eta, *] <;> repeat' (refine fork_eq (fun _ => ?_) (fun _ => ?_) <;> try simp (maxSteps := 2000000) (disch := first | assumption | omega) only [SA, SB, SC, SP, SQ, SZ, reduceIte, reduceCtorEq, Nat.reduceAdd, Nat.reduceEqDiff, beq_self_eq_true, decide_true, decide_false, Int.reduceBEq, Int.reduceLT, Int.reduceLE, cast1, S_eta, *])
theorem lsz_TAttr (x_seq : Int) (x_deps : (List Int)) (l : Int) (h0 : 0 ≤ l) (h1 : l ≤ 1048576) (hw : wf_TAttr ⟨x_seq, x_deps⟩) : Fun T 7 [i64 x_seq, rL x_deps, i64 l] = some [i64 (szR l (sz_TAttr ⟨x_seq, x_deps⟩))] := by
 rw [Fun_k (t := tm7) rfl]; unfold tm7
 unfold wf_TAttr at hw
 simp only at hw
 have w0 := hw
 by_cases c0 : ((szL (fun _ => 0) x_deps : Nat) : Int) ≤ l
 rotate_left
 ·have e0 : szR (l) (szL (fun _ => 0) x_deps) = -1 := if_neg c0
  have d0 : decide ((-1 : Int) < 0) = true := rfl
  have e : szR l (sz_TAttr ⟨x_seq, x_deps⟩) = -1 := by unfold szR sz_TAttr; simp only []; split <;> omega
  simp (maxSteps := 2000000) (disch := first | assumption | omega) only [SA, SB, SC, SP, SQ, SZ, reduceIte, reduceCtorEq, Nat.reduceAdd, Nat.reduceEqDiff, beq_self_eq_true, decide_true, decide_false, Int.reduceBEq, Int.reduceLT, Int.reduceLE, cast1, S_eta, lsz_LI, *] <;> repeat' (refine fork_eq (fun _ => ?_) (fun _ => ?_) <;> try simp (maxSteps := 2000000) (disch := first | assumption | omega) only [SA, SB, SC, SP, SQ, SZ, reduceIte, reduceCtorEq, Nat.reduceAdd, Nat.reduceEqDiff, beq_self_eq_true, decide_true, decide_false, Int.reduceBEq, Int.reduceLT, Int.reduceLE, cast1, S_eta, lsz_LI, *])
 have e0 : szR (l) (szL (fun _ => 0) x_deps) = l - (szL (fun _ => 0) x_deps : Nat) := if_pos c0
 have d0 : decide (l - ((szL (fun _ => 0) x_deps : Nat) : Int) < 0) = false := by simp; omega
 have e : szR l (sz_TAttr ⟨x_seq, x_deps⟩) = l - ((szL (fun _ => 0) x_deps : Nat) : Int) := by unfold szR sz_TAttr; simp only []; split <;> omega
 simp (maxSteps := 2000000) (disch := first | assumption | omega) only [SA, SB, SC, SP, SQ, SZ, reduceIte, reduceCtorEq, Nat.reduceAdd, Nat.reduceEqDiff, beq_self_eq_true, decide_true, decide_false, Int.reduceBEq, Int.reduceLT, Int.reduceLE, cast1, S_eta, lsz_LI, *] <;> repeat' (refine fork_eq (fun _ => ?_) (fun _ => ?_) <;> try simp (maxSteps := 2000000) (disch := first | assumption | omega) only [SA, SB, SC, SP, SQ, SZ, reduceIte, reduceCtorEq, Nat.reduceAdd, Nat.reduceEqDiff, beq_self_eq_true, decide_true, decide_false, Int.reduceBEq, Int.reduceLT, Int.reduceLE, cast1, S_eta, lsz_LI, *])
theorem lto_TAttr (x_seq : Int) (x_deps : (List Int)) (hs : sz_TAttr ⟨x_seq, x_deps⟩ ≤ 1048576) : Fun T 15 [i64 x_seq, rL x_deps] = some [i64 x_seq, rL x_deps] := by
 rw [Fun_k (t := tm15) rfl]; unfold tm15
 unfold sz_TAttr at hs
 simp only at hs
 have s0 : szL (fun _ => 0) x_deps ≤ 1048576 := by omega
 simp (maxSteps := 2000000) (disch := first | assumption | omega) only [SA, SB, SC, SP, SQ, SZ, reduceIte, reduceCtorEq, Nat.reduceAdd, Nat.reduceEqDiff, beq_self_eq_true, decide_true, decide_false, Int.reduceBEq, Int.reduceLT, Int.reduceLE, cast1, S_eta, lto_LI, *] <;> repeat' (refine fork_eq (fun _ => ?_) (fun _ => ?_) <;> try simp (maxSteps := 2000000) (disch := first | assumption | omega) only [SA, SB, SC, SP, SQ, SZ, reduceIte, reduceCtorEq, Nat.reduceAdd, Nat.reduceEqDiff, beq_self_eq_true, decide_true, decide_false, Int.reduceBEq, Int.reduceLT, Int.reduceLE, cast1, S_eta, lto_LI, *])
theorem leq_TAttr (x_seq : Int) (x_deps : (List Int)) (y_seq : Int) (y_deps : (List Int)) (hs : sz_TAttr ⟨x_seq, x_deps⟩ ≤ 1099511627776) : Fun T 88 [i64 x_seq, rL x_deps, i64 y_seq, rL y_deps] = some [.bool (decide ((⟨x_seq, x_deps⟩ : TAttr) = ⟨y_seq, y_deps⟩))] := by
 rw [Fun_k (t := tm88) rfl]; unfold tm88
 unfold sz_TAttr at hs
 simp only at hs
 have s0 : szL (fun _ => 0) x_deps ≤ 1099511627776 := by omega
 have e : decide ((⟨x_seq, x_deps⟩ : TAttr) = ⟨y_seq, y_deps⟩) = ((x_seq == y_seq) && decide ((x_deps : (List Int)) = y_deps)) := by
  simp only [TAttr.mk.injEq, Bool.beq_eq_decide_eq, Bool.decide_and, Bool.and_assoc]
 rw [e]
 simp (maxSteps := 2000000) (disch := first | assumption | omega) only [SA, SB, SC, SP, SQ, SZ, reduceIte, reduceCtorEq, Nat.reduceAdd, Nat.reduceEqDiff, beq_self_eq_true, decide_true, decide_false, Int.reduceBEq, Int.reduceLT, Int.reduceLE, cast1, S_eta, leq_LI, *] <;> repeat' (refine fork_eq (fun _ => ?_) (fun _ => ?_) <;> try simp (maxSteps := 2000000) (disch := first | assumption | omega) only [SA, SB, SC, SP, SQ, SZ, reduceIte, reduceCtorEq, Nat.reduceAdd, Nat.reduceEqDiff, beq_self_eq_true, decide_true, decide_false, Int.reduceBEq, Int.reduceLT, Int.reduceLE, cast1, S_eta, leq_LI, *])
theorem lsz_TRow (x_ballot x_vote x_state x_cmd_kind x_cmd_id x_cmd_src x_cmd_dst x_cmd_amt x_attr_seq : Int) (x_attr_deps : (List Int)) (l : Int) (h0 : 0 ≤ l) (h1 : l ≤ 1048576) (hw : wf_TRow ⟨x_ballot, x_vote, x_state, ⟨x_cmd_kind, x_cmd_id, x_cmd_src, x_cmd_dst, x_cmd_amt⟩, ⟨x_attr_seq, x_attr_deps⟩⟩) : Fun T 6 [i64 x_ballot, i64 x_vote, i64 x_state, i64 x_cmd_kind, i64 x_cmd_id, i64 x_cmd_src, i64 x_cmd_dst, i64 x_cmd_amt, i64 x_attr_seq, rL x_attr_deps, i64 l] = some [i64 (szR l (sz_TRow ⟨x_ballot, x_vote, x_state, ⟨x_cmd_kind, x_cmd_id, x_cmd_src, x_cmd_dst, x_cmd_amt⟩, ⟨x_attr_seq, x_attr_deps⟩⟩))] := by
 rw [Fun_k (t := tm6) rfl]; unfold tm6
 unfold wf_TRow at hw
 simp only at hw
 have w0 := hw
 by_cases c0 : ((sz_TAttr ⟨x_attr_seq, x_attr_deps⟩ : Nat) : Int) ≤ l
 rotate_left
 ·have e0 : szR (l) (sz_TAttr ⟨x_attr_seq, x_attr_deps⟩) = -1 := if_neg c0
  have d0 : decide ((-1 : Int) < 0) = true := rfl
  have e : szR l (sz_TRow ⟨x_ballot, x_vote, x_state, ⟨x_cmd_kind, x_cmd_id, x_cmd_src, x_cmd_dst, x_cmd_amt⟩, ⟨x_attr_seq, x_attr_deps⟩⟩) = -1 := by unfold szR sz_TRow; simp only []; split <;> omega
  simp (maxSteps := 2000000) (disch := first | assumption | omega) only [SA, SB, SC, SP, SQ, SZ, reduceIte, reduceCtorEq, Nat.reduceAdd, Nat.reduceEqDiff, beq_self_eq_true, decide_true, decide_false, Int.reduceBEq, Int.reduceLT, Int.reduceLE, cast1, S_eta, lsz_TAttr, *] <;> repeat' (refine fork_eq (fun _ => ?_) (fun _ => ?_) <;> try simp (maxSteps := 2000000) (disch := first | assumption | omega) only [SA, SB, SC, SP, SQ, SZ, reduceIte, reduceCtorEq, Nat.reduceAdd, Nat.reduceEqDiff, beq_self_eq_true, decide_true, decide_false, Int.reduceBEq, Int.reduceLT, Int.reduceLE, cast1, S_eta, lsz_TAttr, *])
 have e0 : szR (l) (sz_TAttr ⟨x_attr_seq, x_attr_deps⟩) = l - (sz_TAttr ⟨x_attr_seq, x_attr_deps⟩ : Nat) := if_pos c0
 have d0 : decide (l - ((sz_TAttr ⟨x_attr_seq, x_attr_deps⟩ : Nat) : Int) < 0) = false := by simp; omega
 have e : szR l (sz_TRow ⟨x_ballot, x_vote, x_state, ⟨x_cmd_kind, x_cmd_id, x_cmd_src, x_cmd_dst, x_cmd_amt⟩, ⟨x_attr_seq, x_attr_deps⟩⟩) = l - ((sz_TAttr ⟨x_attr_seq, x_attr_deps⟩ : Nat) : Int) := by unfold szR sz_TRow; simp only []; split <;> omega
 simp (maxSteps := 2000000) (disch := first | assumption | omega) only [SA, SB, SC, SP, SQ, SZ, reduceIte, reduceCtorEq, Nat.reduceAdd, Nat.reduceEqDiff, beq_self_eq_true, decide_true, decide_false, Int.reduceBEq, Int.reduceLT, Int.reduceLE, cast1, S_eta, lsz_TAttr, *] <;> repeat' (refine fork_eq (fun _ => ?_) (fun _ => ?_) <;> try simp (maxSteps := 2000000) (disch := first | assumption | omega) only [SA, SB, SC, SP, SQ, SZ, reduceIte, reduceCtorEq, Nat.reduceAdd, Nat.reduceEqDiff, beq_self_eq_true, decide_true, decide_false, Int.reduceBEq, Int.reduceLT, Int.reduceLE, cast1, S_eta, lsz_TAttr, *])
theorem lto_TRow (x_ballot x_vote x_state x_cmd_kind x_cmd_id x_cmd_src x_cmd_dst x_cmd_amt x_attr_seq : Int) (x_attr_deps : (List Int)) (hs : sz_TRow ⟨x_ballot, x_vote, x_state, ⟨x_cmd_kind, x_cmd_id, x_cmd_src, x_cmd_dst, x_cmd_amt⟩, ⟨x_attr_seq, x_attr_deps⟩⟩ ≤ 1048576) : Fun T 13 [i64 x_ballot, i64 x_vote, i64 x_state, i64 x_cmd_kind, i64 x_cmd_id, i64 x_cmd_src, i64 x_cmd_dst, i64 x_cmd_amt, i64 x_attr_seq, rL x_attr_deps] = some [i64 x_ballot, i64 x_vote, i64 x_state, i64 x_cmd_kind, i64 x_cmd_id, i64 x_cmd_src, i64 x_cmd_dst, i64 x_cmd_amt, i64 x_attr_seq, rL x_attr_deps] := by
 rw [Fun_k (t := tm13) rfl]; unfold tm13
 unfold sz_TRow at hs
 simp only at hs
 have s0 : sz_TAttr ⟨x_attr_seq, x_attr_deps⟩ ≤ 1048576 := by omega
 simp (maxSteps := 2000000) (disch := first | assumption | omega) only [SA, SB, SC, SP, SQ, SZ, reduceIte, reduceCtorEq, Nat.reduceAdd, Nat.reduceEqDiff, beq_self_eq_true, decide_true, decide_false, Int.reduceBEq, Int.reduceLT, Int.reduceLE, cast1, S_eta, lto_TCmd, lto_TAttr, *] <;> repeat' (refine fork_eq (fun _ => ?_) (fun _ => ?_) <;> try simp (maxSteps := 2000000) (disch := first | assumption | omega) only [SA, SB, SC, SP, SQ, SZ, reduceIte, reduceCtorEq, Nat.reduceAdd, Nat.reduceEqDiff, beq_self_eq_true, decide_true, decide_false, Int.reduceBEq, Int.reduceLT, Int.reduceLE, cast1, S_eta, lto_TCmd, lto_TAttr, *])
theorem leq_TRow (x_ballot x_vote x_state x_cmd_kind x_cmd_id x_cmd_src x_cmd_dst x_cmd_amt x_attr_seq : Int) (x_attr_deps : (List Int)) (y_ballot y_vote y_state y_cmd_kind y_cmd_id y_cmd_src y_cmd_dst y_cmd_amt y_attr_seq : Int) (y_attr_deps : (List Int)) (hs : sz_TRow ⟨x_ballot, x_vote, x_state, ⟨x_cmd_kind, x_cmd_id, x_cmd_src, x_cmd_dst, x_cmd_amt⟩, ⟨x_attr_seq, x_attr_deps⟩⟩ ≤ 1099511627776) : Fun T 86 [i64 x_ballot, i64 x_vote, i64 x_state, i64 x_cmd_kind, i64 x_cmd_id, i64 x_cmd_src, i64 x_cmd_dst, i64 x_cmd_amt, i64 x_attr_seq, rL x_attr_deps, i64 y_ballot, i64 y_vote, i64 y_state, i64 y_cmd_kind, i64 y_cmd_id, i64 y_cmd_src, i64 y_cmd_dst, i64 y_cmd_amt, i64 y_attr_seq, rL y_attr_deps] = some [.bool (decide ((⟨x_ballot, x_vote, x_state, ⟨x_cmd_kind, x_cmd_id, x_cmd_src, x_cmd_dst, x_cmd_amt⟩, ⟨x_attr_seq, x_attr_deps⟩⟩ : TRow) = ⟨y_ballot, y_vote, y_state, ⟨y_cmd_kind, y_cmd_id, y_cmd_src, y_cmd_dst, y_cmd_amt⟩, ⟨y_attr_seq, y_attr_deps⟩⟩))] := by
 rw [Fun_k (t := tm86) rfl]; unfold tm86
 unfold sz_TRow at hs
 simp only at hs
 have s0 : sz_TAttr ⟨x_attr_seq, x_attr_deps⟩ ≤ 1099511627776 := by omega
 have e : decide ((⟨x_ballot, x_vote, x_state, ⟨x_cmd_kind, x_cmd_id, x_cmd_src, x_cmd_dst, x_cmd_amt⟩, ⟨x_attr_seq, x_attr_deps⟩⟩ : TRow) = ⟨y_ballot, y_vote, y_state, ⟨y_cmd_kind, y_cmd_id, y_cmd_src, y_cmd_dst, y_cmd_amt⟩, ⟨y_attr_seq, y_attr_deps⟩⟩) = ((x_ballot == y_ballot) && (x_vote == y_vote) && (x_state == y_state) && decide ((⟨x_cmd_kind, x_cmd_id, x_cmd_src, x_cmd_dst, x_cmd_amt⟩ : TCmd) = ⟨y_cmd_kind, y_cmd_id, y_cmd_src, y_cmd_dst, y_cmd_amt⟩) && decide ((⟨x_attr_seq, x_attr_deps⟩ : TAttr) = ⟨y_attr_seq, y_attr_deps⟩)) := by
  simp only [TRow.mk.injEq, Bool.beq_eq_decide_eq, Bool.decide_and, Bool.and_assoc]
 rw [e]
 simp (maxSteps := 2000000) (disch := first | assumption | omega) only [SA, SB, SC, SP, SQ, SZ, reduceIte, reduceCtorEq, Nat.reduceAdd, Nat.reduceEqDiff, beq_self_eq_true, decide_true, decide_false, Int.reduceBEq, Int.reduceLT, Int.reduceLE, cast1, S_eta, leq_TCmd, leq_TAttr, *] <;> repeat' (refine fork_eq (fun _ => ?_) (fun _ => ?_) <;> try simp (maxSteps := 2000000) (disch := first | assumption | omega) only [SA, SB, SC, SP, SQ, SZ, reduceIte, reduceCtorEq, Nat.reduceAdd, Nat.reduceEqDiff, beq_self_eq_true, decide_true, decide_false, Int.reduceBEq, Int.reduceLT, Int.reduceLE, cast1, S_eta, leq_TCmd, leq_TAttr, *])
theorem lsz_LTRow (xs : (List TRow)) (l : Int) (h0 : 0 ≤ l) (h1 : l ≤ 1048576) (hw : xs.length ≤ 140737488351232 ∧ ∀ y0 ∈ xs, wf_TRow y0) : Fun T 5 [rL xs, i64 l] = some [i64 (szR l (szL sz_TRow xs))] := by
 rw [Fun_k (t := tm5) rfl]; unfold tm5
 obtain ⟨hw1, hw2⟩ := hw
 by_cases c : (xs.length : Int) ≤ l
 ·have d : decide (l - (xs.length : Int) < 0) = false := by simp; omega
  simp (maxSteps := 2000000) (disch := first | assumption | omega) only [SA, SB, SC, SP, SQ, SZ, reduceIte, reduceCtorEq, Nat.reduceAdd, Nat.reduceEqDiff, beq_self_eq_true, decide_true, decide_false, Int.reduceBEq, Int.reduceLT, Int.reduceLE, cast1, S_eta, *]
  rw [szLoop xs sz_TRow (l - xs.length) rfl (by omega) (by omega)]
  ·by_cases hd : ((xs.map sz_TRow).sum : Int) ≤ l - xs.length
   ·have e : szR l (szL sz_TRow xs) = l - xs.length - ((xs.map sz_TRow).sum : Nat) := by unfold szR; rw [show (szL sz_TRow xs) = xs.length + (xs.map sz_TRow).sum from rfl, if_pos (by omega)]; omega
    rw [decide_eq_true hd]
    simp (maxSteps := 2000000) (disch := first | assumption | omega) only [SA, SB, SC, SP, SQ, SZ, reduceIte, reduceCtorEq, Nat.reduceAdd, Nat.reduceEqDiff, beq_self_eq_true, decide_true, decide_false, Int.reduceBEq, Int.reduceLT, Int.reduceLE, cast1, S_eta, *] <;> repeat' (refine fork_eq (fun _ => ?_) (fun _ => ?_) <;> try simp (maxSteps := 2000000) (disch := first | assumption | omega) only [SA, SB, SC, SP, SQ, SZ, reduceIte, reduceCtorEq, Nat.reduceAdd, Nat.reduceEqDiff, beq_self_eq_true, decide_true, decide_false, Int.reduceBEq, Int.reduceLT, Int.reduceLE, cast1, S_eta, *])
   ·have e : szR l (szL sz_TRow xs) = -1 := by unfold szR; rw [show (szL sz_TRow xs) = xs.length + (xs.map sz_TRow).sum from rfl, if_neg (by omega)]
    rw [decide_eq_false hd]
    simp (maxSteps := 2000000) (disch := first | assumption | omega) only [SA, SB, SC, SP, SQ, SZ, reduceIte, reduceCtorEq, Nat.reduceAdd, Nat.reduceEqDiff, beq_self_eq_true, decide_true, decide_false, Int.reduceBEq, Int.reduceLT, Int.reduceLE, cast1, S_eta, *] <;> repeat' (refine fork_eq (fun _ => ?_) (fun _ => ?_) <;> try simp (maxSteps := 2000000) (disch := first | assumption | omega) only [SA, SB, SC, SP, SQ, SZ, reduceIte, reduceCtorEq, Nat.reduceAdd, Nat.reduceEqDiff, beq_self_eq_true, decide_true, decide_false, Int.reduceBEq, Int.reduceLT, Int.reduceLE, cast1, S_eta, *])
  ·intro i m hi hb hl hm hm' hf hr hd
   have hq := hw2 _ (at_mem hi)
   simp (maxSteps := 2000000) (disch := first | assumption | omega) only [SA, SB, SC, SP, SQ, SZ, reduceIte, reduceCtorEq, Nat.reduceAdd, Nat.reduceEqDiff, beq_self_eq_true, decide_true, decide_false, Int.reduceBEq, Int.reduceLT, Int.reduceLE, cast1, S_eta, S_row, lsz_TRow, *] <;> repeat' (refine fork_eq (fun _ => ?_) (fun _ => ?_) <;> try simp (maxSteps := 2000000) (disch := first | assumption | omega) only [SA, SB, SC, SP, SQ, SZ, reduceIte, reduceCtorEq, Nat.reduceAdd, Nat.reduceEqDiff, beq_self_eq_true, decide_true, decide_false, Int.reduceBEq, Int.reduceLT, Int.reduceLE, cast1, S_eta, S_row, lsz_TRow, *])
  ·intro i m hi hb hl hm hm' hf hr hd
   have hq := hw2 _ (at_mem hi)
   simp (maxSteps := 2000000) (disch := first | assumption | omega) only [SA, SB, SC, SP, SQ, SZ, reduceIte, reduceCtorEq, Nat.reduceAdd, Nat.reduceEqDiff, beq_self_eq_true, decide_true, decide_false, Int.reduceBEq, Int.reduceLT, Int.reduceLE, cast1, S_eta, S_row, lsz_TRow, *] <;> repeat' (refine fork_eq (fun _ => ?_) (fun _ => ?_) <;> try simp (maxSteps := 2000000) (disch := first | assumption | omega) only [SA, SB, SC, SP, SQ, SZ, reduceIte, reduceCtorEq, Nat.reduceAdd, Nat.reduceEqDiff, beq_self_eq_true, decide_true, decide_false, Int.reduceBEq, Int.reduceLT, Int.reduceLE, cast1, S_eta, S_row, lsz_TRow, *])
  ·intro m hl
   simp (maxSteps := 2000000) (disch := first | assumption | omega) only [SA, SB, SC, SP, SQ, SZ, reduceIte, reduceCtorEq, Nat.reduceAdd, Nat.reduceEqDiff, beq_self_eq_true, decide_true, decide_false, Int.reduceBEq, Int.reduceLT, Int.reduceLE, cast1, S_eta, *] <;> repeat' (refine fork_eq (fun _ => ?_) (fun _ => ?_) <;> try simp (maxSteps := 2000000) (disch := first | assumption | omega) only [SA, SB, SC, SP, SQ, SZ, reduceIte, reduceCtorEq, Nat.reduceAdd, Nat.reduceEqDiff, beq_self_eq_true, decide_true, decide_false, Int.reduceBEq, Int.reduceLT, Int.reduceLE, cast1, S_eta, *])
 ·have e : szR l (szL sz_TRow xs) = -1 := by unfold szR; rw [show (szL sz_TRow xs) = xs.length + (xs.map sz_TRow).sum from rfl, if_neg (by omega)]
  have d : decide (l - (xs.length : Int) < 0) = true := by simp; omega
  simp (maxSteps := 2000000) (disch := first | assumption | omega) only [SA, SB, SC, SP, SQ, SZ, reduceIte, reduceCtorEq, Nat.reduceAdd, Nat.reduceEqDiff, beq_self_eq_true, decide_true, decide_false, Int.reduceBEq, Int.reduceLT, Int.reduceLE, cast1, S_eta, *] <;> repeat' (refine fork_eq (fun _ => ?_) (fun _ => ?_) <;> try simp (maxSteps := 2000000) (disch := first | assumption | omega) only [SA, SB, SC, SP, SQ, SZ, reduceIte, reduceCtorEq, Nat.reduceAdd, Nat.reduceEqDiff, beq_self_eq_true, decide_true, decide_false, Int.reduceBEq, Int.reduceLT, Int.reduceLE, cast1, S_eta, *])
theorem lto_LTRow (xs : (List TRow)) (hs : szL sz_TRow xs ≤ 1048576) : Fun T 12 [rL xs] = some [rL xs] := by
 rw [Fun_k (t := tm12) rfl]; unfold tm12
 have hl : xs.length ≤ 1048576 := Nat.le_trans szL_len hs
 simp (maxSteps := 2000000) (disch := first | assumption | omega) only [SA, SB, SC, SP, SQ, SZ, reduceIte, reduceCtorEq, Nat.reduceAdd, Nat.reduceEqDiff, beq_self_eq_true, decide_true, decide_false, Int.reduceBEq, Int.reduceLT, Int.reduceLE, cast1, S_eta, S_make, Int.toNat_natCast, *]
 rw [toLoop xs rfl]
 ·simp (maxSteps := 2000000) (disch := first | assumption | omega) only [SA, SB, SC, SP, SQ, SZ, reduceIte, reduceCtorEq, Nat.reduceAdd, Nat.reduceEqDiff, beq_self_eq_true, decide_true, decide_false, Int.reduceBEq, Int.reduceLT, Int.reduceLE, cast1, S_eta, *] <;> repeat' (refine fork_eq (fun _ => ?_) (fun _ => ?_) <;> try simp (maxSteps := 2000000) (disch := first | assumption | omega) only [SA, SB, SC, SP, SQ, SZ, reduceIte, reduceCtorEq, Nat.reduceAdd, Nat.reduceEqDiff, beq_self_eq_true, decide_true, decide_false, Int.reduceBEq, Int.reduceLT, Int.reduceLE, cast1, S_eta, *])
 ·intro i ys hi hb hb' hl'
  have hq : sz_TRow (atI xs i) ≤ 1048576 := by
   have := szL_mem (f := sz_TRow) (at_mem hi)
   omega
  simp (maxSteps := 2000000) (disch := first | assumption | omega) only [SA, SB, SC, SP, SQ, SZ, reduceIte, reduceCtorEq, Nat.reduceAdd, Nat.reduceEqDiff, beq_self_eq_true, decide_true, decide_false, Int.reduceBEq, Int.reduceLT, Int.reduceLE, cast1, S_eta, S_row, S_set, lto_TRow, *] <;> repeat' (refine fork_eq (fun _ => ?_) (fun _ => ?_) <;> try simp (maxSteps := 2000000) (disch := first | assumption | omega) only [SA, SB, SC, SP, SQ, SZ, reduceIte, reduceCtorEq, Nat.reduceAdd, Nat.reduceEqDiff, beq_self_eq_true, decide_true, decide_false, Int.reduceBEq, Int.reduceLT, Int.reduceLE, cast1, S_eta, S_row, S_set, lto_TRow, *])
 ·intro ys hl'
  simp (maxSteps := 2000000) (disch := first | assumption | omega) only [SA, SB, SC, SP, SQ, SZ, reduceIte, reduceCtorEq, Nat.reduceAdd, Nat.reduceEqDiff, beq_self_eq_true, decide_true, decide_false, Int.reduceBEq, Int.reduceLT, Int.reduceLE, cast1, S_eta, *] <;> repeat' (refine fork_eq (fun _ => ?_) (fun _ => ?_) <;> try simp (maxSteps := 2000000) (disch := first | assumption | omega) only [SA, SB, SC, SP, SQ, SZ, reduceIte, reduceCtorEq, Nat.reduceAdd, Nat.reduceEqDiff, beq_self_eq_true, decide_true, decide_false, Int.reduceBEq, Int.reduceLT, Int.reduceLE, cast1, S_eta, *])
theorem leq_LTRow (xs ys : (List TRow)) (hs : szL sz_TRow xs ≤ 1099511627776) : Fun T 85 [rL xs, rL ys] = some [.bool (decide (xs = ys))] := by
 rw [Fun_k (t := tm85) rfl]; unfold tm85
 have hx : xs.length ≤ 1099511627776 := Nat.le_trans szL_len hs
 by_cases hl : ys.length = xs.length
 ·simp (maxSteps := 2000000) (disch := first | assumption | omega) only [SA, SB, SC, SP, SQ, SZ, reduceIte, reduceCtorEq, Nat.reduceAdd, Nat.reduceEqDiff, beq_self_eq_true, decide_true, decide_false, Int.reduceBEq, Int.reduceLT, Int.reduceLE, cast1, S_eta, *]
  rw [scanX 1 xs.length (fun i => decide (atI xs i = atI ys i)) [.bool false], allB_eq hl.symm]
  ·simp (maxSteps := 2000000) (disch := first | assumption | omega) only [SA, SB, SC, SP, SQ, SZ, reduceIte, reduceCtorEq, Nat.reduceAdd, Nat.reduceEqDiff, beq_self_eq_true, decide_true, decide_false, Int.reduceBEq, Int.reduceLT, Int.reduceLE, cast1, S_eta, *] <;> repeat' (refine fork_eq (fun _ => ?_) (fun _ => ?_) <;> try simp (maxSteps := 2000000) (disch := first | assumption | omega) only [SA, SB, SC, SP, SQ, SZ, reduceIte, reduceCtorEq, Nat.reduceAdd, Nat.reduceEqDiff, beq_self_eq_true, decide_true, decide_false, Int.reduceBEq, Int.reduceLT, Int.reduceLE, cast1, S_eta, *])
  ·intro i hi hp
   have hb : InB xs (i : Int) := InB_nat.2 hi
   have hb' : InB ys (i : Int) := InB_nat.2 (by omega)
   have h2 : decide ((i : Int) < xs.length) = true := by simp; omega
   have hq : sz_TRow (atI xs i) ≤ 1099511627776 := by
    have := szL_mem (f := sz_TRow) (at_mem hi)
    omega
   simp (maxSteps := 2000000) (disch := first | assumption | omega) only [SA, SB, SC, SP, SQ, SZ, reduceIte, reduceCtorEq, Nat.reduceAdd, Nat.reduceEqDiff, beq_self_eq_true, decide_true, decide_false, Int.reduceBEq, Int.reduceLT, Int.reduceLE, cast1, S_eta, S_row, leq_TRow, *] <;> repeat' (refine fork_eq (fun _ => ?_) (fun _ => ?_) <;> try simp (maxSteps := 2000000) (disch := first | assumption | omega) only [SA, SB, SC, SP, SQ, SZ, reduceIte, reduceCtorEq, Nat.reduceAdd, Nat.reduceEqDiff, beq_self_eq_true, decide_true, decide_false, Int.reduceBEq, Int.reduceLT, Int.reduceLE, cast1, S_eta, S_row, leq_TRow, *])
  ·intro i hi hp
   have hb : InB xs (i : Int) := InB_nat.2 hi
   have hb' : InB ys (i : Int) := InB_nat.2 (by omega)
   have h2 : decide ((i : Int) < xs.length) = true := by simp; omega
   have hq : sz_TRow (atI xs i) ≤ 1099511627776 := by
    have := szL_mem (f := sz_TRow) (at_mem hi)
    omega
   simp (maxSteps := 2000000) (disch := first | assumption | omega) only [SA, SB, SC, SP, SQ, SZ, reduceIte, reduceCtorEq, Nat.reduceAdd, Nat.reduceEqDiff, beq_self_eq_true, decide_true, decide_false, Int.reduceBEq, Int.reduceLT, Int.reduceLE, cast1, S_eta, S_row, leq_TRow, *] <;> repeat' (refine fork_eq (fun _ => ?_) (fun _ => ?_) <;> try simp (maxSteps := 2000000) (disch := first | assumption | omega) only [SA, SB, SC, SP, SQ, SZ, reduceIte, reduceCtorEq, Nat.reduceAdd, Nat.reduceEqDiff, beq_self_eq_true, decide_true, decide_false, Int.reduceBEq, Int.reduceLT, Int.reduceLE, cast1, S_eta, S_row, leq_TRow, *])
  ·have h2 : decide ((xs.length : Int) < xs.length) = false := by simp
   simp (maxSteps := 2000000) (disch := first | assumption | omega) only [SA, SB, SC, SP, SQ, SZ, reduceIte, reduceCtorEq, Nat.reduceAdd, Nat.reduceEqDiff, beq_self_eq_true, decide_true, decide_false, Int.reduceBEq, Int.reduceLT, Int.reduceLE, cast1, S_eta, *] <;> repeat' (refine fork_eq (fun _ => ?_) (fun _ => ?_) <;> try simp (maxSteps := 2000000) (disch := first | assumption | omega) only [SA, SB, SC, SP, SQ, SZ, reduceIte, reduceCtorEq, Nat.reduceAdd, Nat.reduceEqDiff, beq_self_eq_true, decide_true, decide_false, Int.reduceBEq, Int.reduceLT, Int.reduceLE, cast1, S_eta, *])
 ·have hl' : ((xs.length : Int) == (ys.length : Int)) = false := by simp; omega
  have e := eq_len (fun h => hl h.symm)
  simp (maxSteps := 2000000) (disch := first | assumption | omega) only [SA, SB, SC, SP, SQ, SZ, reduceIte, reduceCtorEq, Nat.reduceAdd, Nat.reduceEqDiff, beq_self_eq_true, decide_true, decide_false, Int.reduceBEq, Int.reduceLT, Int.reduceLE, cast1, S_eta, *] <;> repeat' (refine fork_eq (fun _ => ?_) (fun _ => ?_) <;> try simp (maxSteps := 2000000) (disch := first | assumption | omega) only [SA, SB, SC, SP, SQ, SZ, reduceIte, reduceCtorEq, Nat.reduceAdd, Nat.reduceEqDiff, beq_self_eq_true, decide_true, decide_false, Int.reduceBEq, Int.reduceLT, Int.reduceLE, cast1, S_eta, *])
theorem lsz_LLTRow (xs : (List (List TRow))) (l : Int) (h0 : 0 ≤ l) (h1 : l ≤ 1048576) (hw : xs.length ≤ 140737488351232 ∧ ∀ y0 ∈ xs, y0.length ≤ 140737488351232 ∧ ∀ y1 ∈ y0, wf_TRow y1) : Fun T 4 [rL xs, i64 l] = some [i64 (szR l (szL (szL sz_TRow) xs))] := by
 rw [Fun_k (t := tm4) rfl]; unfold tm4
 obtain ⟨hw1, hw2⟩ := hw
 by_cases c : (xs.length : Int) ≤ l
 ·have d : decide (l - (xs.length : Int) < 0) = false := by simp; omega
  simp (maxSteps := 2000000) (disch := first | assumption | omega) only [SA, SB, SC, SP, SQ, SZ, reduceIte, reduceCtorEq, Nat.reduceAdd, Nat.reduceEqDiff, beq_self_eq_true, decide_true, decide_false, Int.reduceBEq, Int.reduceLT, Int.reduceLE, cast1, S_eta, *]
  rw [szLoop xs (szL sz_TRow) (l - xs.length) rfl (by omega) (by omega)]
  ·by_cases hd : ((xs.map (szL sz_TRow)).sum : Int) ≤ l - xs.length
   ·have e : szR l (szL (szL sz_TRow) xs) = l - xs.length - ((xs.map (szL sz_TRow)).sum : Nat) := by unfold szR; rw [show (szL (szL sz_TRow) xs) = xs.length + (xs.map (szL sz_TRow)).sum from rfl, if_pos (by omega)]; omega
    rw [decide_eq_true hd]
    simp (maxSteps := 2000000) (disch := first | assumption | omega) only [SA, SB, SC, SP, SQ, SZ, reduceIte, reduceCtorEq, Nat.reduceAdd, Nat.reduceEqDiff, beq_self_eq_true, decide_true, decide_false, Int.reduceBEq, Int.reduceLT, Int.reduceLE, cast1, S_eta, *] <;> repeat' (refine fork_eq (fun _ => ?_) (fun _ => ?_) <;> try simp (maxSteps := 2000000) (disch := first | assumption | omega) only [SA, SB, SC, SP, SQ, SZ, reduceIte, reduceCtorEq, Nat.reduceAdd, Nat.reduceEqDiff, beq_self_eq_true, decide_true, decide_false, Int.reduceBEq, Int.reduceLT, Int.reduceLE, cast1, S_eta, *])
   ·have e : szR l (szL (szL sz_TRow) xs) = -1 := by unfold szR; rw [show (szL (szL sz_TRow) xs) = xs.length + (xs.map (szL sz_TRow)).sum from rfl, if_neg (by omega)]
    rw [decide_eq_false hd]
    simp (maxSteps := 2000000) (disch := first | assumption | omega) only [SA, SB, SC, SP, SQ, SZ, reduceIte, reduceCtorEq, Nat.reduceAdd, Nat.reduceEqDiff, beq_self_eq_true, decide_true, decide_false, Int.reduceBEq, Int.reduceLT, Int.reduceLE, cast1, S_eta, *] <;> repeat' (refine fork_eq (fun _ => ?_) (fun _ => ?_) <;> try simp (maxSteps := 2000000) (disch := first | assumption | omega) only [SA, SB, SC, SP, SQ, SZ, reduceIte, reduceCtorEq, Nat.reduceAdd, Nat.reduceEqDiff, beq_self_eq_true, decide_true, decide_false, Int.reduceBEq, Int.reduceLT, Int.reduceLE, cast1, S_eta, *])
  ·intro i m hi hb hl hm hm' hf hr hd
   have hq := hw2 _ (at_mem hi)
   simp (maxSteps := 2000000) (disch := first | assumption | omega) only [SA, SB, SC, SP, SQ, SZ, reduceIte, reduceCtorEq, Nat.reduceAdd, Nat.reduceEqDiff, beq_self_eq_true, decide_true, decide_false, Int.reduceBEq, Int.reduceLT, Int.reduceLE, cast1, S_eta, S_row, lsz_LTRow, *] <;> repeat' (refine fork_eq (fun _ => ?_) (fun _ => ?_) <;> try simp (maxSteps := 2000000) (disch := first | assumption | omega) only [SA, SB, SC, SP, SQ, SZ, reduceIte, reduceCtorEq, Nat.reduceAdd, Nat.reduceEqDiff, beq_self_eq_true, decide_true, decide_false, Int.reduceBEq, Int.reduceLT, Int.reduceLE, cast1, S_eta, S_row, lsz_LTRow, *])
  ·intro i m hi hb hl hm hm' hf hr hd
   have hq := hw2 _ (at_mem hi)
   simp (maxSteps := 2000000) (disch := first | assumption | omega) only [SA, SB, SC, SP, SQ, SZ, reduceIte, reduceCtorEq, Nat.reduceAdd, Nat.reduceEqDiff, beq_self_eq_true, decide_true, decide_false, Int.reduceBEq, Int.reduceLT, Int.reduceLE, cast1, S_eta, S_row, lsz_LTRow, *] <;> repeat' (refine fork_eq (fun _ => ?_) (fun _ => ?_) <;> try simp (maxSteps := 2000000) (disch := first | assumption | omega) only [SA, SB, SC, SP, SQ, SZ, reduceIte, reduceCtorEq, Nat.reduceAdd, Nat.reduceEqDiff, beq_self_eq_true, decide_true, decide_false, Int.reduceBEq, Int.reduceLT, Int.reduceLE, cast1, S_eta, S_row, lsz_LTRow, *])
  ·intro m hl
   simp (maxSteps := 2000000) (disch := first | assumption | omega) only [SA, SB, SC, SP, SQ, SZ, reduceIte, reduceCtorEq, Nat.reduceAdd, Nat.reduceEqDiff, beq_self_eq_true, decide_true, decide_false, Int.reduceBEq, Int.reduceLT, Int.reduceLE, cast1, S_eta, *] <;> repeat' (refine fork_eq (fun _ => ?_) (fun _ => ?_) <;> try simp (maxSteps := 2000000) (disch := first | assumption | omega) only [SA, SB, SC, SP, SQ, SZ, reduceIte, reduceCtorEq, Nat.reduceAdd, Nat.reduceEqDiff, beq_self_eq_true, decide_true, decide_false, Int.reduceBEq, Int.reduceLT, Int.reduceLE, cast1, S_eta, *])
 ·have e : szR l (szL (szL sz_TRow) xs) = -1 := by unfold szR; rw [show (szL (szL sz_TRow) xs) = xs.length + (xs.map (szL sz_TRow)).sum from rfl, if_neg (by omega)]
  have d : decide (l - (xs.length : Int) < 0) = true := by simp; omega
  simp (maxSteps := 2000000) (disch := first | assumption | omega) only [SA, SB, SC, SP, SQ, SZ, reduceIte, reduceCtorEq, Nat.reduceAdd, Nat.reduceEqDiff, beq_self_eq_true, decide_true, decide_false, Int.reduceBEq, Int.reduceLT, Int.reduceLE, cast1, S_eta, *] <;> repeat' (refine fork_eq (fun _ => ?_) (fun _ => ?_) <;> try simp (maxSteps := 2000000) (disch := first | assumption | omega) only [SA, SB, SC, SP, SQ, SZ, reduceIte, reduceCtorEq, Nat.reduceAdd, Nat.reduceEqDiff, beq_self_eq_true, decide_true, decide_false, Int.reduceBEq, Int.reduceLT, Int.reduceLE, cast1, S_eta, *])
theorem lto_LLTRow (xs : (List (List TRow))) (hs : szL (szL sz_TRow) xs ≤ 1048576) : Fun T 11 [rL xs] = some [rL xs] := by
 rw [Fun_k (t := tm11) rfl]; unfold tm11
 have hl : xs.length ≤ 1048576 := Nat.le_trans szL_len hs
 simp (maxSteps := 2000000) (disch := first | assumption | omega) only [SA, SB, SC, SP, SQ, SZ, reduceIte, reduceCtorEq, Nat.reduceAdd, Nat.reduceEqDiff, beq_self_eq_true, decide_true, decide_false, Int.reduceBEq, Int.reduceLT, Int.reduceLE, cast1, S_eta, S_make, Int.toNat_natCast, *]
 rw [toLoop xs rfl]
 ·simp (maxSteps := 2000000) (disch := first | assumption | omega) only [SA, SB, SC, SP, SQ, SZ, reduceIte, reduceCtorEq, Nat.reduceAdd, Nat.reduceEqDiff, beq_self_eq_true, decide_true, decide_false, Int.reduceBEq, Int.reduceLT, Int.reduceLE, cast1, S_eta, *] <;> repeat' (refine fork_eq (fun _ => ?_) (fun _ => ?_) <;> try simp (maxSteps := 2000000) (disch := first | assumption | omega) only [SA, SB, SC, SP, SQ, SZ, reduceIte, reduceCtorEq, Nat.reduceAdd, Nat.reduceEqDiff, beq_self_eq_true, decide_true, decide_false, Int.reduceBEq, Int.reduceLT, Int.reduceLE, cast1, S_eta, *])
 ·intro i ys hi hb hb' hl'
  have hq : szL sz_TRow (atI xs i) ≤ 1048576 := by
   have := szL_mem (f := (szL sz_TRow)) (at_mem hi)
   omega
  simp (maxSteps := 2000000) (disch := first | assumption | omega) only [SA, SB, SC, SP, SQ, SZ, reduceIte, reduceCtorEq, Nat.reduceAdd, Nat.reduceEqDiff, beq_self_eq_true, decide_true, decide_false, Int.reduceBEq, Int.reduceLT, Int.reduceLE, cast1, S_eta, S_row, S_set, lto_LTRow, *] <;> repeat' (refine fork_eq (fun _ => ?_) (fun _ => ?_) <;> try simp (maxSteps := 2000000) (disch := first | assumption | omega) only [SA, SB, SC, SP, SQ, SZ, reduceIte, reduceCtorEq, Nat.reduceAdd, Nat.reduceEqDiff, beq_self_eq_true, decide_true, decide_false, Int.reduceBEq, Int.reduceLT, Int.reduceLE, cast1, S_eta, S_row, S_set, lto_LTRow, *])
 ·intro ys hl'
  simp (maxSteps := 2000000) (disch := first | assumption | omega) only [SA, SB, SC, SP, SQ, SZ, reduceIte, reduceCtorEq, Nat.reduceAdd, Nat.reduceEqDiff, beq_self_eq_true, decide_true, decide_false, Int.reduceBEq, Int.reduceLT, Int.reduceLE, cast1, S_eta, *] <;> repeat' (refine fork_eq (fun _ => ?_) (fun _ => ?_) <;> try simp (maxSteps := 2000000) (disch := first | assumption | omega) only [SA, SB, SC, SP, SQ, SZ, reduceIte, reduceCtorEq, Nat.reduceAdd, Nat.reduceEqDiff, beq_self_eq_true, decide_true, decide_false, Int.reduceBEq, Int.reduceLT, Int.reduceLE, cast1, S_eta, *])
theorem leq_LLTRow (xs ys : (List (List TRow))) (hs : szL (szL sz_TRow) xs ≤ 1099511627776) : Fun T 84 [rL xs, rL ys] = some [.bool (decide (xs = ys))] := by
 rw [Fun_k (t := tm84) rfl]; unfold tm84
 have hx : xs.length ≤ 1099511627776 := Nat.le_trans szL_len hs
 by_cases hl : ys.length = xs.length
 ·simp (maxSteps := 2000000) (disch := first | assumption | omega) only [SA, SB, SC, SP, SQ, SZ, reduceIte, reduceCtorEq, Nat.reduceAdd, Nat.reduceEqDiff, beq_self_eq_true, decide_true, decide_false, Int.reduceBEq, Int.reduceLT, Int.reduceLE, cast1, S_eta, *]
  rw [scanX 1 xs.length (fun i => decide (atI xs i = atI ys i)) [.bool false], allB_eq hl.symm]
  ·simp (maxSteps := 2000000) (disch := first | assumption | omega) only [SA, SB, SC, SP, SQ, SZ, reduceIte, reduceCtorEq, Nat.reduceAdd, Nat.reduceEqDiff, beq_self_eq_true, decide_true, decide_false, Int.reduceBEq, Int.reduceLT, Int.reduceLE, cast1, S_eta, *] <;> repeat' (refine fork_eq (fun _ => ?_) (fun _ => ?_) <;> try simp (maxSteps := 2000000) (disch := first | assumption | omega) only [SA, SB, SC, SP, SQ, SZ, reduceIte, reduceCtorEq, Nat.reduceAdd, Nat.reduceEqDiff, beq_self_eq_true, decide_true, decide_false, Int.reduceBEq, Int.reduceLT, Int.reduceLE, cast1, S_eta, *])
  ·intro i hi hp
   have hb : InB xs (i : Int) := InB_nat.2 hi
   have hb' : InB ys (i : Int) := InB_nat.2 (by omega)
   have h2 : decide ((i : Int) < xs.length) = true := by simp; omega
   have hq : szL sz_TRow (atI xs i) ≤ 1099511627776 := by
    have := szL_mem (f := (szL sz_TRow)) (at_mem hi)
    omega
   simp (maxSteps := 2000000) (disch := first | assumption | omega) only [SA, SB, SC, SP, SQ, SZ, reduceIte, reduceCtorEq, Nat.reduceAdd, Nat.reduceEqDiff, beq_self_eq_true, decide_true, decide_false, Int.reduceBEq, Int.reduceLT, Int.reduceLE, cast1, S_eta, S_row, leq_LTRow, *] <;> repeat' (refine fork_eq (fun _ => ?_) (fun _ => ?_) <;> try simp (maxSteps := 2000000) (disch := first | assumption | omega) only [SA, SB, SC, SP, SQ, SZ, reduceIte, reduceCtorEq, Nat.reduceAdd, Nat.reduceEqDiff, beq_self_eq_true, decide_true, decide_false, Int.reduceBEq, Int.reduceLT, Int.reduceLE, cast1, S_eta, S_row, leq_LTRow, *])
  ·intro i hi hp
   have hb : InB xs (i : Int) := InB_nat.2 hi
   have hb' : InB ys (i : Int) := InB_nat.2 (by omega)
   have h2 : decide ((i : Int) < xs.length) = true := by simp; omega
   have hq : szL sz_TRow (atI xs i) ≤ 1099511627776 := by
    have := szL_mem (f := (szL sz_TRow)) (at_mem hi)
    omega
   simp (maxSteps := 2000000) (disch := first | assumption | omega) only [SA, SB, SC, SP, SQ, SZ, reduceIte, reduceCtorEq, Nat.reduceAdd, Nat.reduceEqDiff, beq_self_eq_true, decide_true, decide_false, Int.reduceBEq, Int.reduceLT, Int.reduceLE, cast1, S_eta, S_row, leq_LTRow, *] <;> repeat' (refine fork_eq (fun _ => ?_) (fun _ => ?_) <;> try simp (maxSteps := 2000000) (disch := first | assumption | omega) only [SA, SB, SC, SP, SQ, SZ, reduceIte, reduceCtorEq, Nat.reduceAdd, Nat.reduceEqDiff, beq_self_eq_true, decide_true, decide_false, Int.reduceBEq, Int.reduceLT, Int.reduceLE, cast1, S_eta, S_row, leq_LTRow, *])
  ·have h2 : decide ((xs.length : Int) < xs.length) = false := by simp
   simp (maxSteps := 2000000) (disch := first | assumption | omega) only [SA, SB, SC, SP, SQ, SZ, reduceIte, reduceCtorEq, Nat.reduceAdd, Nat.reduceEqDiff, beq_self_eq_true, decide_true, decide_false, Int.reduceBEq, Int.reduceLT, Int.reduceLE, cast1, S_eta, *] <;> repeat' (refine fork_eq (fun _ => ?_) (fun _ => ?_) <;> try simp (maxSteps := 2000000) (disch := first | assumption | omega) only [SA, SB, SC, SP, SQ, SZ, reduceIte, reduceCtorEq, Nat.reduceAdd, Nat.reduceEqDiff, beq_self_eq_true, decide_true, decide_false, Int.reduceBEq, Int.reduceLT, Int.reduceLE, cast1, S_eta, *])
 ·have hl' : ((xs.length : Int) == (ys.length : Int)) = false := by simp; omega
  have e := eq_len (fun h => hl h.symm)
  simp (maxSteps := 2000000) (disch := first | assumption | omega) only [SA, SB, SC, SP, SQ, SZ, reduceIte, reduceCtorEq, Nat.reduceAdd, Nat.reduceEqDiff, beq_self_eq_true, decide_true, decide_false, Int.reduceBEq, Int.reduceLT, Int.reduceLE, cast1, S_eta, *] <;> repeat' (refine fork_eq (fun _ => ?_) (fun _ => ?_) <;> try simp (maxSteps := 2000000) (disch := first | assumption | omega) only [SA, SB, SC, SP, SQ, SZ, reduceIte, reduceCtorEq, Nat.reduceAdd, Nat.reduceEqDiff, beq_self_eq_true, decide_true, decide_false, Int.reduceBEq, Int.reduceLT, Int.reduceLE, cast1, S_eta, *])
theorem lsz_TTable (x_n : Int) (x_rows : (List (List TRow))) (l : Int) (h0 : 0 ≤ l) (h1 : l ≤ 1048576) (hw : wf_TTable ⟨x_n, x_rows⟩) : Fun T 3 [i64 x_n, rL x_rows, i64 l] = some [i64 (szR l (sz_TTable ⟨x_n, x_rows⟩))] := by
 rw [Fun_k (t := tm3) rfl]; unfold tm3
 unfold wf_TTable at hw
 simp only at hw
 have w0 := hw
 by_cases c0 : ((szL (szL sz_TRow) x_rows : Nat) : Int) ≤ l
 rotate_left
 ·have e0 : szR (l) (szL (szL sz_TRow) x_rows) = -1 := if_neg c0
  have d0 : decide ((-1 : Int) < 0) = true := rfl
  have e : szR l (sz_TTable ⟨x_n, x_rows⟩) = -1 := by unfold szR sz_TTable; simp only []; split <;> omega
  simp (maxSteps := 2000000) (disch := first | assumption | omega) only [SA, SB, SC, SP, SQ, SZ, reduceIte, reduceCtorEq, Nat.reduceAdd, Nat.reduceEqDiff, beq_self_eq_true, decide_true, decide_false, Int.reduceBEq, Int.reduceLT, Int.reduceLE, cast1, S_eta, lsz_LLTRow, *] <;> repeat' (refine fork_eq (fun _ => ?_) (fun _ => ?_) <;> try simp (maxSteps := 2000000) (disch := first | assumption | omega) only [SA, SB, SC, SP, SQ, SZ, reduceIte, reduceCtorEq, Nat.reduceAdd, Nat.reduceEqDiff, beq_self_eq_true, decide_true, decide_false, Int.reduceBEq, Int.reduceLT, Int.reduceLE, cast1, S_eta, lsz_LLTRow, *])
 have e0 : szR (l) (szL (szL sz_TRow) x_rows) = l - (szL (szL sz_TRow) x_rows : Nat) := if_pos c0
 have d0 : decide (l - ((szL (szL sz_TRow) x_rows : Nat) : Int) < 0) = false := by simp; omega
 have e : szR l (sz_TTable ⟨x_n, x_rows⟩) = l - ((szL (szL sz_TRow) x_rows : Nat) : Int) := by unfold szR sz_TTable; simp only []; split <;> omega
 simp (maxSteps := 2000000) (disch := first | assumption | omega) only [SA, SB, SC, SP, SQ, SZ, reduceIte, reduceCtorEq, Nat.reduceAdd, Nat.reduceEqDiff, beq_self_eq_true, decide_true, decide_false, Int.reduceBEq, Int.reduceLT, Int.reduceLE, cast1, S_eta, lsz_LLTRow, *] <;> repeat' (refine fork_eq (fun _ => ?_) (fun _ => ?_) <;> try simp (maxSteps := 2000000) (disch := first | assumption | omega) only [SA, SB, SC, SP, SQ, SZ, reduceIte, reduceCtorEq, Nat.reduceAdd, Nat.reduceEqDiff, beq_self_eq_true, decide_true, decide_false, Int.reduceBEq, Int.reduceLT, Int.reduceLE, cast1, S_eta, lsz_LLTRow, *])
theorem lto_TTable (x_n : Int) (x_rows : (List (List TRow))) (hs : sz_TTable ⟨x_n, x_rows⟩ ≤ 1048576) : Fun T 10 [i64 x_n, rL x_rows] = some [i64 x_n, rL x_rows] := by
 rw [Fun_k (t := tm10) rfl]; unfold tm10
 unfold sz_TTable at hs
 simp only at hs
 have s0 : szL (szL sz_TRow) x_rows ≤ 1048576 := by omega
 simp (maxSteps := 2000000) (disch := first | assumption | omega) only [SA, SB, SC, SP, SQ, SZ, reduceIte, reduceCtorEq, Nat.reduceAdd, Nat.reduceEqDiff, beq_self_eq_true, decide_true, decide_false, Int.reduceBEq, Int.reduceLT, Int.reduceLE, cast1, S_eta, lto_LLTRow, *] <;> repeat' (refine fork_eq (fun _ => ?_) (fun _ => ?_) <;> try simp (maxSteps := 2000000) (disch := first | assumption | omega) only [SA, SB, SC, SP, SQ, SZ, reduceIte, reduceCtorEq, Nat.reduceAdd, Nat.reduceEqDiff, beq_self_eq_true, decide_true, decide_false, Int.reduceBEq, Int.reduceLT, Int.reduceLE, cast1, S_eta, lto_LLTRow, *])
theorem leq_TTable (x_n : Int) (x_rows : (List (List TRow))) (y_n : Int) (y_rows : (List (List TRow))) (hs : sz_TTable ⟨x_n, x_rows⟩ ≤ 1099511627776) : Fun T 83 [i64 x_n, rL x_rows, i64 y_n, rL y_rows] = some [.bool (decide ((⟨x_n, x_rows⟩ : TTable) = ⟨y_n, y_rows⟩))] := by
 rw [Fun_k (t := tm83) rfl]; unfold tm83
 unfold sz_TTable at hs
 simp only at hs
 have s0 : szL (szL sz_TRow) x_rows ≤ 1099511627776 := by omega
 have e : decide ((⟨x_n, x_rows⟩ : TTable) = ⟨y_n, y_rows⟩) = ((x_n == y_n) && decide ((x_rows : (List (List TRow))) = y_rows)) := by
  simp only [TTable.mk.injEq, Bool.beq_eq_decide_eq, Bool.decide_and, Bool.and_assoc]
 rw [e]
 simp (maxSteps := 2000000) (disch := first | assumption | omega) only [SA, SB, SC, SP, SQ, SZ, reduceIte, reduceCtorEq, Nat.reduceAdd, Nat.reduceEqDiff, beq_self_eq_true, decide_true, decide_false, Int.reduceBEq, Int.reduceLT, Int.reduceLE, cast1, S_eta, leq_LLTRow, *] <;> repeat' (refine fork_eq (fun _ => ?_) (fun _ => ?_) <;> try simp (maxSteps := 2000000) (disch := first | assumption | omega) only [SA, SB, SC, SP, SQ, SZ, reduceIte, reduceCtorEq, Nat.reduceAdd, Nat.reduceEqDiff, beq_self_eq_true, decide_true, decide_false, Int.reduceBEq, Int.reduceLT, Int.reduceLE, cast1, S_eta, leq_LLTRow, *])
theorem lsz_LLI (xs : (List (List Int))) (l : Int) (h0 : 0 ≤ l) (h1 : l ≤ 1048576) (hw : xs.length ≤ 140737488351232 ∧ ∀ y0 ∈ xs, y0.length ≤ 140737488351232) : Fun T 1 [rL xs, i64 l] = some [i64 (szR l (szL (szL (fun _ => 0)) xs))] := by
 rw [Fun_k (t := tm1) rfl]; unfold tm1
 obtain ⟨hw1, hw2⟩ := hw
 by_cases c : (xs.length : Int) ≤ l
 ·have d : decide (l - (xs.length : Int) < 0) = false := by simp; omega
  simp (maxSteps := 2000000) (disch := first | assumption | omega) only [SA, SB, SC, SP, SQ, SZ, reduceIte, reduceCtorEq, Nat.reduceAdd, Nat.reduceEqDiff, beq_self_eq_true, decide_true, decide_false, Int.reduceBEq, Int.reduceLT, Int.reduceLE, cast1, S_eta, *]
  rw [szLoop xs (szL (fun _ => 0)) (l - xs.length) rfl (by omega) (by omega)]
  ·by_cases hd : ((xs.map (szL (fun _ => 0))).sum : Int) ≤ l - xs.length
   ·have e : szR l (szL (szL (fun _ => 0)) xs) = l - xs.length - ((xs.map (szL (fun _ => 0))).sum : Nat) := by unfold szR; rw [show (szL (szL (fun _ => 0)) xs) = xs.length + (xs.map (szL (fun _ => 0))).sum from rfl, if_pos (by omega)]; omega
    rw [decide_eq_true hd]
    simp (maxSteps := 2000000) (disch := first | assumption | omega) only [SA, SB, SC, SP, SQ, SZ, reduceIte, reduceCtorEq, Nat.reduceAdd, Nat.reduceEqDiff, beq_self_eq_true, decide_true, decide_false, Int.reduceBEq, Int.reduceLT, Int.reduceLE, cast1, S_eta, *] <;> repeat' (refine fork_eq (fun _ => ?_) (fun _ => ?_) <;> try simp (maxSteps := 2000000) (disch := first | assumption | omega) only [SA, SB, SC, SP, SQ, SZ, reduceIte, reduceCtorEq, Nat.reduceAdd, Nat.reduceEqDiff, beq_self_eq_true, decide_true, decide_false, Int.reduceBEq, Int.reduceLT, Int.reduceLE, cast1, S_eta, *])
   ·have e : szR l (szL (szL (fun _ => 0)) xs) = -1 := by unfold szR; rw [show (szL (szL (fun _ => 0)) xs) = xs.length + (xs.map (szL (fun _ => 0))).sum from rfl, if_neg (by omega)]
    rw [decide_eq_false hd]
    simp (maxSteps := 2000000) (disch := first | assumption | omega) only [SA, SB, SC, SP, SQ, SZ, reduceIte, reduceCtorEq, Nat.reduceAdd, Nat.reduceEqDiff, beq_self_eq_true, decide_true, decide_false, Int.reduceBEq, Int.reduceLT, Int.reduceLE, cast1, S_eta, *] <;> repeat' (refine fork_eq (fun _ => ?_) (fun _ => ?_) <;> try simp (maxSteps := 2000000) (disch := first | assumption | omega) only [SA, SB, SC, SP, SQ, SZ, reduceIte, reduceCtorEq, Nat.reduceAdd, Nat.reduceEqDiff, beq_self_eq_true, decide_true, decide_false, Int.reduceBEq, Int.reduceLT, Int.reduceLE, cast1, S_eta, *])
  ·intro i m hi hb hl hm hm' hf hr hd
   have hq := hw2 _ (at_mem hi)
   simp (maxSteps := 2000000) (disch := first | assumption | omega) only [SA, SB, SC, SP, SQ, SZ, reduceIte, reduceCtorEq, Nat.reduceAdd, Nat.reduceEqDiff, beq_self_eq_true, decide_true, decide_false, Int.reduceBEq, Int.reduceLT, Int.reduceLE, cast1, S_eta, S_row, lsz_LI, *] <;> repeat' (refine fork_eq (fun _ => ?_) (fun _ => ?_) <;> try simp (maxSteps := 2000000) (disch := first | assumption | omega) only [SA, SB, SC, SP, SQ, SZ, reduceIte, reduceCtorEq, Nat.reduceAdd, Nat.reduceEqDiff, beq_self_eq_true, decide_true, decide_false, Int.reduceBEq, Int.reduceLT, Int.reduceLE, cast1, S_eta, S_row, lsz_LI, *])
  ·intro i m hi hb hl hm hm' hf hr hd
   have hq := hw2 _ (at_mem hi)
   simp (maxSteps := 2000000) (disch := first | assumption | omega) only [SA, SB, SC, SP, SQ, SZ, reduceIte, reduceCtorEq, Nat.reduceAdd, Nat.reduceEqDiff, beq_self_eq_true, decide_true, decide_false, Int.reduceBEq, Int.reduceLT, Int.reduceLE, cast1, S_eta, S_row, lsz_LI, *] <;> repeat' (refine fork_eq (fun _ => ?_) (fun _ => ?_) <;> try simp (maxSteps := 2000000) (disch := first | assumption | omega) only [SA, SB, SC, SP, SQ, SZ, reduceIte, reduceCtorEq, Nat.reduceAdd, Nat.reduceEqDiff, beq_self_eq_true, decide_true, decide_false, Int.reduceBEq, Int.reduceLT, Int.reduceLE, cast1, S_eta, S_row, lsz_LI, *])
  ·intro m hl
   simp (maxSteps := 2000000) (disch := first | assumption | omega) only [SA, SB, SC, SP, SQ, SZ, reduceIte, reduceCtorEq, Nat.reduceAdd, Nat.reduceEqDiff, beq_self_eq_true, decide_true, decide_false, Int.reduceBEq, Int.reduceLT, Int.reduceLE, cast1, S_eta, *] <;> repeat' (refine fork_eq (fun _ => ?_) (fun _ => ?_) <;> try simp (maxSteps := 2000000) (disch := first | assumption | omega) only [SA, SB, SC, SP, SQ, SZ, reduceIte, reduceCtorEq, Nat.reduceAdd, Nat.reduceEqDiff, beq_self_eq_true, decide_true, decide_false, Int.reduceBEq, Int.reduceLT, Int.reduceLE, cast1, S_eta, *])
 ·have e : szR l (szL (szL (fun _ => 0)) xs) = -1 := by unfold szR; rw [show (szL (szL (fun _ => 0)) xs) = xs.length + (xs.map (szL (fun _ => 0))).sum from rfl, if_neg (by omega)]
  have d : decide (l - (xs.length : Int) < 0) = true := by simp; omega
  simp (maxSteps := 2000000) (disch := first | assumption | omega) only [SA, SB, SC, SP, SQ, SZ, reduceIte, reduceCtorEq, Nat.reduceAdd, Nat.reduceEqDiff, beq_self_eq_true, decide_true, decide_false, Int.reduceBEq, Int.reduceLT, Int.reduceLE, cast1, S_eta, *] <;> repeat' (refine fork_eq (fun _ => ?_) (fun _ => ?_) <;> try simp (maxSteps := 2000000) (disch := first | assumption | omega) only [SA, SB, SC, SP, SQ, SZ, reduceIte, reduceCtorEq, Nat.reduceAdd, Nat.reduceEqDiff, beq_self_eq_true, decide_true, decide_false, Int.reduceBEq, Int.reduceLT, Int.reduceLE, cast1, S_eta, *])
theorem lto_LLI (xs : (List (List Int))) (hs : szL (szL (fun _ => 0)) xs ≤ 1048576) : Fun T 8 [rL xs] = some [rL xs] := by
 rw [Fun_k (t := tm8) rfl]; unfold tm8
 have hl : xs.length ≤ 1048576 := Nat.le_trans szL_len hs
 simp (maxSteps := 2000000) (disch := first | assumption | omega) only [SA, SB, SC, SP, SQ, SZ, reduceIte, reduceCtorEq, Nat.reduceAdd, Nat.reduceEqDiff, beq_self_eq_true, decide_true, decide_false, Int.reduceBEq, Int.reduceLT, Int.reduceLE, cast1, S_eta, S_make, Int.toNat_natCast, *]
 rw [toLoop xs rfl]
 ·simp (maxSteps := 2000000) (disch := first | assumption | omega) only [SA, SB, SC, SP, SQ, SZ, reduceIte, reduceCtorEq, Nat.reduceAdd, Nat.reduceEqDiff, beq_self_eq_true, decide_true, decide_false, Int.reduceBEq, Int.reduceLT, Int.reduceLE, cast1, S_eta, *] <;> repeat' (refine fork_eq (fun _ => ?_) (fun _ => ?_) <;> try simp (maxSteps := 2000000) (disch := first | assumption | omega) only [SA, SB, SC, SP, SQ, SZ, reduceIte, reduceCtorEq, Nat.reduceAdd, Nat.reduceEqDiff, beq_self_eq_true, decide_true, decide_false, Int.reduceBEq, Int.reduceLT, Int.reduceLE, cast1, S_eta, *])
 ·intro i ys hi hb hb' hl'
  have hq : szL (fun _ => 0) (atI xs i) ≤ 1048576 := by
   have := szL_mem (f := (szL (fun _ => 0))) (at_mem hi)
   omega
  simp (maxSteps := 2000000) (disch := first | assumption | omega) only [SA, SB, SC, SP, SQ, SZ, reduceIte, reduceCtorEq, Nat.reduceAdd, Nat.reduceEqDiff, beq_self_eq_true, decide_true, decide_false, Int.reduceBEq, Int.reduceLT, Int.reduceLE, cast1, S_eta, S_row, S_set, lto_LI, *] <;> repeat' (refine fork_eq (fun _ => ?_) (fun _ => ?_) <;> try simp (maxSteps := 2000000) (disch := first | assumption | omega) only [SA, SB, SC, SP, SQ, SZ, reduceIte, reduceCtorEq, Nat.reduceAdd, Nat.reduceEqDiff, beq_self_eq_true, decide_true, decide_false, Int.reduceBEq, Int.reduceLT, Int.reduceLE, cast1, S_eta, S_row, S_set, lto_LI, *])
 ·intro ys hl'
  simp (maxSteps := 2000000) (disch := first | assumption | omega) only [SA, SB, SC, SP, SQ, SZ, reduceIte, reduceCtorEq, Nat.reduceAdd, Nat.reduceEqDiff, beq_self_eq_true, decide_true, decide_false, Int.reduceBEq, Int.reduceLT, Int.reduceLE, cast1, S_eta, *] <;> repeat' (refine fork_eq (fun _ => ?_) (fun _ => ?_) <;> try simp (maxSteps := 2000000) (disch := first | assumption | omega) only [SA, SB, SC, SP, SQ, SZ, reduceIte, reduceCtorEq, Nat.reduceAdd, Nat.reduceEqDiff, beq_self_eq_true, decide_true, decide_false, Int.reduceBEq, Int.reduceLT, Int.reduceLE, cast1, S_eta, *])
theorem leq_LLI (xs ys : (List (List Int))) (hs : szL (szL (fun _ => 0)) xs ≤ 1099511627776) : Fun T 81 [rL xs, rL ys] = some [.bool (decide (xs = ys))] := by
 rw [Fun_k (t := tm81) rfl]; unfold tm81
 have hx : xs.length ≤ 1099511627776 := Nat.le_trans szL_len hs
 by_cases hl : ys.length = xs.length
 ·simp (maxSteps := 2000000) (disch := first | assumption | omega) only [SA, SB, SC, SP, SQ, SZ, reduceIte, reduceCtorEq, Nat.reduceAdd, Nat.reduceEqDiff, beq_self_eq_true, decide_true, decide_false, Int.reduceBEq, Int.reduceLT, Int.reduceLE, cast1, S_eta, *]
  rw [scanX 1 xs.length (fun i => decide (atI xs i = atI ys i)) [.bool false], allB_eq hl.symm]
  ·simp (maxSteps := 2000000) (disch := first | assumption | omega) only [SA, SB, SC, SP, SQ, SZ, reduceIte, reduceCtorEq, Nat.reduceAdd, Nat.reduceEqDiff, beq_self_eq_true, decide_true, decide_false, Int.reduceBEq, Int.reduceLT, Int.reduceLE, cast1, S_eta, *] <;> repeat' (refine fork_eq (fun _ => ?_) (fun _ => ?_) <;> try simp (maxSteps := 2000000) (disch := first | assumption | omega) only [SA, SB, SC, SP, SQ, SZ, reduceIte, reduceCtorEq, Nat.reduceAdd, Nat.reduceEqDiff, beq_self_eq_true, decide_true, decide_false, Int.reduceBEq, Int.reduceLT, Int.reduceLE, cast1, S_eta, *])
  ·intro i hi hp
   have hb : InB xs (i : Int) := InB_nat.2 hi
   have hb' : InB ys (i : Int) := InB_nat.2 (by omega)
   have h2 : decide ((i : Int) < xs.length) = true := by simp; omega
   have hq : szL (fun _ => 0) (atI xs i) ≤ 1099511627776 := by
    have := szL_mem (f := (szL (fun _ => 0))) (at_mem hi)
    omega
   simp (maxSteps := 2000000) (disch := first | assumption | omega) only [SA, SB, SC, SP, SQ, SZ, reduceIte, reduceCtorEq, Nat.reduceAdd, Nat.reduceEqDiff, beq_self_eq_true, decide_true, decide_false, Int.reduceBEq, Int.reduceLT, Int.reduceLE, cast1, S_eta, S_row, leq_LI, *] <;> repeat' (refine fork_eq (fun _ => ?_) (fun _ => ?_) <;> try simp (maxSteps := 2000000) (disch := first | assumption | omega) only [SA, SB, SC, SP, SQ, SZ, reduceIte, reduceCtorEq, Nat.reduceAdd, Nat.reduceEqDiff, beq_self_eq_true, decide_true, decide_false, Int.reduceBEq, Int.reduceLT, Int.reduceLE, cast1, S_eta, S_row, leq_LI, *])
  ·intro i hi hp
   have hb : InB xs (i : Int) := InB_nat.2 hi
   have hb' : InB ys (i : Int) := InB_nat.2 (by omega)
   have h2 : decide ((i : Int) < xs.length) = true := by simp; omega
   have hq : szL (fun _ => 0) (atI xs i) ≤ 1099511627776 := by
    have := szL_mem (f := (szL (fun _ => 0))) (at_mem hi)
    omega
   simp (maxSteps := 2000000) (disch := first | assumption | omega) only [SA, SB, SC, SP, SQ, SZ, reduceIte, reduceCtorEq, Nat.reduceAdd, Nat.reduceEqDiff, beq_self_eq_true, decide_true, decide_false, Int.reduceBEq, Int.reduceLT, Int.reduceLE, cast1, S_eta, S_row, leq_LI, *] <;> repeat' (refine fork_eq (fun _ => ?_) (fun _ => ?_) <;> try simp (maxSteps := 2000000) (disch := first | assumption | omega) only [SA, SB, SC, SP, SQ, SZ, reduceIte, reduceCtorEq, Nat.reduceAdd, Nat.reduceEqDiff, beq_self_eq_true, decide_true, decide_false, Int.reduceBEq, Int.reduceLT, Int.reduceLE, cast1, S_eta, S_row, leq_LI, *])
  ·have h2 : decide ((xs.length : Int) < xs.length) = false := by simp
   simp (maxSteps := 2000000) (disch := first | assumption | omega) only [SA, SB, SC, SP, SQ, SZ, reduceIte, reduceCtorEq, Nat.reduceAdd, Nat.reduceEqDiff, beq_self_eq_true, decide_true, decide_false, Int.reduceBEq, Int.reduceLT, Int.reduceLE, cast1, S_eta, *] <;> repeat' (refine fork_eq (fun _ => ?_) (fun _ => ?_) <;> try simp (maxSteps := 2000000) (disch := first | assumption | omega) only [SA, SB, SC, SP, SQ, SZ, reduceIte, reduceCtorEq, Nat.reduceAdd, Nat.reduceEqDiff, beq_self_eq_true, decide_true, decide_false, Int.reduceBEq, Int.reduceLT, Int.reduceLE, cast1, S_eta, *])
 ·have hl' : ((xs.length : Int) == (ys.length : Int)) = false := by simp; omega
  have e := eq_len (fun h => hl h.symm)
  simp (maxSteps := 2000000) (disch := first | assumption | omega) only [SA, SB, SC, SP, SQ, SZ, reduceIte, reduceCtorEq, Nat.reduceAdd, Nat.reduceEqDiff, beq_self_eq_true, decide_true, decide_false, Int.reduceBEq, Int.reduceLT, Int.reduceLE, cast1, S_eta, *] <;> repeat' (refine fork_eq (fun _ => ?_) (fun _ => ?_) <;> try simp (maxSteps := 2000000) (disch := first | assumption | omega) only [SA, SB, SC, SP, SQ, SZ, reduceIte, reduceCtorEq, Nat.reduceAdd, Nat.reduceEqDiff, beq_self_eq_true, decide_true, decide_false, Int.reduceBEq, Int.reduceLT, Int.reduceLE, cast1, S_eta, *])
theorem impl_within (x lo up : Int) : Fun T 50 [i64 x, i64 lo, i64 up] = some [.bool (inR x lo up)] := by
 rw [Fun_k (t := tm50) rfl]; unfold tm50; unfold inR
 simp (maxSteps := 2000000) (disch := first | assumption | omega) only [SA, SB, SC, SP, SQ, SZ, reduceIte, reduceCtorEq, Nat.reduceAdd, Nat.reduceEqDiff, beq_self_eq_true, decide_true, decide_false, Int.reduceBEq, Int.reduceLT, Int.reduceLE, cast1, S_eta, *] <;> repeat' (refine fork_eq (fun _ => ?_) (fun _ => ?_) <;> try simp (maxSteps := 2000000) (disch := first | assumption | omega) only [SA, SB, SC, SP, SQ, SZ, reduceIte, reduceCtorEq, Nat.reduceAdd, Nat.reduceEqDiff, beq_self_eq_true, decide_true, decide_false, Int.reduceBEq, Int.reduceLT, Int.reduceLE, cast1, S_eta, *])
theorem spec_l1In (x lo up : Int) : Fun T 20 [i64 x, i64 lo, i64 up] = some [.bool (inR x lo up)] := by
 rw [Fun_k (t := tm20) rfl]; unfold tm20; unfold inR
 simp (maxSteps := 2000000) (disch := first | assumption | omega) only [SA, SB, SC, SP, SQ, SZ, reduceIte, reduceCtorEq, Nat.reduceAdd, Nat.reduceEqDiff, beq_self_eq_true, decide_true, decide_false, Int.reduceBEq, Int.reduceLT, Int.reduceLE, cast1, S_eta, *] <;> repeat' (refine fork_eq (fun _ => ?_) (fun _ => ?_) <;> try simp (maxSteps := 2000000) (disch := first | assumption | omega) only [SA, SB, SC, SP, SQ, SZ, reduceIte, reduceCtorEq, Nat.reduceAdd, Nat.reduceEqDiff, beq_self_eq_true, decide_true, decide_false, Int.reduceBEq, Int.reduceLT, Int.reduceLE, cast1, S_eta, *])
theorem impl_IsGroup (n : Int) : Fun T 42 [i64 n] = some [.bool (isGrp n)] := by
 rw [Fun_k (t := tm42) rfl]; unfold tm42; unfold isGrp
 simp (maxSteps := 2000000) (disch := first | assumption | omega) only [SA, SB, SC, SP, SQ, SZ, reduceIte, reduceCtorEq, Nat.reduceAdd, Nat.reduceEqDiff, beq_self_eq_true, decide_true, decide_false, Int.reduceBEq, Int.reduceLT, Int.reduceLE, cast1, S_eta, *] <;> repeat' (refine fork_eq (fun _ => ?_) (fun _ => ?_) <;> try simp (maxSteps := 2000000) (disch := first | assumption | omega) only [SA, SB, SC, SP, SQ, SZ, reduceIte, reduceCtorEq, Nat.reduceAdd, Nat.reduceEqDiff, beq_self_eq_true, decide_true, decide_false, Int.reduceBEq, Int.reduceLT, Int.reduceLE, cast1, S_eta, *])
theorem spec_IsGroup (n : Int) : Fun T 18 [i64 n] = some [.bool (isGrp n)] := by
 rw [Fun_k (t := tm18) rfl]; unfold tm18; unfold isGrp
 simp (maxSteps := 2000000) (disch := first | assumption | omega) only [SA, SB, SC, SP, SQ, SZ, reduceIte, reduceCtorEq, Nat.reduceAdd, Nat.reduceEqDiff, beq_self_eq_true, decide_true, decide_false, Int.reduceBEq, Int.reduceLT, Int.reduceLE, cast1, S_eta, *] <;> repeat' (refine fork_eq (fun _ => ?_) (fun _ => ?_) <;> try simp (maxSteps := 2000000) (disch := first | assumption | omega) only [SA, SB, SC, SP, SQ, SZ, reduceIte, reduceCtorEq, Nat.reduceAdd, Nat.reduceEqDiff, beq_self_eq_true, decide_true, decide_false, Int.reduceBEq, Int.reduceLT, Int.reduceLE, cast1, S_eta, *])
theorem impl_isAccount (n : Int) : Fun T 52 [i64 n] = some [.bool (inR n 0 3)] := by
 rw [Fun_k (t := tm52) rfl]; unfold tm52
 simp (maxSteps := 2000000) (disch := first | assumption | omega) only [SA, SB, SC, SP, SQ, SZ, reduceIte, reduceCtorEq, Nat.reduceAdd, Nat.reduceEqDiff, beq_self_eq_true, decide_true, decide_false, Int.reduceBEq, Int.reduceLT, Int.reduceLE, cast1, S_eta, impl_within, *] <;> repeat' (refine fork_eq (fun _ => ?_) (fun _ => ?_) <;> try simp (maxSteps := 2000000) (disch := first | assumption | omega) only [SA, SB, SC, SP, SQ, SZ, reduceIte, reduceCtorEq, Nat.reduceAdd, Nat.reduceEqDiff, beq_self_eq_true, decide_true, decide_false, Int.reduceBEq, Int.reduceLT, Int.reduceLE, cast1, S_eta, impl_within, *])
theorem spec_l2Account (n : Int) : Fun T 26 [i64 n] = some [.bool (inR n 0 3)] := by
 rw [Fun_k (t := tm26) rfl]; unfold tm26
 simp (maxSteps := 2000000) (disch := first | assumption | omega) only [SA, SB, SC, SP, SQ, SZ, reduceIte, reduceCtorEq, Nat.reduceAdd, Nat.reduceEqDiff, beq_self_eq_true, decide_true, decide_false, Int.reduceBEq, Int.reduceLT, Int.reduceLE, cast1, S_eta, spec_l1In, *] <;> repeat' (refine fork_eq (fun _ => ?_) (fun _ => ?_) <;> try simp (maxSteps := 2000000) (disch := first | assumption | omega) only [SA, SB, SC, SP, SQ, SZ, reduceIte, reduceCtorEq, Nat.reduceAdd, Nat.reduceEqDiff, beq_self_eq_true, decide_true, decide_false, Int.reduceBEq, Int.reduceLT, Int.reduceLE, cast1, S_eta, spec_l1In, *])
theorem spec_l2Code (k i f t a : Int) : Fun T 25 [i64 k, i64 i, i64 f, i64 t, i64 a] = some [i64 (cmdCode ⟨k, i, f, t, a⟩)] := by
 rw [Fun_k (t := tm25) rfl]; unfold tm25; unfold cmdCode
 simp (maxSteps := 2000000) (disch := first | assumption | omega) only [SA, SB, SC, SP, SQ, SZ, reduceIte, reduceCtorEq, Nat.reduceAdd, Nat.reduceEqDiff, beq_self_eq_true, decide_true, decide_false, Int.reduceBEq, Int.reduceLT, Int.reduceLE, cast1, S_eta, spec_l2Account, spec_l1In, *] <;> repeat' (refine fork_eq (fun _ => ?_) (fun _ => ?_) <;> try simp (maxSteps := 2000000) (disch := first | assumption | omega) only [SA, SB, SC, SP, SQ, SZ, reduceIte, reduceCtorEq, Nat.reduceAdd, Nat.reduceEqDiff, beq_self_eq_true, decide_true, decide_false, Int.reduceBEq, Int.reduceLT, Int.reduceLE, cast1, S_eta, spec_l2Account, spec_l1In, *])
theorem spec_GoodCmd (k i f t a : Int) : Fun T 24 [i64 k, i64 i, i64 f, i64 t, i64 a] = some [.bool (cmdOk ⟨k, i, f, t, a⟩)] := by
 rw [Fun_k (t := tm24) rfl]; unfold tm24; unfold cmdOk
 simp (maxSteps := 2000000) (disch := first | assumption | omega) only [SA, SB, SC, SP, SQ, SZ, reduceIte, reduceCtorEq, Nat.reduceAdd, Nat.reduceEqDiff, beq_self_eq_true, decide_true, decide_false, Int.reduceBEq, Int.reduceLT, Int.reduceLE, cast1, S_eta, spec_l2Code, S_eqs, cmdCode0, *] <;> repeat' (refine fork_eq (fun _ => ?_) (fun _ => ?_) <;> try simp (maxSteps := 2000000) (disch := first | assumption | omega) only [SA, SB, SC, SP, SQ, SZ, reduceIte, reduceCtorEq, Nat.reduceAdd, Nat.reduceEqDiff, beq_self_eq_true, decide_true, decide_false, Int.reduceBEq, Int.reduceLT, Int.reduceLE, cast1, S_eta, spec_l2Code, S_eqs, cmdCode0, *])
 all_goals (refine bool_fin ?_; simp only [Bool.and_eq_true, Bool.or_eq_true, Bool.not_eq_true', Bool.not_eq_false', Bool.and_eq_false_iff, Bool.or_eq_false_iff, Bool.false_eq_true, beq_iff_eq, beq_eq_false_iff_ne, decide_eq_true_eq, decide_eq_false_iff_not, ne_eq] at *; grind)
theorem impl_GoodCmd (k i f t a : Int) : Fun T 51 [i64 k, i64 i, i64 f, i64 t, i64 a] = some [.bool (cmdOk ⟨k, i, f, t, a⟩)] := by
 rw [Fun_k (t := tm51) rfl]; unfold tm51; unfold cmdOk
 simp (maxSteps := 2000000) (disch := first | assumption | omega) only [SA, SB, SC, SP, SQ, SZ, reduceIte, reduceCtorEq, Nat.reduceAdd, Nat.reduceEqDiff, beq_self_eq_true, decide_true, decide_false, Int.reduceBEq, Int.reduceLT, Int.reduceLE, cast1, S_eta, impl_within, impl_isAccount, S_eqs, *] <;> repeat' (refine fork_eq (fun _ => ?_) (fun _ => ?_) <;> try simp (maxSteps := 2000000) (disch := first | assumption | omega) only [SA, SB, SC, SP, SQ, SZ, reduceIte, reduceCtorEq, Nat.reduceAdd, Nat.reduceEqDiff, beq_self_eq_true, decide_true, decide_false, Int.reduceBEq, Int.reduceLT, Int.reduceLE, cast1, S_eta, impl_within, impl_isAccount, S_eqs, *])
theorem spec_l3Inst (n rep no : Int) (hg : isGrp n = true) : Fun T 30 [i64 n, i64 rep, i64 no] = some [.bool (inst n rep no)] := by
 rw [Fun_k (t := tm30) rfl]; unfold tm30; unfold inst
 have hn := isGrp_rng hg
 simp (maxSteps := 2000000) (disch := first | assumption | omega) only [SA, SB, SC, SP, SQ, SZ, reduceIte, reduceCtorEq, Nat.reduceAdd, Nat.reduceEqDiff, beq_self_eq_true, decide_true, decide_false, Int.reduceBEq, Int.reduceLT, Int.reduceLE, cast1, S_eta, spec_l1In, *] <;> repeat' (refine fork_eq (fun _ => ?_) (fun _ => ?_) <;> try simp (maxSteps := 2000000) (disch := first | assumption | omega) only [SA, SB, SC, SP, SQ, SZ, reduceIte, reduceCtorEq, Nat.reduceAdd, Nat.reduceEqDiff, beq_self_eq_true, decide_true, decide_false, Int.reduceBEq, Int.reduceLT, Int.reduceLE, cast1, S_eta, spec_l1In, *])
theorem impl_isInstance (n rep no : Int) : Fun T 61 [i64 n, i64 rep, i64 no] = some [.bool (isGrp n && inst n rep no)] := by
 rw [Fun_k (t := tm61) rfl]; unfold tm61; unfold inst
 cases hg : isGrp n
 ·simp (maxSteps := 2000000) (disch := first | assumption | omega) only [SA, SB, SC, SP, SQ, SZ, reduceIte, reduceCtorEq, Nat.reduceAdd, Nat.reduceEqDiff, beq_self_eq_true, decide_true, decide_false, Int.reduceBEq, Int.reduceLT, Int.reduceLE, cast1, S_eta, impl_IsGroup, *] <;> repeat' (refine fork_eq (fun _ => ?_) (fun _ => ?_) <;> try simp (maxSteps := 2000000) (disch := first | assumption | omega) only [SA, SB, SC, SP, SQ, SZ, reduceIte, reduceCtorEq, Nat.reduceAdd, Nat.reduceEqDiff, beq_self_eq_true, decide_true, decide_false, Int.reduceBEq, Int.reduceLT, Int.reduceLE, cast1, S_eta, impl_IsGroup, *])
 have hn := isGrp_rng hg
 simp (maxSteps := 2000000) (disch := first | assumption | omega) only [SA, SB, SC, SP, SQ, SZ, reduceIte, reduceCtorEq, Nat.reduceAdd, Nat.reduceEqDiff, beq_self_eq_true, decide_true, decide_false, Int.reduceBEq, Int.reduceLT, Int.reduceLE, cast1, S_eta, impl_IsGroup, impl_within, *] <;> repeat' (refine fork_eq (fun _ => ?_) (fun _ => ?_) <;> try simp (maxSteps := 2000000) (disch := first | assumption | omega) only [SA, SB, SC, SP, SQ, SZ, reduceIte, reduceCtorEq, Nat.reduceAdd, Nat.reduceEqDiff, beq_self_eq_true, decide_true, decide_false, Int.reduceBEq, Int.reduceLT, Int.reduceLE, cast1, S_eta, impl_IsGroup, impl_within, *])
theorem spec_l1All (xs : List Int) (lo up : Int) (hx : xs.length ≤ 1099511627776) : Fun T 28 [rL xs, i64 lo, i64 up] = some [.bool (xs.all fun x => inR x lo up)] := by
 rw [Fun_k (t := tm28) rfl]; unfold tm28
 simp (maxSteps := 2000000) (disch := first | assumption | omega) only [SA, SB, SC, SP, SQ, SZ, reduceIte, reduceCtorEq, Nat.reduceAdd, Nat.reduceEqDiff, beq_self_eq_true, decide_true, decide_false, Int.reduceBEq, Int.reduceLT, Int.reduceLE, cast1, S_eta, S_row, *]
 rw [allX 1 xs (fun x => inR x lo up) [.bool false]]
 ·simp (maxSteps := 2000000) (disch := first | assumption | omega) only [SA, SB, SC, SP, SQ, SZ, reduceIte, reduceCtorEq, Nat.reduceAdd, Nat.reduceEqDiff, beq_self_eq_true, decide_true, decide_false, Int.reduceBEq, Int.reduceLT, Int.reduceLE, cast1, S_eta, *] <;> repeat' (refine fork_eq (fun _ => ?_) (fun _ => ?_) <;> try simp (maxSteps := 2000000) (disch := first | assumption | omega) only [SA, SB, SC, SP, SQ, SZ, reduceIte, reduceCtorEq, Nat.reduceAdd, Nat.reduceEqDiff, beq_self_eq_true, decide_true, decide_false, Int.reduceBEq, Int.reduceLT, Int.reduceLE, cast1, S_eta, *])
 ·intro i hi hb hl hp
  simp (maxSteps := 2000000) (disch := first | assumption | omega) only [SA, SB, SC, SP, SQ, SZ, reduceIte, reduceCtorEq, Nat.reduceAdd, Nat.reduceEqDiff, beq_self_eq_true, decide_true, decide_false, Int.reduceBEq, Int.reduceLT, Int.reduceLE, cast1, S_eta, S_row, spec_l1In, *] <;> repeat' (refine fork_eq (fun _ => ?_) (fun _ => ?_) <;> try simp (maxSteps := 2000000) (disch := first | assumption | omega) only [SA, SB, SC, SP, SQ, SZ, reduceIte, reduceCtorEq, Nat.reduceAdd, Nat.reduceEqDiff, beq_self_eq_true, decide_true, decide_false, Int.reduceBEq, Int.reduceLT, Int.reduceLE, cast1, S_eta, S_row, spec_l1In, *])
 ·intro i hi hb hl hp
  simp (maxSteps := 2000000) (disch := first | assumption | omega) only [SA, SB, SC, SP, SQ, SZ, reduceIte, reduceCtorEq, Nat.reduceAdd, Nat.reduceEqDiff, beq_self_eq_true, decide_true, decide_false, Int.reduceBEq, Int.reduceLT, Int.reduceLE, cast1, S_eta, S_row, spec_l1In, *] <;> repeat' (refine fork_eq (fun _ => ?_) (fun _ => ?_) <;> try simp (maxSteps := 2000000) (disch := first | assumption | omega) only [SA, SB, SC, SP, SQ, SZ, reduceIte, reduceCtorEq, Nat.reduceAdd, Nat.reduceEqDiff, beq_self_eq_true, decide_true, decide_false, Int.reduceBEq, Int.reduceLT, Int.reduceLE, cast1, S_eta, S_row, spec_l1In, *])
 ·intro hl
  simp (maxSteps := 2000000) (disch := first | assumption | omega) only [SA, SB, SC, SP, SQ, SZ, reduceIte, reduceCtorEq, Nat.reduceAdd, Nat.reduceEqDiff, beq_self_eq_true, decide_true, decide_false, Int.reduceBEq, Int.reduceLT, Int.reduceLE, cast1, S_eta, *] <;> repeat' (refine fork_eq (fun _ => ?_) (fun _ => ?_) <;> try simp (maxSteps := 2000000) (disch := first | assumption | omega) only [SA, SB, SC, SP, SQ, SZ, reduceIte, reduceCtorEq, Nat.reduceAdd, Nat.reduceEqDiff, beq_self_eq_true, decide_true, decide_false, Int.reduceBEq, Int.reduceLT, Int.reduceLE, cast1, S_eta, *])
theorem spec_l3Attr (n s : Int) (xs : List Int) (hx : xs.length ≤ 1099511627776) : Fun T 27 [i64 n, i64 s, rL xs] = some [.bool (attrOk n ⟨s, xs⟩)] := by
 rw [Fun_k (t := tm27) rfl]; unfold tm27; unfold attrOk
 simp (maxSteps := 2000000) (disch := first | assumption | omega) only [SA, SB, SC, SP, SQ, SZ, reduceIte, reduceCtorEq, Nat.reduceAdd, Nat.reduceEqDiff, beq_self_eq_true, decide_true, decide_false, Int.reduceBEq, Int.reduceLT, Int.reduceLE, cast1, S_eta, spec_l1In, spec_l1All, *] <;> repeat' (refine fork_eq (fun _ => ?_) (fun _ => ?_) <;> try simp (maxSteps := 2000000) (disch := first | assumption | omega) only [SA, SB, SC, SP, SQ, SZ, reduceIte, reduceCtorEq, Nat.reduceAdd, Nat.reduceEqDiff, beq_self_eq_true, decide_true, decide_false, Int.reduceBEq, Int.reduceLT, Int.reduceLE, cast1, S_eta, spec_l1In, spec_l1All, *])
theorem impl_GoodAttr_1 (x : Int) : Fun T 56 [i64 x] = some [.bool (!inR x 0 6)] := by
 rw [Fun_k (t := tm56) rfl]; unfold tm56
 simp (maxSteps := 2000000) (disch := first | assumption | omega) only [SA, SB, SC, SP, SQ, SZ, reduceIte, reduceCtorEq, Nat.reduceAdd, Nat.reduceEqDiff, beq_self_eq_true, decide_true, decide_false, Int.reduceBEq, Int.reduceLT, Int.reduceLE, cast1, S_eta, impl_within, *] <;> repeat' (refine fork_eq (fun _ => ?_) (fun _ => ?_) <;> try simp (maxSteps := 2000000) (disch := first | assumption | omega) only [SA, SB, SC, SP, SQ, SZ, reduceIte, reduceCtorEq, Nat.reduceAdd, Nat.reduceEqDiff, beq_self_eq_true, decide_true, decide_false, Int.reduceBEq, Int.reduceLT, Int.reduceLE, cast1, S_eta, impl_within, *])
theorem ix_GoodAttr_1  (xs : List Int) (hx : xs.length ≤ 1099511627776) : Fun T 55 [rL xs] = some [i64 (ixF (fun x => !inR x 0 6) xs)] := by
 rw [Fun_k (t := tm55) rfl]; unfold tm55
 simp (maxSteps := 2000000) (disch := first | assumption | omega) only [SA, SB, SC, SP, SQ, SZ, reduceIte, reduceCtorEq, Nat.reduceAdd, Nat.reduceEqDiff, beq_self_eq_true, decide_true, decide_false, Int.reduceBEq, Int.reduceLT, Int.reduceLE, cast1, S_eta, S_row, *]
 rw [findX 1 xs (fun x => !inR x 0 6) (fun i => [i64 i])]
 ·cases h : xs.any (fun x => !inR x 0 6)
  ·have e : ixF (fun x => !inR x 0 6) xs = -1 := by
    have h2 := ixF_any (fun x => !inR x 0 6) xs
    rw [h] at h2
    unfold ixF at h2 ⊢
    split at h2 <;> simp_all
   rw [e]; simp (maxSteps := 2000000) (disch := first | assumption | omega) only [SA, SB, SC, SP, SQ, SZ, reduceIte, reduceCtorEq, Nat.reduceAdd, Nat.reduceEqDiff, beq_self_eq_true, decide_true, decide_false, Int.reduceBEq, Int.reduceLT, Int.reduceLE, cast1, S_eta]
  ·simp (maxSteps := 2000000) (disch := first | assumption | omega) only [SA, SB, SC, SP, SQ, SZ, reduceIte, reduceCtorEq, Nat.reduceAdd, Nat.reduceEqDiff, beq_self_eq_true, decide_true, decide_false, Int.reduceBEq, Int.reduceLT, Int.reduceLE, cast1, S_eta]
 ·intro i hi hb hl hp
  simp (maxSteps := 2000000) (disch := first | assumption | omega) only [SA, SB, SC, SP, SQ, SZ, reduceIte, reduceCtorEq, Nat.reduceAdd, Nat.reduceEqDiff, beq_self_eq_true, decide_true, decide_false, Int.reduceBEq, Int.reduceLT, Int.reduceLE, cast1, S_eta, S_row, impl_GoodAttr_1, *] <;> repeat' (refine fork_eq (fun _ => ?_) (fun _ => ?_) <;> try simp (maxSteps := 2000000) (disch := first | assumption | omega) only [SA, SB, SC, SP, SQ, SZ, reduceIte, reduceCtorEq, Nat.reduceAdd, Nat.reduceEqDiff, beq_self_eq_true, decide_true, decide_false, Int.reduceBEq, Int.reduceLT, Int.reduceLE, cast1, S_eta, S_row, impl_GoodAttr_1, *])
 ·intro i hi hb hl hp
  simp (maxSteps := 2000000) (disch := first | assumption | omega) only [SA, SB, SC, SP, SQ, SZ, reduceIte, reduceCtorEq, Nat.reduceAdd, Nat.reduceEqDiff, beq_self_eq_true, decide_true, decide_false, Int.reduceBEq, Int.reduceLT, Int.reduceLE, cast1, S_eta, S_row, impl_GoodAttr_1, *] <;> repeat' (refine fork_eq (fun _ => ?_) (fun _ => ?_) <;> try simp (maxSteps := 2000000) (disch := first | assumption | omega) only [SA, SB, SC, SP, SQ, SZ, reduceIte, reduceCtorEq, Nat.reduceAdd, Nat.reduceEqDiff, beq_self_eq_true, decide_true, decide_false, Int.reduceBEq, Int.reduceLT, Int.reduceLE, cast1, S_eta, S_row, impl_GoodAttr_1, *])
 ·intro hl
  simp (maxSteps := 2000000) (disch := first | assumption | omega) only [SA, SB, SC, SP, SQ, SZ, reduceIte, reduceCtorEq, Nat.reduceAdd, Nat.reduceEqDiff, beq_self_eq_true, decide_true, decide_false, Int.reduceBEq, Int.reduceLT, Int.reduceLE, cast1, S_eta, *] <;> repeat' (refine fork_eq (fun _ => ?_) (fun _ => ?_) <;> try simp (maxSteps := 2000000) (disch := first | assumption | omega) only [SA, SB, SC, SP, SQ, SZ, reduceIte, reduceCtorEq, Nat.reduceAdd, Nat.reduceEqDiff, beq_self_eq_true, decide_true, decide_false, Int.reduceBEq, Int.reduceLT, Int.reduceLE, cast1, S_eta, *])
theorem ct_GoodAttr_1  (xs : List Int) (hx : xs.length ≤ 1099511627776) : Fun T 54 [rL xs] = some [.bool (xs.any (fun x => !inR x 0 6))] := by
 rw [Fun_k (t := tm54) rfl]; unfold tm54
 simp (maxSteps := 2000000) (disch := first | assumption | omega) only [SA, SB, SC, SP, SQ, SZ, reduceIte, reduceCtorEq, Nat.reduceAdd, Nat.reduceEqDiff, beq_self_eq_true, decide_true, decide_false, Int.reduceBEq, Int.reduceLT, Int.reduceLE, cast1, S_eta, ix_GoodAttr_1, ixF_any, *] <;> repeat' (refine fork_eq (fun _ => ?_) (fun _ => ?_) <;> try simp (maxSteps := 2000000) (disch := first | assumption | omega) only [SA, SB, SC, SP, SQ, SZ, reduceIte, reduceCtorEq, Nat.reduceAdd, Nat.reduceEqDiff, beq_self_eq_true, decide_true, decide_false, Int.reduceBEq, Int.reduceLT, Int.reduceLE, cast1, S_eta, ix_GoodAttr_1, ixF_any, *])
theorem impl_GoodAttr (n s : Int) (xs : List Int) (hx : xs.length ≤ 1099511627776) : Fun T 53 [i64 n, i64 s, rL xs] = some [.bool (isGrp n && attrOk n ⟨s, xs⟩)] := by
 rw [Fun_k (t := tm53) rfl]; unfold tm53; unfold attrOk
 have e : xs.any (fun x => !inR x 0 6) = !xs.all fun x => inR x 0 6 := by rw [List.not_all_eq_any_not]
 simp (maxSteps := 2000000) (disch := first | assumption | omega) only [SA, SB, SC, SP, SQ, SZ, reduceIte, reduceCtorEq, Nat.reduceAdd, Nat.reduceEqDiff, beq_self_eq_true, decide_true, decide_false, Int.reduceBEq, Int.reduceLT, Int.reduceLE, cast1, S_eta, impl_IsGroup, impl_within, ct_GoodAttr_1, e, Bool.not_not, *] <;> repeat' (refine fork_eq (fun _ => ?_) (fun _ => ?_) <;> try simp (maxSteps := 2000000) (disch := first | assumption | omega) only [SA, SB, SC, SP, SQ, SZ, reduceIte, reduceCtorEq, Nat.reduceAdd, Nat.reduceEqDiff, beq_self_eq_true, decide_true, decide_false, Int.reduceBEq, Int.reduceLT, Int.reduceLE, cast1, S_eta, impl_IsGroup, impl_within, ct_GoodAttr_1, e, Bool.not_not, *])
theorem spec_l1Same (xs ys : List Int) (hx : xs.length ≤ 1099511627776) : Fun T 23 [rL xs, rL ys] = some [.bool (decide (xs = ys))] := by
 rw [Fun_k (t := tm23) rfl]; unfold tm23
 by_cases hl : ys.length = xs.length
 ·simp (maxSteps := 2000000) (disch := first | assumption | omega) only [SA, SB, SC, SP, SQ, SZ, reduceIte, reduceCtorEq, Nat.reduceAdd, Nat.reduceEqDiff, beq_self_eq_true, decide_true, decide_false, Int.reduceBEq, Int.reduceLT, Int.reduceLE, cast1, S_eta, *]
  rw [scanX 1 xs.length (fun i => decide (atI xs i = atI ys i)) [.bool false], allB_eq hl.symm]
  ·simp (maxSteps := 2000000) (disch := first | assumption | omega) only [SA, SB, SC, SP, SQ, SZ, reduceIte, reduceCtorEq, Nat.reduceAdd, Nat.reduceEqDiff, beq_self_eq_true, decide_true, decide_false, Int.reduceBEq, Int.reduceLT, Int.reduceLE, cast1, S_eta, *] <;> repeat' (refine fork_eq (fun _ => ?_) (fun _ => ?_) <;> try simp (maxSteps := 2000000) (disch := first | assumption | omega) only [SA, SB, SC, SP, SQ, SZ, reduceIte, reduceCtorEq, Nat.reduceAdd, Nat.reduceEqDiff, beq_self_eq_true, decide_true, decide_false, Int.reduceBEq, Int.reduceLT, Int.reduceLE, cast1, S_eta, *])
  ·intro i hi hp
   have hb : InB xs (i : Int) := InB_nat.2 hi
   have hb' : InB ys (i : Int) := InB_nat.2 (by omega)
   have h2 : decide ((i : Int) < xs.length) = true := by simp; omega
   have h3 : (atI xs i == atI ys i) = true := by simpa using hp
   simp (maxSteps := 2000000) (disch := first | assumption | omega) only [SA, SB, SC, SP, SQ, SZ, reduceIte, reduceCtorEq, Nat.reduceAdd, Nat.reduceEqDiff, beq_self_eq_true, decide_true, decide_false, Int.reduceBEq, Int.reduceLT, Int.reduceLE, cast1, S_eta, S_row, *] <;> repeat' (refine fork_eq (fun _ => ?_) (fun _ => ?_) <;> try simp (maxSteps := 2000000) (disch := first | assumption | omega) only [SA, SB, SC, SP, SQ, SZ, reduceIte, reduceCtorEq, Nat.reduceAdd, Nat.reduceEqDiff, beq_self_eq_true, decide_true, decide_false, Int.reduceBEq, Int.reduceLT, Int.reduceLE, cast1, S_eta, S_row, *])
  ·intro i hi hp
   have hb : InB xs (i : Int) := InB_nat.2 hi
   have hb' : InB ys (i : Int) := InB_nat.2 (by omega)
   have h2 : decide ((i : Int) < xs.length) = true := by simp; omega
   have h3 : (atI xs i == atI ys i) = false := by simpa using hp
   simp (maxSteps := 2000000) (disch := first | assumption | omega) only [SA, SB, SC, SP, SQ, SZ, reduceIte, reduceCtorEq, Nat.reduceAdd, Nat.reduceEqDiff, beq_self_eq_true, decide_true, decide_false, Int.reduceBEq, Int.reduceLT, Int.reduceLE, cast1, S_eta, S_row, *] <;> repeat' (refine fork_eq (fun _ => ?_) (fun _ => ?_) <;> try simp (maxSteps := 2000000) (disch := first | assumption | omega) only [SA, SB, SC, SP, SQ, SZ, reduceIte, reduceCtorEq, Nat.reduceAdd, Nat.reduceEqDiff, beq_self_eq_true, decide_true, decide_false, Int.reduceBEq, Int.reduceLT, Int.reduceLE, cast1, S_eta, S_row, *])
  ·have h2 : decide ((xs.length : Int) < xs.length) = false := by simp
   simp (maxSteps := 2000000) (disch := first | assumption | omega) only [SA, SB, SC, SP, SQ, SZ, reduceIte, reduceCtorEq, Nat.reduceAdd, Nat.reduceEqDiff, beq_self_eq_true, decide_true, decide_false, Int.reduceBEq, Int.reduceLT, Int.reduceLE, cast1, S_eta, *] <;> repeat' (refine fork_eq (fun _ => ?_) (fun _ => ?_) <;> try simp (maxSteps := 2000000) (disch := first | assumption | omega) only [SA, SB, SC, SP, SQ, SZ, reduceIte, reduceCtorEq, Nat.reduceAdd, Nat.reduceEqDiff, beq_self_eq_true, decide_true, decide_false, Int.reduceBEq, Int.reduceLT, Int.reduceLE, cast1, S_eta, *])
 ·have hl' : ((xs.length : Int) == (ys.length : Int)) = false := by simp; omega
  have e := eq_len (fun h => hl h.symm)
  simp (maxSteps := 2000000) (disch := first | assumption | omega) only [SA, SB, SC, SP, SQ, SZ, reduceIte, reduceCtorEq, Nat.reduceAdd, Nat.reduceEqDiff, beq_self_eq_true, decide_true, decide_false, Int.reduceBEq, Int.reduceLT, Int.reduceLE, cast1, S_eta, *] <;> repeat' (refine fork_eq (fun _ => ?_) (fun _ => ?_) <;> try simp (maxSteps := 2000000) (disch := first | assumption | omega) only [SA, SB, SC, SP, SQ, SZ, reduceIte, reduceCtorEq, Nat.reduceAdd, Nat.reduceEqDiff, beq_self_eq_true, decide_true, decide_false, Int.reduceBEq, Int.reduceLT, Int.reduceLE, cast1, S_eta, *])
theorem slices_Equal_int (xs ys : List Int) (hx : xs.length ≤ 1099511627776) : Fun T 59 [rL xs, rL ys] = some [.bool (decide (xs = ys))] := by
 rw [Fun_k (t := tm59) rfl]; unfold tm59
 by_cases hl : ys.length = xs.length
 ·simp (maxSteps := 2000000) (disch := first | assumption | omega) only [SA, SB, SC, SP, SQ, SZ, reduceIte, reduceCtorEq, Nat.reduceAdd, Nat.reduceEqDiff, beq_self_eq_true, decide_true, decide_false, Int.reduceBEq, Int.reduceLT, Int.reduceLE, cast1, S_eta, *]
  rw [scanX 1 xs.length (fun i => decide (atI xs i = atI ys i)) [.bool false], allB_eq hl.symm]
  ·simp (maxSteps := 2000000) (disch := first | assumption | omega) only [SA, SB, SC, SP, SQ, SZ, reduceIte, reduceCtorEq, Nat.reduceAdd, Nat.reduceEqDiff, beq_self_eq_true, decide_true, decide_false, Int.reduceBEq, Int.reduceLT, Int.reduceLE, cast1, S_eta, *] <;> repeat' (refine fork_eq (fun _ => ?_) (fun _ => ?_) <;> try simp (maxSteps := 2000000) (disch := first | assumption | omega) only [SA, SB, SC, SP, SQ, SZ, reduceIte, reduceCtorEq, Nat.reduceAdd, Nat.reduceEqDiff, beq_self_eq_true, decide_true, decide_false, Int.reduceBEq, Int.reduceLT, Int.reduceLE, cast1, S_eta, *])
  ·intro i hi hp
   have hb : InB xs (i : Int) := InB_nat.2 hi
   have hb' : InB ys (i : Int) := InB_nat.2 (by omega)
   have h2 : decide ((i : Int) < xs.length) = true := by simp; omega
   have h3 : (atI xs i == atI ys i) = true := by simpa using hp
   simp (maxSteps := 2000000) (disch := first | assumption | omega) only [SA, SB, SC, SP, SQ, SZ, reduceIte, reduceCtorEq, Nat.reduceAdd, Nat.reduceEqDiff, beq_self_eq_true, decide_true, decide_false, Int.reduceBEq, Int.reduceLT, Int.reduceLE, cast1, S_eta, S_row, *] <;> repeat' (refine fork_eq (fun _ => ?_) (fun _ => ?_) <;> try simp (maxSteps := 2000000) (disch := first | assumption | omega) only [SA, SB, SC, SP, SQ, SZ, reduceIte, reduceCtorEq, Nat.reduceAdd, Nat.reduceEqDiff, beq_self_eq_true, decide_true, decide_false, Int.reduceBEq, Int.reduceLT, Int.reduceLE, cast1, S_eta, S_row, *])
  ·intro i hi hp
   have hb : InB xs (i : Int) := InB_nat.2 hi
   have hb' : InB ys (i : Int) := InB_nat.2 (by omega)
   have h2 : decide ((i : Int) < xs.length) = true := by simp; omega
   have h3 : (atI xs i == atI ys i) = false := by simpa using hp
   simp (maxSteps := 2000000) (disch := first | assumption | omega) only [SA, SB, SC, SP, SQ, SZ, reduceIte, reduceCtorEq, Nat.reduceAdd, Nat.reduceEqDiff, beq_self_eq_true, decide_true, decide_false, Int.reduceBEq, Int.reduceLT, Int.reduceLE, cast1, S_eta, S_row, *] <;> repeat' (refine fork_eq (fun _ => ?_) (fun _ => ?_) <;> try simp (maxSteps := 2000000) (disch := first | assumption | omega) only [SA, SB, SC, SP, SQ, SZ, reduceIte, reduceCtorEq, Nat.reduceAdd, Nat.reduceEqDiff, beq_self_eq_true, decide_true, decide_false, Int.reduceBEq, Int.reduceLT, Int.reduceLE, cast1, S_eta, S_row, *])
  ·have h2 : decide ((xs.length : Int) < xs.length) = false := by simp
   simp (maxSteps := 2000000) (disch := first | assumption | omega) only [SA, SB, SC, SP, SQ, SZ, reduceIte, reduceCtorEq, Nat.reduceAdd, Nat.reduceEqDiff, beq_self_eq_true, decide_true, decide_false, Int.reduceBEq, Int.reduceLT, Int.reduceLE, cast1, S_eta, *] <;> repeat' (refine fork_eq (fun _ => ?_) (fun _ => ?_) <;> try simp (maxSteps := 2000000) (disch := first | assumption | omega) only [SA, SB, SC, SP, SQ, SZ, reduceIte, reduceCtorEq, Nat.reduceAdd, Nat.reduceEqDiff, beq_self_eq_true, decide_true, decide_false, Int.reduceBEq, Int.reduceLT, Int.reduceLE, cast1, S_eta, *])
 ·have hl' : ((xs.length : Int) == (ys.length : Int)) = false := by simp; omega
  have e := eq_len (fun h => hl h.symm)
  simp (maxSteps := 2000000) (disch := first | assumption | omega) only [SA, SB, SC, SP, SQ, SZ, reduceIte, reduceCtorEq, Nat.reduceAdd, Nat.reduceEqDiff, beq_self_eq_true, decide_true, decide_false, Int.reduceBEq, Int.reduceLT, Int.reduceLE, cast1, S_eta, *] <;> repeat' (refine fork_eq (fun _ => ?_) (fun _ => ?_) <;> try simp (maxSteps := 2000000) (disch := first | assumption | omega) only [SA, SB, SC, SP, SQ, SZ, reduceIte, reduceCtorEq, Nat.reduceAdd, Nat.reduceEqDiff, beq_self_eq_true, decide_true, decide_false, Int.reduceBEq, Int.reduceLT, Int.reduceLE, cast1, S_eta, *])
theorem spec_SameAttr (s s' : Int) (xs ys : List Int) (hx : xs.length ≤ 1099511627776) : Fun T 22 [i64 s, rL xs, i64 s', rL ys] = some [.bool (decide ((⟨s, xs⟩ : TAttr) = ⟨s', ys⟩))] := by
 rw [Fun_k (t := tm22) rfl]; unfold tm22
 have e : decide ((⟨s, xs⟩ : TAttr) = ⟨s', ys⟩) = (s == s' && decide (xs = ys)) := by simp [TAttr.mk.injEq, Bool.beq_eq_decide_eq]
 simp (maxSteps := 2000000) (disch := first | assumption | omega) only [SA, SB, SC, SP, SQ, SZ, reduceIte, reduceCtorEq, Nat.reduceAdd, Nat.reduceEqDiff, beq_self_eq_true, decide_true, decide_false, Int.reduceBEq, Int.reduceLT, Int.reduceLE, cast1, S_eta, spec_l1Same, e, *] <;> repeat' (refine fork_eq (fun _ => ?_) (fun _ => ?_) <;> try simp (maxSteps := 2000000) (disch := first | assumption | omega) only [SA, SB, SC, SP, SQ, SZ, reduceIte, reduceCtorEq, Nat.reduceAdd, Nat.reduceEqDiff, beq_self_eq_true, decide_true, decide_false, Int.reduceBEq, Int.reduceLT, Int.reduceLE, cast1, S_eta, spec_l1Same, e, *])
theorem impl_SameAttr (s s' : Int) (xs ys : List Int) (hx : xs.length ≤ 1099511627776) : Fun T 58 [i64 s, rL xs, i64 s', rL ys] = some [.bool (decide ((⟨s, xs⟩ : TAttr) = ⟨s', ys⟩))] := by
 rw [Fun_k (t := tm58) rfl]; unfold tm58
 have e : decide ((⟨s, xs⟩ : TAttr) = ⟨s', ys⟩) = (s == s' && decide (xs = ys)) := by simp [TAttr.mk.injEq, Bool.beq_eq_decide_eq]
 simp (maxSteps := 2000000) (disch := first | assumption | omega) only [SA, SB, SC, SP, SQ, SZ, reduceIte, reduceCtorEq, Nat.reduceAdd, Nat.reduceEqDiff, beq_self_eq_true, decide_true, decide_false, Int.reduceBEq, Int.reduceLT, Int.reduceLE, cast1, S_eta, slices_Equal_int, e, *] <;> repeat' (refine fork_eq (fun _ => ?_) (fun _ => ?_) <;> try simp (maxSteps := 2000000) (disch := first | assumption | omega) only [SA, SB, SC, SP, SQ, SZ, reduceIte, reduceCtorEq, Nat.reduceAdd, Nat.reduceEqDiff, beq_self_eq_true, decide_true, decide_false, Int.reduceBEq, Int.reduceLT, Int.reduceLE, cast1, S_eta, slices_Equal_int, e, *])
theorem spec_l3None (n : Int) (hg : isGrp n = true) : Fun T 21 [i64 n] = some [i64 (none0 n).seq, rL (none0 n).deps] := by
 rw [Fun_k (t := tm21) rfl]; unfold tm21; unfold none0
 have hn := isGrp_rng hg
 simp (maxSteps := 2000000) (disch := first | assumption | omega) only [SA, SB, SC, SP, SQ, SZ, reduceIte, reduceCtorEq, Nat.reduceAdd, Nat.reduceEqDiff, beq_self_eq_true, decide_true, decide_false, Int.reduceBEq, Int.reduceLT, Int.reduceLE, cast1, S_eta, S_make, *] <;> repeat' (refine fork_eq (fun _ => ?_) (fun _ => ?_) <;> try simp (maxSteps := 2000000) (disch := first | assumption | omega) only [SA, SB, SC, SP, SQ, SZ, reduceIte, reduceCtorEq, Nat.reduceAdd, Nat.reduceEqDiff, beq_self_eq_true, decide_true, decide_false, Int.reduceBEq, Int.reduceLT, Int.reduceLE, cast1, S_eta, S_make, *])
theorem impl_noneAttr (n : Int) (hg : isGrp n = true) : Fun T 57 [i64 n] = some [i64 (none0 n).seq, rL (none0 n).deps] := by
 rw [Fun_k (t := tm57) rfl]; unfold tm57; unfold none0
 have hn := isGrp_rng hg
 simp (maxSteps := 2000000) (disch := first | assumption | omega) only [SA, SB, SC, SP, SQ, SZ, reduceIte, reduceCtorEq, Nat.reduceAdd, Nat.reduceEqDiff, beq_self_eq_true, decide_true, decide_false, Int.reduceBEq, Int.reduceLT, Int.reduceLE, cast1, S_eta, S_make, *] <;> repeat' (refine fork_eq (fun _ => ?_) (fun _ => ?_) <;> try simp (maxSteps := 2000000) (disch := first | assumption | omega) only [SA, SB, SC, SP, SQ, SZ, reduceIte, reduceCtorEq, Nat.reduceAdd, Nat.reduceEqDiff, beq_self_eq_true, decide_true, decide_false, Int.reduceBEq, Int.reduceLT, Int.reduceLE, cast1, S_eta, S_make, *])
theorem spec_l4Row (n bal vot sta k i f t a sq : Int) (xs : List Int) (hg : isGrp n = true) (hx : xs.length ≤ 1099511627776) :
  Fun T 19 [i64 n, i64 bal, i64 vot, i64 sta, i64 k, i64 i, i64 f, i64 t, i64 a, i64 sq, rL xs] = some [.bool (rowOk n ⟨bal, vot, sta, ⟨k, i, f, t, a⟩, ⟨sq, xs⟩⟩)] := by
 rw [Fun_k (t := tm19) rfl]; unfold tm19; unfold rowOk
 simp (maxSteps := 2000000) (disch := first | assumption | omega) only [SA, SB, SC, SP, SQ, SZ, reduceIte, reduceCtorEq, Nat.reduceAdd, Nat.reduceEqDiff, beq_self_eq_true, decide_true, decide_false, Int.reduceBEq, Int.reduceLT, Int.reduceLE, cast1, S_eta, spec_l1In, S_eqs, spec_l3None, spec_SameAttr, spec_GoodCmd, spec_l3Attr, *] <;> repeat' (refine fork_eq (fun _ => ?_) (fun _ => ?_) <;> try simp (maxSteps := 2000000) (disch := first | assumption | omega) only [SA, SB, SC, SP, SQ, SZ, reduceIte, reduceCtorEq, Nat.reduceAdd, Nat.reduceEqDiff, beq_self_eq_true, decide_true, decide_false, Int.reduceBEq, Int.reduceLT, Int.reduceLE, cast1, S_eta, spec_l1In, S_eqs, spec_l3None, spec_SameAttr, spec_GoodCmd, spec_l3Attr, *])
theorem impl_goodRow (n bal vot sta k i f t a sq : Int) (xs : List Int) (hg : isGrp n = true) (hx : xs.length ≤ 1099511627776) :
  Fun T 49 [i64 n, i64 bal, i64 vot, i64 sta, i64 k, i64 i, i64 f, i64 t, i64 a, i64 sq, rL xs] = some [.bool (rowOk n ⟨bal, vot, sta, ⟨k, i, f, t, a⟩, ⟨sq, xs⟩⟩)] := by
 rw [Fun_k (t := tm49) rfl]; unfold tm49; unfold rowOk
 have h1 := @cmdZ_ok ⟨k, i, f, t, a⟩
 have h2 := none0_ok hg
 have h3 : decide ((⟨sq, xs⟩ : TAttr) = none0 n) = true → attrOk n ⟨sq, xs⟩ = true := fun h => by rw [of_decide_eq_true h]; exact h2
 simp (maxSteps := 2000000) (disch := first | assumption | omega) only [SA, SB, SC, SP, SQ, SZ, reduceIte, reduceCtorEq, Nat.reduceAdd, Nat.reduceEqDiff, beq_self_eq_true, decide_true, decide_false, Int.reduceBEq, Int.reduceLT, Int.reduceLE, cast1, S_eta, impl_within, S_eqs, impl_noneAttr, impl_SameAttr, impl_GoodCmd, impl_GoodAttr, *] <;> repeat' (refine fork_eq (fun _ => ?_) (fun _ => ?_) <;> try simp (maxSteps := 2000000) (disch := first | assumption | omega) only [SA, SB, SC, SP, SQ, SZ, reduceIte, reduceCtorEq, Nat.reduceAdd, Nat.reduceEqDiff, beq_self_eq_true, decide_true, decide_false, Int.reduceBEq, Int.reduceLT, Int.reduceLE, cast1, S_eta, impl_within, S_eqs, impl_noneAttr, impl_SameAttr, impl_GoodCmd, impl_GoodAttr, *])
 all_goals (refine bool_fin ?_; simp only [Bool.and_eq_true, Bool.or_eq_true, Bool.not_eq_true', Bool.not_eq_false', Bool.and_eq_false_iff, Bool.or_eq_false_iff, Bool.false_eq_true, beq_iff_eq, beq_eq_false_iff_ne, decide_eq_true_eq, decide_eq_false_iff_not, ne_eq] at *; grind)
theorem slices_Clone_int (xs : List Int) (hx : xs.length ≤ 10000000000) : Fun T 70 [rL xs] = some [rL xs] := by
 rw [Fun_ext (e := ex70) rfl]
 cases xs with
 | nil => rfl
 | cons x xs =>
  show Fun (entTab [(70, .tm tm70)]) 70 [rL (x :: xs)] = _
  rw [Fun_k (t := tm70) rfl]
  unfold tm70
  have hx' : (x :: xs).length ≤ 100000000000 := by omega
  have h0 : (Prim.mk 1 0).run [] = some [.rows 1 []] := rfl
  have h1 : (x :: xs).isEmpty = false := rfl
  simp (disch := first | assumption | omega) only [SA, SB, SC, SP, SQ, SZ, reduceIte, reduceCtorEq, Nat.reduceAdd, Nat.reduceEqDiff, rL_ne, rL_emp, h0, h1, S_app]
theorem impl_Attr_copied (s : Int) (xs : List Int) (hx : xs.length ≤ 10000000000) : Fun T 69 [i64 s, rL xs] = some [i64 s, rL xs] := by
 rw [Fun_k (t := tm69) rfl]; unfold tm69
 simp (maxSteps := 2000000) (disch := first | assumption | omega) only [SA, SB, SC, SP, SQ, SZ, reduceIte, reduceCtorEq, Nat.reduceAdd, Nat.reduceEqDiff, beq_self_eq_true, decide_true, decide_false, Int.reduceBEq, Int.reduceLT, Int.reduceLE, cast1, S_eta, slices_Clone_int, *] <;> repeat' (refine fork_eq (fun _ => ?_) (fun _ => ?_) <;> try simp (maxSteps := 2000000) (disch := first | assumption | omega) only [SA, SB, SC, SP, SQ, SZ, reduceIte, reduceCtorEq, Nat.reduceAdd, Nat.reduceEqDiff, beq_self_eq_true, decide_true, decide_false, Int.reduceBEq, Int.reduceLT, Int.reduceLE, cast1, S_eta, slices_Clone_int, *])
theorem spec_GoodTable (n : Int) (rows : List (List TRow)) (hs : smTab rows) : Fun T 17 [i64 n, rL rows] = some [.bool (tabOk ⟨n, rows⟩)] := by
 rw [Fun_k (t := tm17) rfl]; unfold tm17; unfold tabOk
 obtain ⟨hs1, hs2⟩ := hs
 cases hg : isGrp n
 ·simp (maxSteps := 2000000) (disch := first | assumption | omega) only [SA, SB, SC, SP, SQ, SZ, reduceIte, reduceCtorEq, Nat.reduceAdd, Nat.reduceEqDiff, beq_self_eq_true, decide_true, decide_false, Int.reduceBEq, Int.reduceLT, Int.reduceLE, cast1, S_eta, spec_IsGroup, *] <;> repeat' (refine fork_eq (fun _ => ?_) (fun _ => ?_) <;> try simp (maxSteps := 2000000) (disch := first | assumption | omega) only [SA, SB, SC, SP, SQ, SZ, reduceIte, reduceCtorEq, Nat.reduceAdd, Nat.reduceEqDiff, beq_self_eq_true, decide_true, decide_false, Int.reduceBEq, Int.reduceLT, Int.reduceLE, cast1, S_eta, spec_IsGroup, *])
 cases hl : (rows.length : Int) == n
 ·simp (maxSteps := 2000000) (disch := first | assumption | omega) only [SA, SB, SC, SP, SQ, SZ, reduceIte, reduceCtorEq, Nat.reduceAdd, Nat.reduceEqDiff, beq_self_eq_true, decide_true, decide_false, Int.reduceBEq, Int.reduceLT, Int.reduceLE, cast1, S_eta, spec_IsGroup, *] <;> repeat' (refine fork_eq (fun _ => ?_) (fun _ => ?_) <;> try simp (maxSteps := 2000000) (disch := first | assumption | omega) only [SA, SB, SC, SP, SQ, SZ, reduceIte, reduceCtorEq, Nat.reduceAdd, Nat.reduceEqDiff, beq_self_eq_true, decide_true, decide_false, Int.reduceBEq, Int.reduceLT, Int.reduceLE, cast1, S_eta, spec_IsGroup, *])
 simp (maxSteps := 2000000) (disch := first | assumption | omega) only [SA, SB, SC, SP, SQ, SZ, reduceIte, reduceCtorEq, Nat.reduceAdd, Nat.reduceEqDiff, beq_self_eq_true, decide_true, decide_false, Int.reduceBEq, Int.reduceLT, Int.reduceLE, cast1, S_eta, spec_IsGroup, *]
 rw [allF 1 rows (fun l => l.all (fun r => rowOk n r) && decide ((l.length : Int) ≤ 6)) [.bool false]]
 ·simp (maxSteps := 2000000) (disch := first | assumption | omega) only [SA, SB, SC, SP, SQ, SZ, reduceIte, reduceCtorEq, Nat.reduceAdd, Nat.reduceEqDiff, beq_self_eq_true, decide_true, decide_false, Int.reduceBEq, Int.reduceLT, Int.reduceLE, cast1, S_eta, *] <;> repeat' (refine fork_eq (fun _ => ?_) (fun _ => ?_) <;> try simp (maxSteps := 2000000) (disch := first | assumption | omega) only [SA, SB, SC, SP, SQ, SZ, reduceIte, reduceCtorEq, Nat.reduceAdd, Nat.reduceEqDiff, beq_self_eq_true, decide_true, decide_false, Int.reduceBEq, Int.reduceLT, Int.reduceLE, cast1, S_eta, *])
 ·intro i hi hb hlt hm
  obtain ⟨hq1, hq2⟩ := hs2 _ hm
  simp (maxSteps := 2000000) (disch := first | assumption | omega) only [SA, SB, SC, SP, SQ, SZ, reduceIte, reduceCtorEq, Nat.reduceAdd, Nat.reduceEqDiff, beq_self_eq_true, decide_true, decide_false, Int.reduceBEq, Int.reduceLT, Int.reduceLE, cast1, S_eta, S_row, *]
  rw [allF 3 (atI rows i) (fun r => rowOk n r) [.bool false]]
  ·have e : decide (6 < ((atI rows (i : Int)).length : Int)) = !decide (((atI rows (i : Int)).length : Int) ≤ 6) := by
    by_cases h : ((atI rows (i : Int)).length : Int) ≤ 6
    ·simp [h]
    ·simp [h]; omega
   simp (maxSteps := 2000000) (disch := first | assumption | omega) only [SA, SB, SC, SP, SQ, SZ, reduceIte, reduceCtorEq, Nat.reduceAdd, Nat.reduceEqDiff, beq_self_eq_true, decide_true, decide_false, Int.reduceBEq, Int.reduceLT, Int.reduceLE, cast1, S_eta, e, *] <;> repeat' (refine fork_eq (fun _ => ?_) (fun _ => ?_) <;> try simp (maxSteps := 2000000) (disch := first | assumption | omega) only [SA, SB, SC, SP, SQ, SZ, reduceIte, reduceCtorEq, Nat.reduceAdd, Nat.reduceEqDiff, beq_self_eq_true, decide_true, decide_false, Int.reduceBEq, Int.reduceLT, Int.reduceLE, cast1, S_eta, e, *])
  ·intro j hj hb2 hlt2 hm2
   have hq3 := hq2 _ hm2
   have hq4 : (atI (atI rows (i : Int)) (j : Int)).attr.deps.length ≤ 1099511627776 := by omega
   simp (maxSteps := 2000000) (disch := first | assumption | omega) only [SA, SB, SC, SP, SQ, SZ, reduceIte, reduceCtorEq, Nat.reduceAdd, Nat.reduceEqDiff, beq_self_eq_true, decide_true, decide_false, Int.reduceBEq, Int.reduceLT, Int.reduceLE, cast1, S_eta, S_row, spec_l4Row, *] <;> repeat' (refine fork_eq (fun _ => ?_) (fun _ => ?_) <;> try simp (maxSteps := 2000000) (disch := first | assumption | omega) only [SA, SB, SC, SP, SQ, SZ, reduceIte, reduceCtorEq, Nat.reduceAdd, Nat.reduceEqDiff, beq_self_eq_true, decide_true, decide_false, Int.reduceBEq, Int.reduceLT, Int.reduceLE, cast1, S_eta, S_row, spec_l4Row, *])
  ·intro hl2
   simp (maxSteps := 2000000) (disch := first | assumption | omega) only [SA, SB, SC, SP, SQ, SZ, reduceIte, reduceCtorEq, Nat.reduceAdd, Nat.reduceEqDiff, beq_self_eq_true, decide_true, decide_false, Int.reduceBEq, Int.reduceLT, Int.reduceLE, cast1, S_eta, *] <;> repeat' (refine fork_eq (fun _ => ?_) (fun _ => ?_) <;> try simp (maxSteps := 2000000) (disch := first | assumption | omega) only [SA, SB, SC, SP, SQ, SZ, reduceIte, reduceCtorEq, Nat.reduceAdd, Nat.reduceEqDiff, beq_self_eq_true, decide_true, decide_false, Int.reduceBEq, Int.reduceLT, Int.reduceLE, cast1, S_eta, *])
 ·intro hl2
  simp (maxSteps := 2000000) (disch := first | assumption | omega) only [SA, SB, SC, SP, SQ, SZ, reduceIte, reduceCtorEq, Nat.reduceAdd, Nat.reduceEqDiff, beq_self_eq_true, decide_true, decide_false, Int.reduceBEq, Int.reduceLT, Int.reduceLE, cast1, S_eta, *] <;> repeat' (refine fork_eq (fun _ => ?_) (fun _ => ?_) <;> try simp (maxSteps := 2000000) (disch := first | assumption | omega) only [SA, SB, SC, SP, SQ, SZ, reduceIte, reduceCtorEq, Nat.reduceAdd, Nat.reduceEqDiff, beq_self_eq_true, decide_true, decide_false, Int.reduceBEq, Int.reduceLT, Int.reduceLE, cast1, S_eta, *])
theorem impl_GoodTable_1_1 (r_ballot r_vote r_state r_cmd_kind r_cmd_id r_cmd_src r_cmd_dst r_cmd_amt r_attr_seq : Int) (r_attr_deps : (List Int)) (n : Int) (rows : List (List TRow)) (hg : isGrp n = true) (hx : r_attr_deps.length ≤ 1099511627776) : Fun T 48 [i64 r_ballot, i64 r_vote, i64 r_state, i64 r_cmd_kind, i64 r_cmd_id, i64 r_cmd_src, i64 r_cmd_dst, i64 r_cmd_amt, i64 r_attr_seq, rL r_attr_deps, i64 n, rL rows] = some [.bool (!rowOk n ⟨r_ballot, r_vote, r_state, ⟨r_cmd_kind, r_cmd_id, r_cmd_src, r_cmd_dst, r_cmd_amt⟩, ⟨r_attr_seq, r_attr_deps⟩⟩)] := by
 rw [Fun_k (t := tm48) rfl]; unfold tm48
 simp (maxSteps := 2000000) (disch := first | assumption | omega) only [SA, SB, SC, SP, SQ, SZ, reduceIte, reduceCtorEq, Nat.reduceAdd, Nat.reduceEqDiff, beq_self_eq_true, decide_true, decide_false, Int.reduceBEq, Int.reduceLT, Int.reduceLE, cast1, S_eta, impl_goodRow, *] <;> repeat' (refine fork_eq (fun _ => ?_) (fun _ => ?_) <;> try simp (maxSteps := 2000000) (disch := first | assumption | omega) only [SA, SB, SC, SP, SQ, SZ, reduceIte, reduceCtorEq, Nat.reduceAdd, Nat.reduceEqDiff, beq_self_eq_true, decide_true, decide_false, Int.reduceBEq, Int.reduceLT, Int.reduceLE, cast1, S_eta, impl_goodRow, *])
theorem ix_GoodTable_1_1 (n : Int) (rows : List (List TRow)) (hg : isGrp n = true) (xs : List TRow) (hx : xs.length ≤ 1099511627776) (hq : ∀ x ∈ xs, x.attr.deps.length ≤ 1099511627776) : Fun T 47 [rL xs, i64 n, rL rows] = some [i64 (ixF (fun r => !rowOk n r) xs)] := by
 rw [Fun_k (t := tm47) rfl]; unfold tm47
 simp (maxSteps := 2000000) (disch := first | assumption | omega) only [SA, SB, SC, SP, SQ, SZ, reduceIte, reduceCtorEq, Nat.reduceAdd, Nat.reduceEqDiff, beq_self_eq_true, decide_true, decide_false, Int.reduceBEq, Int.reduceLT, Int.reduceLE, cast1, S_eta, S_row, *]
 rw [findX 1 xs (fun r => !rowOk n r) (fun i => [i64 i])]
 ·cases h : xs.any (fun r => !rowOk n r)
  ·have e : ixF (fun r => !rowOk n r) xs = -1 := by
    have h2 := ixF_any (fun r => !rowOk n r) xs
    rw [h] at h2
    unfold ixF at h2 ⊢
    split at h2 <;> simp_all
   rw [e]; simp (maxSteps := 2000000) (disch := first | assumption | omega) only [SA, SB, SC, SP, SQ, SZ, reduceIte, reduceCtorEq, Nat.reduceAdd, Nat.reduceEqDiff, beq_self_eq_true, decide_true, decide_false, Int.reduceBEq, Int.reduceLT, Int.reduceLE, cast1, S_eta]
  ·simp (maxSteps := 2000000) (disch := first | assumption | omega) only [SA, SB, SC, SP, SQ, SZ, reduceIte, reduceCtorEq, Nat.reduceAdd, Nat.reduceEqDiff, beq_self_eq_true, decide_true, decide_false, Int.reduceBEq, Int.reduceLT, Int.reduceLE, cast1, S_eta]
 ·intro i hi hb hl hp
  have hq' := hq _ (at_mem hi)
  try simp only at hq' hp
  simp (maxSteps := 2000000) (disch := first | assumption | omega) only [SA, SB, SC, SP, SQ, SZ, reduceIte, reduceCtorEq, Nat.reduceAdd, Nat.reduceEqDiff, beq_self_eq_true, decide_true, decide_false, Int.reduceBEq, Int.reduceLT, Int.reduceLE, cast1, S_eta, S_row, impl_GoodTable_1_1, *] <;> repeat' (refine fork_eq (fun _ => ?_) (fun _ => ?_) <;> try simp (maxSteps := 2000000) (disch := first | assumption | omega) only [SA, SB, SC, SP, SQ, SZ, reduceIte, reduceCtorEq, Nat.reduceAdd, Nat.reduceEqDiff, beq_self_eq_true, decide_true, decide_false, Int.reduceBEq, Int.reduceLT, Int.reduceLE, cast1, S_eta, S_row, impl_GoodTable_1_1, *])
 ·intro i hi hb hl hp
  have hq' := hq _ (at_mem hi)
  try simp only at hq' hp
  simp (maxSteps := 2000000) (disch := first | assumption | omega) only [SA, SB, SC, SP, SQ, SZ, reduceIte, reduceCtorEq, Nat.reduceAdd, Nat.reduceEqDiff, beq_self_eq_true, decide_true, decide_false, Int.reduceBEq, Int.reduceLT, Int.reduceLE, cast1, S_eta, S_row, impl_GoodTable_1_1, *] <;> repeat' (refine fork_eq (fun _ => ?_) (fun _ => ?_) <;> try simp (maxSteps := 2000000) (disch := first | assumption | omega) only [SA, SB, SC, SP, SQ, SZ, reduceIte, reduceCtorEq, Nat.reduceAdd, Nat.reduceEqDiff, beq_self_eq_true, decide_true, decide_false, Int.reduceBEq, Int.reduceLT, Int.reduceLE, cast1, S_eta, S_row, impl_GoodTable_1_1, *])
 ·intro hl
  simp (maxSteps := 2000000) (disch := first | assumption | omega) only [SA, SB, SC, SP, SQ, SZ, reduceIte, reduceCtorEq, Nat.reduceAdd, Nat.reduceEqDiff, beq_self_eq_true, decide_true, decide_false, Int.reduceBEq, Int.reduceLT, Int.reduceLE, cast1, S_eta, *] <;> repeat' (refine fork_eq (fun _ => ?_) (fun _ => ?_) <;> try simp (maxSteps := 2000000) (disch := first | assumption | omega) only [SA, SB, SC, SP, SQ, SZ, reduceIte, reduceCtorEq, Nat.reduceAdd, Nat.reduceEqDiff, beq_self_eq_true, decide_true, decide_false, Int.reduceBEq, Int.reduceLT, Int.reduceLE, cast1, S_eta, *])
theorem ct_GoodTable_1_1 (n : Int) (rows : List (List TRow)) (hg : isGrp n = true) (xs : List TRow) (hx : xs.length ≤ 1099511627776) (hq : ∀ x ∈ xs, x.attr.deps.length ≤ 1099511627776) : Fun T 46 [rL xs, i64 n, rL rows] = some [.bool (xs.any (fun r => !rowOk n r))] := by
 rw [Fun_k (t := tm46) rfl]; unfold tm46
 simp (maxSteps := 2000000) (disch := first | assumption | omega) only [SA, SB, SC, SP, SQ, SZ, reduceIte, reduceCtorEq, Nat.reduceAdd, Nat.reduceEqDiff, beq_self_eq_true, decide_true, decide_false, Int.reduceBEq, Int.reduceLT, Int.reduceLE, cast1, S_eta, ix_GoodTable_1_1, ixF_any, *] <;> repeat' (refine fork_eq (fun _ => ?_) (fun _ => ?_) <;> try simp (maxSteps := 2000000) (disch := first | assumption | omega) only [SA, SB, SC, SP, SQ, SZ, reduceIte, reduceCtorEq, Nat.reduceAdd, Nat.reduceEqDiff, beq_self_eq_true, decide_true, decide_false, Int.reduceBEq, Int.reduceLT, Int.reduceLE, cast1, S_eta, ix_GoodTable_1_1, ixF_any, *])
theorem impl_GoodTable_1 (l : List TRow) (n : Int) (rows : List (List TRow)) (hg : isGrp n = true) (hx : l.length ≤ 1099511627776) (hq : ∀ x ∈ l, x.attr.deps.length ≤ 1099511627776) : Fun T 45 [rL l, i64 n, rL rows] = some [.bool (decide (6 < (l.length : Int)) || l.any fun r => !rowOk n r)] := by
 rw [Fun_k (t := tm45) rfl]; unfold tm45
 simp (maxSteps := 2000000) (disch := first | assumption | omega) only [SA, SB, SC, SP, SQ, SZ, reduceIte, reduceCtorEq, Nat.reduceAdd, Nat.reduceEqDiff, beq_self_eq_true, decide_true, decide_false, Int.reduceBEq, Int.reduceLT, Int.reduceLE, cast1, S_eta, ct_GoodTable_1_1, *] <;> repeat' (refine fork_eq (fun _ => ?_) (fun _ => ?_) <;> try simp (maxSteps := 2000000) (disch := first | assumption | omega) only [SA, SB, SC, SP, SQ, SZ, reduceIte, reduceCtorEq, Nat.reduceAdd, Nat.reduceEqDiff, beq_self_eq_true, decide_true, decide_false, Int.reduceBEq, Int.reduceLT, Int.reduceLE, cast1, S_eta, ct_GoodTable_1_1, *])
theorem ix_GoodTable_1 (n : Int) (rows : List (List TRow)) (hg : isGrp n = true) (xs : List (List TRow)) (hx : xs.length ≤ 1099511627776) (hq : ∀ x ∈ xs, x.length ≤ 1099511627776 ∧ ∀ y ∈ x, y.attr.deps.length ≤ 1099511627776) : Fun T 44 [rL xs, i64 n, rL rows] = some [i64 (ixF (fun l => decide (6 < (l.length : Int)) || l.any fun r => !rowOk n r) xs)] := by
 rw [Fun_k (t := tm44) rfl]; unfold tm44
 simp (maxSteps := 2000000) (disch := first | assumption | omega) only [SA, SB, SC, SP, SQ, SZ, reduceIte, reduceCtorEq, Nat.reduceAdd, Nat.reduceEqDiff, beq_self_eq_true, decide_true, decide_false, Int.reduceBEq, Int.reduceLT, Int.reduceLE, cast1, S_eta, S_row, *]
 rw [findX 1 xs (fun l => decide (6 < (l.length : Int)) || l.any fun r => !rowOk n r) (fun i => [i64 i])]
 ·cases h : xs.any (fun l => decide (6 < (l.length : Int)) || l.any fun r => !rowOk n r)
  ·have e : ixF (fun l => decide (6 < (l.length : Int)) || l.any fun r => !rowOk n r) xs = -1 := by
    have h2 := ixF_any (fun l => decide (6 < (l.length : Int)) || l.any fun r => !rowOk n r) xs
    rw [h] at h2
    unfold ixF at h2 ⊢
    split at h2 <;> simp_all
   rw [e]; simp (maxSteps := 2000000) (disch := first | assumption | omega) only [SA, SB, SC, SP, SQ, SZ, reduceIte, reduceCtorEq, Nat.reduceAdd, Nat.reduceEqDiff, beq_self_eq_true, decide_true, decide_false, Int.reduceBEq, Int.reduceLT, Int.reduceLE, cast1, S_eta]
  ·simp (maxSteps := 2000000) (disch := first | assumption | omega) only [SA, SB, SC, SP, SQ, SZ, reduceIte, reduceCtorEq, Nat.reduceAdd, Nat.reduceEqDiff, beq_self_eq_true, decide_true, decide_false, Int.reduceBEq, Int.reduceLT, Int.reduceLE, cast1, S_eta]
 ·intro i hi hb hl hp
  have hq' := hq _ (at_mem hi)
  try simp only at hq' hp
  obtain ⟨hq1, hq2⟩ := hq'
  simp (maxSteps := 2000000) (disch := first | assumption | omega) only [SA, SB, SC, SP, SQ, SZ, reduceIte, reduceCtorEq, Nat.reduceAdd, Nat.reduceEqDiff, beq_self_eq_true, decide_true, decide_false, Int.reduceBEq, Int.reduceLT, Int.reduceLE, cast1, S_eta, S_row, impl_GoodTable_1, *] <;> repeat' (refine fork_eq (fun _ => ?_) (fun _ => ?_) <;> try simp (maxSteps := 2000000) (disch := first | assumption | omega) only [SA, SB, SC, SP, SQ, SZ, reduceIte, reduceCtorEq, Nat.reduceAdd, Nat.reduceEqDiff, beq_self_eq_true, decide_true, decide_false, Int.reduceBEq, Int.reduceLT, Int.reduceLE, cast1, S_eta, S_row, impl_GoodTable_1, *])
 ·intro i hi hb hl hp
  have hq' := hq _ (at_mem hi)
  try simp only at hq' hp
  obtain ⟨hq1, hq2⟩ := hq'
  simp (maxSteps := 2000000) (disch := first | assumption | omega) only [SA, SB, SC, SP, SQ, SZ, reduceIte, reduceCtorEq, Nat.reduceAdd, Nat.reduceEqDiff, beq_self_eq_true, decide_true, decide_false, Int.reduceBEq, Int.reduceLT, Int.reduceLE, cast1, S_eta, S_row, impl_GoodTable_1, *] <;> repeat' (refine fork_eq (fun _ => ?_) (fun _ => ?_) <;> try simp (maxSteps := 2000000) (disch := first | assumption | omega) only [SA, SB, SC, SP, SQ, SZ, reduceIte, reduceCtorEq, Nat.reduceAdd, Nat.reduceEqDiff, beq_self_eq_true, decide_true, decide_false, Int.reduceBEq, Int.reduceLT, Int.reduceLE, cast1, S_eta, S_row, impl_GoodTable_1, *])
 ·intro hl
  simp (maxSteps := 2000000) (disch := first | assumption | omega) only [SA, SB, SC, SP, SQ, SZ, reduceIte, reduceCtorEq, Nat.reduceAdd, Nat.reduceEqDiff, beq_self_eq_true, decide_true, decide_false, Int.reduceBEq, Int.reduceLT, Int.reduceLE, cast1, S_eta, *] <;> repeat' (refine fork_eq (fun _ => ?_) (fun _ => ?_) <;> try simp (maxSteps := 2000000) (disch := first | assumption | omega) only [SA, SB, SC, SP, SQ, SZ, reduceIte, reduceCtorEq, Nat.reduceAdd, Nat.reduceEqDiff, beq_self_eq_true, decide_true, decide_false, Int.reduceBEq, Int.reduceLT, Int.reduceLE, cast1, S_eta, *])
theorem ct_GoodTable_1 (n : Int) (rows : List (List TRow)) (hg : isGrp n = true) (xs : List (List TRow)) (hx : xs.length ≤ 1099511627776) (hq : ∀ x ∈ xs, x.length ≤ 1099511627776 ∧ ∀ y ∈ x, y.attr.deps.length ≤ 1099511627776) : Fun T 43 [rL xs, i64 n, rL rows] = some [.bool (xs.any (fun l => decide (6 < (l.length : Int)) || l.any fun r => !rowOk n r))] := by
 rw [Fun_k (t := tm43) rfl]; unfold tm43
 simp (maxSteps := 2000000) (disch := first | assumption | omega) only [SA, SB, SC, SP, SQ, SZ, reduceIte, reduceCtorEq, Nat.reduceAdd, Nat.reduceEqDiff, beq_self_eq_true, decide_true, decide_false, Int.reduceBEq, Int.reduceLT, Int.reduceLE, cast1, S_eta, ix_GoodTable_1, ixF_any, *] <;> repeat' (refine fork_eq (fun _ => ?_) (fun _ => ?_) <;> try simp (maxSteps := 2000000) (disch := first | assumption | omega) only [SA, SB, SC, SP, SQ, SZ, reduceIte, reduceCtorEq, Nat.reduceAdd, Nat.reduceEqDiff, beq_self_eq_true, decide_true, decide_false, Int.reduceBEq, Int.reduceLT, Int.reduceLE, cast1, S_eta, ix_GoodTable_1, ixF_any, *])
theorem impl_GoodTable (n : Int) (rows : List (List TRow)) (hs : smTab rows) : Fun T 41 [i64 n, rL rows] = some [.bool (tabOk ⟨n, rows⟩)] := by
 rw [Fun_k (t := tm41) rfl]; unfold tm41; unfold tabOk
 obtain ⟨hs1, hs2⟩ := hs
 have hs3 : ∀ x ∈ rows, x.length ≤ 1099511627776 ∧ ∀ y ∈ x, y.attr.deps.length ≤ 1099511627776 := fun x hx => ⟨by have := (hs2 x hx).1; omega, fun y hy => by have := (hs2 x hx).2 y hy; omega⟩
 have e : (rows.any fun l => decide (6 < (l.length : Int)) || l.any fun r => !rowOk n r) = !rows.all fun l => l.all (fun r => rowOk n r) && decide ((l.length : Int) ≤ 6) := by
  rw [List.not_all_eq_any_not]
  congr 1
  funext l
  rw [← List.not_all_eq_any_not, Bool.not_and, Bool.or_comm]
  congr 1
  by_cases h : (l.length : Int) ≤ 6
  ·simp [h]
  ·simp [h]; omega
 simp (maxSteps := 2000000) (disch := first | assumption | omega) only [SA, SB, SC, SP, SQ, SZ, reduceIte, reduceCtorEq, Nat.reduceAdd, Nat.reduceEqDiff, beq_self_eq_true, decide_true, decide_false, Int.reduceBEq, Int.reduceLT, Int.reduceLE, cast1, S_eta, impl_IsGroup, ct_GoodTable_1, e, Bool.not_not, *] <;> repeat' (refine fork_eq (fun _ => ?_) (fun _ => ?_) <;> try simp (maxSteps := 2000000) (disch := first | assumption | omega) only [SA, SB, SC, SP, SQ, SZ, reduceIte, reduceCtorEq, Nat.reduceAdd, Nat.reduceEqDiff, beq_self_eq_true, decide_true, decide_false, Int.reduceBEq, Int.reduceLT, Int.reduceLE, cast1, S_eta, impl_IsGroup, ct_GoodTable_1, e, Bool.not_not, *])
theorem spec_l1Own (xs : List Int) (hx : xs.length ≤ 10000000000) : Fun T 35 [rL xs] = some [rL xs] := by
 rw [Fun_k (t := tm35) rfl]; unfold tm35
 have h0 : (Prim.mk 1 0).run [] = some [.rows 1 []] := rfl
 simp (maxSteps := 2000000) (disch := first | assumption | omega) only [SA, SB, SC, SP, SQ, SZ, reduceIte, reduceCtorEq, Nat.reduceAdd, Nat.reduceEqDiff, beq_self_eq_true, decide_true, decide_false, Int.reduceBEq, Int.reduceLT, Int.reduceLE, cast1, S_eta, h0, S_app, *] <;> repeat' (refine fork_eq (fun _ => ?_) (fun _ => ?_) <;> try simp (maxSteps := 2000000) (disch := first | assumption | omega) only [SA, SB, SC, SP, SQ, SZ, reduceIte, reduceCtorEq, Nat.reduceAdd, Nat.reduceEqDiff, beq_self_eq_true, decide_true, decide_false, Int.reduceBEq, Int.reduceLT, Int.reduceLE, cast1, S_eta, h0, S_app, *])
theorem spec_l4OwnAttr (s : Int) (xs : List Int) (hx : xs.length ≤ 10000000000) : Fun T 34 [i64 s, rL xs] = some [i64 s, rL xs] := by
 rw [Fun_k (t := tm34) rfl]; unfold tm34
 simp (maxSteps := 2000000) (disch := first | assumption | omega) only [SA, SB, SC, SP, SQ, SZ, reduceIte, reduceCtorEq, Nat.reduceAdd, Nat.reduceEqDiff, beq_self_eq_true, decide_true, decide_false, Int.reduceBEq, Int.reduceLT, Int.reduceLE, cast1, S_eta, spec_l1Own, *] <;> repeat' (refine fork_eq (fun _ => ?_) (fun _ => ?_) <;> try simp (maxSteps := 2000000) (disch := first | assumption | omega) only [SA, SB, SC, SP, SQ, SZ, reduceIte, reduceCtorEq, Nat.reduceAdd, Nat.reduceEqDiff, beq_self_eq_true, decide_true, decide_false, Int.reduceBEq, Int.reduceLT, Int.reduceLE, cast1, S_eta, spec_l1Own, *])
theorem spec_l4OwnRow (r_ballot r_vote r_state r_cmd_kind r_cmd_id r_cmd_src r_cmd_dst r_cmd_amt r_attr_seq : Int) (r_attr_deps : (List Int)) (hx : r_attr_deps.length ≤ 10000000000) : Fun T 33 [i64 r_ballot, i64 r_vote, i64 r_state, i64 r_cmd_kind, i64 r_cmd_id, i64 r_cmd_src, i64 r_cmd_dst, i64 r_cmd_amt, i64 r_attr_seq, rL r_attr_deps] = some [i64 r_ballot, i64 r_vote, i64 r_state, i64 r_cmd_kind, i64 r_cmd_id, i64 r_cmd_src, i64 r_cmd_dst, i64 r_cmd_amt, i64 r_attr_seq, rL r_attr_deps] := by
 rw [Fun_k (t := tm33) rfl]; unfold tm33
 simp (maxSteps := 2000000) (disch := first | assumption | omega) only [SA, SB, SC, SP, SQ, SZ, reduceIte, reduceCtorEq, Nat.reduceAdd, Nat.reduceEqDiff, beq_self_eq_true, decide_true, decide_false, Int.reduceBEq, Int.reduceLT, Int.reduceLE, cast1, S_eta, spec_l4OwnAttr, *] <;> repeat' (refine fork_eq (fun _ => ?_) (fun _ => ?_) <;> try simp (maxSteps := 2000000) (disch := first | assumption | omega) only [SA, SB, SC, SP, SQ, SZ, reduceIte, reduceCtorEq, Nat.reduceAdd, Nat.reduceEqDiff, beq_self_eq_true, decide_true, decide_false, Int.reduceBEq, Int.reduceLT, Int.reduceLE, cast1, S_eta, spec_l4OwnAttr, *])
theorem impl_Row_copied (r_ballot r_vote r_state r_cmd_kind r_cmd_id r_cmd_src r_cmd_dst r_cmd_amt r_attr_seq : Int) (r_attr_deps : (List Int)) (hx : r_attr_deps.length ≤ 10000000000) : Fun T 68 [i64 r_ballot, i64 r_vote, i64 r_state, i64 r_cmd_kind, i64 r_cmd_id, i64 r_cmd_src, i64 r_cmd_dst, i64 r_cmd_amt, i64 r_attr_seq, rL r_attr_deps] = some [i64 r_ballot, i64 r_vote, i64 r_state, i64 r_cmd_kind, i64 r_cmd_id, i64 r_cmd_src, i64 r_cmd_dst, i64 r_cmd_amt, i64 r_attr_seq, rL r_attr_deps] := by
 rw [Fun_k (t := tm68) rfl]; unfold tm68
 simp (maxSteps := 2000000) (disch := first | assumption | omega) only [SA, SB, SC, SP, SQ, SZ, reduceIte, reduceCtorEq, Nat.reduceAdd, Nat.reduceEqDiff, beq_self_eq_true, decide_true, decide_false, Int.reduceBEq, Int.reduceLT, Int.reduceLE, cast1, S_eta, impl_Attr_copied, *] <;> repeat' (refine fork_eq (fun _ => ?_) (fun _ => ?_) <;> try simp (maxSteps := 2000000) (disch := first | assumption | omega) only [SA, SB, SC, SP, SQ, SZ, reduceIte, reduceCtorEq, Nat.reduceAdd, Nat.reduceEqDiff, beq_self_eq_true, decide_true, decide_false, Int.reduceBEq, Int.reduceLT, Int.reduceLE, cast1, S_eta, impl_Attr_copied, *])
theorem spec_l4At (n : Int) (rows : List (List TRow)) (rep no : Int) (hg : isGrp n = true) (hs : smTab rows) (hb : InB rows rep) (h1 : 1 ≤ no) (h2 : no ≤ 1000) : Fun T 32 [i64 n, rL rows, i64 rep, i64 no] = some [i64 (trow ⟨n, rows⟩ rep no).ballot, i64 (trow ⟨n, rows⟩ rep no).vote, i64 (trow ⟨n, rows⟩ rep no).state, i64 (trow ⟨n, rows⟩ rep no).cmd.kind, i64 (trow ⟨n, rows⟩ rep no).cmd.id, i64 (trow ⟨n, rows⟩ rep no).cmd.src, i64 (trow ⟨n, rows⟩ rep no).cmd.dst, i64 (trow ⟨n, rows⟩ rep no).cmd.amt, i64 (trow ⟨n, rows⟩ rep no).attr.seq, rL (trow ⟨n, rows⟩ rep no).attr.deps] := by
 rw [Fun_k (t := tm32) rfl]; unfold tm32; unfold trow row0
 have hq := hs.2 _ (at_memI hb)
 by_cases h : no ≤ (atI rows rep).length
 ·have h3 : decide (((atI rows rep).length : Int) < no) = false := by simp; omega
  have hb2 : InB (atI rows rep) (no - 1) := by unfold InB; omega
  have hq2 := hq.2 _ (at_memI hb2)
  simp (maxSteps := 2000000) (disch := first | assumption | omega) only [SA, SB, SC, SP, SQ, SZ, reduceIte, reduceCtorEq, Nat.reduceAdd, Nat.reduceEqDiff, beq_self_eq_true, decide_true, decide_false, Int.reduceBEq, Int.reduceLT, Int.reduceLE, cast1, S_eta, S_row, spec_l4OwnRow, *] <;> repeat' (refine fork_eq (fun _ => ?_) (fun _ => ?_) <;> try simp (maxSteps := 2000000) (disch := first | assumption | omega) only [SA, SB, SC, SP, SQ, SZ, reduceIte, reduceCtorEq, Nat.reduceAdd, Nat.reduceEqDiff, beq_self_eq_true, decide_true, decide_false, Int.reduceBEq, Int.reduceLT, Int.reduceLE, cast1, S_eta, S_row, spec_l4OwnRow, *])
 ·have h3 : decide (((atI rows rep).length : Int) < no) = true := by simp; omega
  simp (maxSteps := 2000000) (disch := first | assumption | omega) only [SA, SB, SC, SP, SQ, SZ, reduceIte, reduceCtorEq, Nat.reduceAdd, Nat.reduceEqDiff, beq_self_eq_true, decide_true, decide_false, Int.reduceBEq, Int.reduceLT, Int.reduceLE, cast1, S_eta, S_row, spec_l3None, *] <;> repeat' (refine fork_eq (fun _ => ?_) (fun _ => ?_) <;> try simp (maxSteps := 2000000) (disch := first | assumption | omega) only [SA, SB, SC, SP, SQ, SZ, reduceIte, reduceCtorEq, Nat.reduceAdd, Nat.reduceEqDiff, beq_self_eq_true, decide_true, decide_false, Int.reduceBEq, Int.reduceLT, Int.reduceLE, cast1, S_eta, S_row, spec_l3None, *])
theorem impl_Table_row (n : Int) (rows : List (List TRow)) (rep no : Int) (hg : isGrp n = true) (hs : smTab rows) (hb : InB rows rep) (h1 : 1 ≤ no) (h2 : no ≤ 1000) : Fun T 67 [i64 n, rL rows, i64 rep, i64 no] = some [i64 (trow ⟨n, rows⟩ rep no).ballot, i64 (trow ⟨n, rows⟩ rep no).vote, i64 (trow ⟨n, rows⟩ rep no).state, i64 (trow ⟨n, rows⟩ rep no).cmd.kind, i64 (trow ⟨n, rows⟩ rep no).cmd.id, i64 (trow ⟨n, rows⟩ rep no).cmd.src, i64 (trow ⟨n, rows⟩ rep no).cmd.dst, i64 (trow ⟨n, rows⟩ rep no).cmd.amt, i64 (trow ⟨n, rows⟩ rep no).attr.seq, rL (trow ⟨n, rows⟩ rep no).attr.deps] := by
 rw [Fun_k (t := tm67) rfl]; unfold tm67; unfold trow row0
 have hq := hs.2 _ (at_memI hb)
 by_cases h : no ≤ (atI rows rep).length
 ·have h3 : decide (no ≤ ((atI rows rep).length : Int)) = true := by simp; omega
  have hb2 : InB (atI rows rep) (no - 1) := by unfold InB; omega
  have hq2 := hq.2 _ (at_memI hb2)
  simp (maxSteps := 2000000) (disch := first | assumption | omega) only [SA, SB, SC, SP, SQ, SZ, reduceIte, reduceCtorEq, Nat.reduceAdd, Nat.reduceEqDiff, beq_self_eq_true, decide_true, decide_false, Int.reduceBEq, Int.reduceLT, Int.reduceLE, cast1, S_eta, S_row, impl_Row_copied, *] <;> repeat' (refine fork_eq (fun _ => ?_) (fun _ => ?_) <;> try simp (maxSteps := 2000000) (disch := first | assumption | omega) only [SA, SB, SC, SP, SQ, SZ, reduceIte, reduceCtorEq, Nat.reduceAdd, Nat.reduceEqDiff, beq_self_eq_true, decide_true, decide_false, Int.reduceBEq, Int.reduceLT, Int.reduceLE, cast1, S_eta, S_row, impl_Row_copied, *])
 ·have h3 : decide (no ≤ ((atI rows rep).length : Int)) = false := by simp; omega
  simp (maxSteps := 2000000) (disch := first | assumption | omega) only [SA, SB, SC, SP, SQ, SZ, reduceIte, reduceCtorEq, Nat.reduceAdd, Nat.reduceEqDiff, beq_self_eq_true, decide_true, decide_false, Int.reduceBEq, Int.reduceLT, Int.reduceLE, cast1, S_eta, S_row, impl_noneAttr, *] <;> repeat' (refine fork_eq (fun _ => ?_) (fun _ => ?_) <;> try simp (maxSteps := 2000000) (disch := first | assumption | omega) only [SA, SB, SC, SP, SQ, SZ, reduceIte, reduceCtorEq, Nat.reduceAdd, Nat.reduceEqDiff, beq_self_eq_true, decide_true, decide_false, Int.reduceBEq, Int.reduceLT, Int.reduceLE, cast1, S_eta, S_row, impl_noneAttr, *])
theorem spec_l1Has (xs : List Int) (n : Int) (hx : xs.length ≤ 1099511627776) : Fun T 39 [rL xs, i64 n] = some [.bool (hasM xs n)] := by
 rw [Fun_k (t := tm39) rfl]; unfold tm39; unfold hasM
 simp (maxSteps := 2000000) (disch := first | assumption | omega) only [SA, SB, SC, SP, SQ, SZ, reduceIte, reduceCtorEq, Nat.reduceAdd, Nat.reduceEqDiff, beq_self_eq_true, decide_true, decide_false, Int.reduceBEq, Int.reduceLT, Int.reduceLE, cast1, S_eta]
 rw [findX 1 xs (fun x => x == n) (fun _ => [.bool true])]
 ·simp (maxSteps := 2000000) (disch := first | assumption | omega) only [SA, SB, SC, SP, SQ, SZ, reduceIte, reduceCtorEq, Nat.reduceAdd, Nat.reduceEqDiff, beq_self_eq_true, decide_true, decide_false, Int.reduceBEq, Int.reduceLT, Int.reduceLE, cast1, S_eta, *] <;> repeat' (refine fork_eq (fun _ => ?_) (fun _ => ?_) <;> try simp (maxSteps := 2000000) (disch := first | assumption | omega) only [SA, SB, SC, SP, SQ, SZ, reduceIte, reduceCtorEq, Nat.reduceAdd, Nat.reduceEqDiff, beq_self_eq_true, decide_true, decide_false, Int.reduceBEq, Int.reduceLT, Int.reduceLE, cast1, S_eta, *])
 ·intro i hi hb hl hp
  simp (maxSteps := 2000000) (disch := first | assumption | omega) only [SA, SB, SC, SP, SQ, SZ, reduceIte, reduceCtorEq, Nat.reduceAdd, Nat.reduceEqDiff, beq_self_eq_true, decide_true, decide_false, Int.reduceBEq, Int.reduceLT, Int.reduceLE, cast1, S_eta, S_row, *] <;> repeat' (refine fork_eq (fun _ => ?_) (fun _ => ?_) <;> try simp (maxSteps := 2000000) (disch := first | assumption | omega) only [SA, SB, SC, SP, SQ, SZ, reduceIte, reduceCtorEq, Nat.reduceAdd, Nat.reduceEqDiff, beq_self_eq_true, decide_true, decide_false, Int.reduceBEq, Int.reduceLT, Int.reduceLE, cast1, S_eta, S_row, *])
 ·intro i hi hb hl hp
  simp (maxSteps := 2000000) (disch := first | assumption | omega) only [SA, SB, SC, SP, SQ, SZ, reduceIte, reduceCtorEq, Nat.reduceAdd, Nat.reduceEqDiff, beq_self_eq_true, decide_true, decide_false, Int.reduceBEq, Int.reduceLT, Int.reduceLE, cast1, S_eta, S_row, *] <;> repeat' (refine fork_eq (fun _ => ?_) (fun _ => ?_) <;> try simp (maxSteps := 2000000) (disch := first | assumption | omega) only [SA, SB, SC, SP, SQ, SZ, reduceIte, reduceCtorEq, Nat.reduceAdd, Nat.reduceEqDiff, beq_self_eq_true, decide_true, decide_false, Int.reduceBEq, Int.reduceLT, Int.reduceLE, cast1, S_eta, S_row, *])
 ·intro hl
  simp (maxSteps := 2000000) (disch := first | assumption | omega) only [SA, SB, SC, SP, SQ, SZ, reduceIte, reduceCtorEq, Nat.reduceAdd, Nat.reduceEqDiff, beq_self_eq_true, decide_true, decide_false, Int.reduceBEq, Int.reduceLT, Int.reduceLE, cast1, S_eta, hl]
theorem slices_Index_int (xs : List Int) (n : Int) (hx : xs.length ≤ 1099511627776) : Fun T 77 [rL xs, i64 n] = some [i64 (ixF (fun x => n == x) xs)] := by
 rw [Fun_k (t := tm77) rfl]; unfold tm77
 simp (maxSteps := 2000000) (disch := first | assumption | omega) only [SA, SB, SC, SP, SQ, SZ, reduceIte, reduceCtorEq, Nat.reduceAdd, Nat.reduceEqDiff, beq_self_eq_true, decide_true, decide_false, Int.reduceBEq, Int.reduceLT, Int.reduceLE, cast1, S_eta]
 rw [findX 1 xs (fun x => n == x) (fun i => [i64 i])]
 ·cases h : xs.any (fun x => n == x)
  ·have e : ixF (fun x => n == x) xs = -1 := by
    have h2 := ixF_any (fun x => n == x) xs
    rw [h] at h2
    unfold ixF at h2 ⊢
    split at h2 <;> simp_all
   rw [e]; simp (maxSteps := 2000000) (disch := first | assumption | omega) only [SA, SB, SC, SP, SQ, SZ, reduceIte, reduceCtorEq, Nat.reduceAdd, Nat.reduceEqDiff, beq_self_eq_true, decide_true, decide_false, Int.reduceBEq, Int.reduceLT, Int.reduceLE, cast1, S_eta]
  ·simp (maxSteps := 2000000) (disch := first | assumption | omega) only [SA, SB, SC, SP, SQ, SZ, reduceIte, reduceCtorEq, Nat.reduceAdd, Nat.reduceEqDiff, beq_self_eq_true, decide_true, decide_false, Int.reduceBEq, Int.reduceLT, Int.reduceLE, cast1, S_eta]
 ·intro i hi hb hl hp
  simp (maxSteps := 2000000) (disch := first | assumption | omega) only [SA, SB, SC, SP, SQ, SZ, reduceIte, reduceCtorEq, Nat.reduceAdd, Nat.reduceEqDiff, beq_self_eq_true, decide_true, decide_false, Int.reduceBEq, Int.reduceLT, Int.reduceLE, cast1, S_eta, S_row, *] <;> repeat' (refine fork_eq (fun _ => ?_) (fun _ => ?_) <;> try simp (maxSteps := 2000000) (disch := first | assumption | omega) only [SA, SB, SC, SP, SQ, SZ, reduceIte, reduceCtorEq, Nat.reduceAdd, Nat.reduceEqDiff, beq_self_eq_true, decide_true, decide_false, Int.reduceBEq, Int.reduceLT, Int.reduceLE, cast1, S_eta, S_row, *])
 ·intro i hi hb hl hp
  simp (maxSteps := 2000000) (disch := first | assumption | omega) only [SA, SB, SC, SP, SQ, SZ, reduceIte, reduceCtorEq, Nat.reduceAdd, Nat.reduceEqDiff, beq_self_eq_true, decide_true, decide_false, Int.reduceBEq, Int.reduceLT, Int.reduceLE, cast1, S_eta, S_row, *] <;> repeat' (refine fork_eq (fun _ => ?_) (fun _ => ?_) <;> try simp (maxSteps := 2000000) (disch := first | assumption | omega) only [SA, SB, SC, SP, SQ, SZ, reduceIte, reduceCtorEq, Nat.reduceAdd, Nat.reduceEqDiff, beq_self_eq_true, decide_true, decide_false, Int.reduceBEq, Int.reduceLT, Int.reduceLE, cast1, S_eta, S_row, *])
 ·intro hl
  simp (maxSteps := 2000000) (disch := first | assumption | omega) only [SA, SB, SC, SP, SQ, SZ, reduceIte, reduceCtorEq, Nat.reduceAdd, Nat.reduceEqDiff, beq_self_eq_true, decide_true, decide_false, Int.reduceBEq, Int.reduceLT, Int.reduceLE, cast1, S_eta, hl]
theorem slices_Contains_int (xs : List Int) (n : Int) (hx : xs.length ≤ 1099511627776) : Fun T 76 [rL xs, i64 n] = some [.bool (hasM xs n)] := by
 rw [Fun_k (t := tm76) rfl]; unfold tm76
 have e : hasM xs n = xs.any fun x => n == x := by
  unfold hasM
  congr 1
  funext x
  rw [Bool.eq_iff_iff, beq_iff_eq, beq_iff_eq]
  exact eq_comm
 simp (maxSteps := 2000000) (disch := first | assumption | omega) only [SA, SB, SC, SP, SQ, SZ, reduceIte, reduceCtorEq, Nat.reduceAdd, Nat.reduceEqDiff, beq_self_eq_true, decide_true, decide_false, Int.reduceBEq, Int.reduceLT, Int.reduceLE, cast1, S_eta, slices_Index_int, ixF_any, e]
theorem spec_l1Put (xs : List Int) (n : Int) (hx : xs.length ≤ 10000000000) : Fun T 38 [rL xs, i64 n] = some [rL (putM xs n)] := by
 rw [Fun_k (t := tm38) rfl]; unfold tm38; unfold putM
 have hk := putK_le xs n
 have h0 : (Prim.mk 1 0).run [] = some [.rows 1 []] := rfl
 simp (maxSteps := 2000000) (disch := first | assumption | omega) only [SA, SB, SC, SP, SQ, SZ, reduceIte, reduceCtorEq, Nat.reduceAdd, Nat.reduceEqDiff, beq_self_eq_true, decide_true, decide_false, Int.reduceBEq, Int.reduceLT, Int.reduceLE, cast1, S_eta]
 rw [whileE (T := T) (.yield 1, [i64 (putK xs n : Nat)]) (fun k : Nat => putK xs n - k) (fun k => k ≤ putK xs n) (fun k => [i64 k]) 0 rfl (by omega) (by simp)]
 ·have l1 : (xs.take (putK xs n)).length ≤ 10000000000 := by rw [List.length_take]; omega
  have l2 : (xs.take (putK xs n)).length + ([n] : List Int).length ≤ 100000000000 := by simp only [List.length_cons, List.length_nil]; omega
  have l3 : (xs.take (putK xs n) ++ [n]).length + (xs.drop (putK xs n)).length ≤ 100000000000 := by simp only [List.length_append, List.length_cons, List.length_nil, List.length_drop]; omega
  by_cases h : putK xs n < xs.length
  ·have hb : InB xs (putK xs n : Nat) := InB_nat.2 h
   have h2 : decide ((putK xs n : Int) < xs.length) = true := by simp; omega
   cases h3 : atI xs (putK xs n : Nat) == n
   ·simp (maxSteps := 2000000) (disch := first | assumption | omega) only [SA, SB, SC, SP, SQ, SZ, reduceIte, reduceCtorEq, Nat.reduceAdd, Nat.reduceEqDiff, beq_self_eq_true, decide_true, decide_false, Int.reduceBEq, Int.reduceLT, Int.reduceLE, cast1, S_eta, S_row, S_mk, S_app, S_sub, h0, h2, h3, hb, Int.toNat_natCast, Int.toNat_zero, List.drop_zero, List.take_length]
   ·simp (maxSteps := 2000000) (disch := first | assumption | omega) only [SA, SB, SC, SP, SQ, SZ, reduceIte, reduceCtorEq, Nat.reduceAdd, Nat.reduceEqDiff, beq_self_eq_true, decide_true, decide_false, Int.reduceBEq, Int.reduceLT, Int.reduceLE, cast1, S_eta, S_row, S_mk, S_app, S_sub, h0, h2, h3, hb]
  ·have h2 : decide ((putK xs n : Int) < xs.length) = false := by simp; omega
   simp (maxSteps := 2000000) (disch := first | assumption | omega) only [SA, SB, SC, SP, SQ, SZ, reduceIte, reduceCtorEq, Nat.reduceAdd, Nat.reduceEqDiff, beq_self_eq_true, decide_true, decide_false, Int.reduceBEq, Int.reduceLT, Int.reduceLE, cast1, S_eta, S_row, S_mk, S_app, S_sub, h0, h2, Int.toNat_natCast, Int.toNat_zero, List.drop_zero, List.take_length]
 ·intro k hk2
  by_cases h : k < putK xs n
  ·have hb : InB xs (k : Int) := InB_nat.2 (by omega)
   have h2 : decide ((k : Int) < xs.length) = true := by simp; omega
   have h3 : decide (atI xs (k : Int) < n) = true := by simpa using putK_lt h
   refine .inl ⟨k + 1, ?_, by omega, by omega⟩
   simp (maxSteps := 2000000) (disch := first | assumption | omega) only [SA, SB, SC, SP, SQ, SZ, reduceIte, reduceCtorEq, Nat.reduceAdd, Nat.reduceEqDiff, beq_self_eq_true, decide_true, decide_false, Int.reduceBEq, Int.reduceLT, Int.reduceLE, cast1, S_eta, S_row, h2, h3, hb]
  ·obtain rfl : k = putK xs n := by omega
   refine .inr ?_
   by_cases h4 : putK xs n < xs.length
   ·have hb : InB xs (putK xs n : Nat) := InB_nat.2 h4
    have h2 : decide ((putK xs n : Int) < xs.length) = true := by simp; omega
    have h3 : decide (atI xs (putK xs n : Nat) < n) = false := by simpa using putK_ge h4
    simp (maxSteps := 2000000) (disch := first | assumption | omega) only [SA, SB, SC, SP, SQ, SZ, reduceIte, reduceCtorEq, Nat.reduceAdd, Nat.reduceEqDiff, beq_self_eq_true, decide_true, decide_false, Int.reduceBEq, Int.reduceLT, Int.reduceLE, cast1, S_eta, S_row, h2, h3, hb]
   ·have h2 : decide ((putK xs n : Int) < xs.length) = false := by simp; omega
    simp (maxSteps := 2000000) (disch := first | assumption | omega) only [SA, SB, SC, SP, SQ, SZ, reduceIte, reduceCtorEq, Nat.reduceAdd, Nat.reduceEqDiff, beq_self_eq_true, decide_true, decide_false, Int.reduceBEq, Int.reduceLT, Int.reduceLE, cast1, S_eta, S_row, h2]
theorem spec_l2Touches (k i f t a : Int) (hc : cmdOk ⟨k, i, f, t, a⟩ = true) : Fun T 37 [i64 k, i64 i, i64 f, i64 t, i64 a] = some [rL (touchM ⟨k, i, f, t, a⟩)] := by
 rw [Fun_k (t := tm37) rfl]; unfold tm37; unfold touchM
 obtain ⟨hk, hm, hr⟩ := cmdOk_acc hc
 simp only at hk hm hr
 rcases hk with rfl | rfl | rfl
 ·simp (maxSteps := 2000000) (disch := first | assumption | omega) only [SA, SB, SC, SP, SQ, SZ, reduceIte, reduceCtorEq, Nat.reduceAdd, Nat.reduceEqDiff, beq_self_eq_true, decide_true, decide_false, Int.reduceBEq, Int.reduceLT, Int.reduceLE, cast1, S_eta, S_nil]
 ·have hne := (hm rfl).2.2.1
  have l1 : ([f] : List Int).length ≤ 10000000000 := by simp
  simp (maxSteps := 2000000) (disch := first | assumption | omega) only [SA, SB, SC, SP, SQ, SZ, reduceIte, reduceCtorEq, Nat.reduceAdd, Nat.reduceEqDiff, beq_self_eq_true, decide_true, decide_false, Int.reduceBEq, Int.reduceLT, Int.reduceLE, cast1, S_eta, S_mk, spec_l1Put, put2 hne]
 ·simp (maxSteps := 2000000) (disch := first | assumption | omega) only [SA, SB, SC, SP, SQ, SZ, reduceIte, reduceCtorEq, Nat.reduceAdd, Nat.reduceEqDiff, beq_self_eq_true, decide_true, decide_false, Int.reduceBEq, Int.reduceLT, Int.reduceLE, cast1, S_eta, S_mk]
theorem impl_touches (k i f t a : Int) : Fun T 72 [i64 k, i64 i, i64 f, i64 t, i64 a] = some [rL (touchM ⟨k, i, f, t, a⟩)] := by
 rw [Fun_k (t := tm72) rfl]; unfold tm72; unfold touchM
 have h0 : (Prim.mk 1 0).run [] = some [.rows 1 []] := rfl
 simp (maxSteps := 2000000) (disch := first | assumption | omega) only [SA, SB, SC, SP, SQ, SZ, reduceIte, reduceCtorEq, Nat.reduceAdd, Nat.reduceEqDiff, beq_self_eq_true, decide_true, decide_false, Int.reduceBEq, Int.reduceLT, Int.reduceLE, cast1, S_eta, S_mk, h0, S_nil, *] <;> repeat' (refine fork_eq (fun _ => ?_) (fun _ => ?_) <;> try simp (maxSteps := 2000000) (disch := first | assumption | omega) only [SA, SB, SC, SP, SQ, SZ, reduceIte, reduceCtorEq, Nat.reduceAdd, Nat.reduceEqDiff, beq_self_eq_true, decide_true, decide_false, Int.reduceBEq, Int.reduceLT, Int.reduceLE, cast1, S_eta, S_mk, h0, S_nil, *])
theorem spec_l2Interfere (a_kind a_id a_src a_dst a_amt : Int) (b_kind b_id b_src b_dst b_amt : Int) (ha : cmdOk ⟨a_kind, a_id, a_src, a_dst, a_amt⟩ = true) (hb : cmdOk ⟨b_kind, b_id, b_src, b_dst, b_amt⟩ = true) : Fun T 36 [i64 a_kind, i64 a_id, i64 a_src, i64 a_dst, i64 a_amt, i64 b_kind, i64 b_id, i64 b_src, i64 b_dst, i64 b_amt] = some [.bool (interM ⟨a_kind, a_id, a_src, a_dst, a_amt⟩ ⟨b_kind, b_id, b_src, b_dst, b_amt⟩)] := by
 rw [Fun_k (t := tm36) rfl]; unfold tm36; unfold interM
 have la := touchM_len ⟨a_kind, a_id, a_src, a_dst, a_amt⟩
 have lb := touchM_len ⟨b_kind, b_id, b_src, b_dst, b_amt⟩
 have lb' : (touchM ⟨b_kind, b_id, b_src, b_dst, b_amt⟩).length ≤ 1099511627776 := by omega
 simp (maxSteps := 2000000) (disch := first | assumption | omega) only [SA, SB, SC, SP, SQ, SZ, reduceIte, reduceCtorEq, Nat.reduceAdd, Nat.reduceEqDiff, beq_self_eq_true, decide_true, decide_false, Int.reduceBEq, Int.reduceLT, Int.reduceLE, cast1, S_eta, spec_l2Touches, ha]
 rw [findX 1 (touchM ⟨a_kind, a_id, a_src, a_dst, a_amt⟩) (fun k => hasM (touchM ⟨b_kind, b_id, b_src, b_dst, b_amt⟩) k) (fun _ => [.bool true])]
 ·simp (maxSteps := 2000000) (disch := first | assumption | omega) only [SA, SB, SC, SP, SQ, SZ, reduceIte, reduceCtorEq, Nat.reduceAdd, Nat.reduceEqDiff, beq_self_eq_true, decide_true, decide_false, Int.reduceBEq, Int.reduceLT, Int.reduceLE, cast1, S_eta, *] <;> repeat' (refine fork_eq (fun _ => ?_) (fun _ => ?_) <;> try simp (maxSteps := 2000000) (disch := first | assumption | omega) only [SA, SB, SC, SP, SQ, SZ, reduceIte, reduceCtorEq, Nat.reduceAdd, Nat.reduceEqDiff, beq_self_eq_true, decide_true, decide_false, Int.reduceBEq, Int.reduceLT, Int.reduceLE, cast1, S_eta, *])
 ·intro i hi hb2 hl hp
  simp (maxSteps := 2000000) (disch := first | assumption | omega) only [SA, SB, SC, SP, SQ, SZ, reduceIte, reduceCtorEq, Nat.reduceAdd, Nat.reduceEqDiff, beq_self_eq_true, decide_true, decide_false, Int.reduceBEq, Int.reduceLT, Int.reduceLE, cast1, S_eta, S_row, spec_l2Touches, spec_l1Has, hb, hb2, hl, hp]
 ·intro i hi hb2 hl hp
  simp (maxSteps := 2000000) (disch := first | assumption | omega) only [SA, SB, SC, SP, SQ, SZ, reduceIte, reduceCtorEq, Nat.reduceAdd, Nat.reduceEqDiff, beq_self_eq_true, decide_true, decide_false, Int.reduceBEq, Int.reduceLT, Int.reduceLE, cast1, S_eta, S_row, spec_l2Touches, spec_l1Has, hb, hb2, hl, hp]
 ·intro hl
  simp (maxSteps := 2000000) (disch := first | assumption | omega) only [SA, SB, SC, SP, SQ, SZ, reduceIte, reduceCtorEq, Nat.reduceAdd, Nat.reduceEqDiff, beq_self_eq_true, decide_true, decide_false, Int.reduceBEq, Int.reduceLT, Int.reduceLE, cast1, S_eta, hl]
theorem impl_interfere_1 (n : Int) (b_kind b_id b_src b_dst b_amt : Int) : Fun T 75 [i64 n, i64 b_kind, i64 b_id, i64 b_src, i64 b_dst, i64 b_amt] = some [.bool (hasM (touchM ⟨b_kind, b_id, b_src, b_dst, b_amt⟩) n)] := by
 rw [Fun_k (t := tm75) rfl]; unfold tm75
 have lb := touchM_len ⟨b_kind, b_id, b_src, b_dst, b_amt⟩
 have lb' : (touchM ⟨b_kind, b_id, b_src, b_dst, b_amt⟩).length ≤ 1099511627776 := by omega
 simp (maxSteps := 2000000) (disch := first | assumption | omega) only [SA, SB, SC, SP, SQ, SZ, reduceIte, reduceCtorEq, Nat.reduceAdd, Nat.reduceEqDiff, beq_self_eq_true, decide_true, decide_false, Int.reduceBEq, Int.reduceLT, Int.reduceLE, cast1, S_eta, impl_touches, slices_Contains_int]
theorem ix_interfere_1 (b_kind b_id b_src b_dst b_amt : Int) (xs : List Int) (hx : xs.length ≤ 1099511627776) : Fun T 74 [rL xs, i64 b_kind, i64 b_id, i64 b_src, i64 b_dst, i64 b_amt] = some [i64 (ixF (fun x => hasM (touchM ⟨b_kind, b_id, b_src, b_dst, b_amt⟩) x) xs)] := by
 rw [Fun_k (t := tm74) rfl]; unfold tm74
 simp (maxSteps := 2000000) (disch := first | assumption | omega) only [SA, SB, SC, SP, SQ, SZ, reduceIte, reduceCtorEq, Nat.reduceAdd, Nat.reduceEqDiff, beq_self_eq_true, decide_true, decide_false, Int.reduceBEq, Int.reduceLT, Int.reduceLE, cast1, S_eta, S_row, *]
 rw [findX 1 xs (fun x => hasM (touchM ⟨b_kind, b_id, b_src, b_dst, b_amt⟩) x) (fun i => [i64 i])]
 ·cases h : xs.any (fun x => hasM (touchM ⟨b_kind, b_id, b_src, b_dst, b_amt⟩) x)
  ·have e : ixF (fun x => hasM (touchM ⟨b_kind, b_id, b_src, b_dst, b_amt⟩) x) xs = -1 := by
    have h2 := ixF_any (fun x => hasM (touchM ⟨b_kind, b_id, b_src, b_dst, b_amt⟩) x) xs
    rw [h] at h2
    unfold ixF at h2 ⊢
    split at h2 <;> simp_all
   rw [e]; simp (maxSteps := 2000000) (disch := first | assumption | omega) only [SA, SB, SC, SP, SQ, SZ, reduceIte, reduceCtorEq, Nat.reduceAdd, Nat.reduceEqDiff, beq_self_eq_true, decide_true, decide_false, Int.reduceBEq, Int.reduceLT, Int.reduceLE, cast1, S_eta]
  ·simp (maxSteps := 2000000) (disch := first | assumption | omega) only [SA, SB, SC, SP, SQ, SZ, reduceIte, reduceCtorEq, Nat.reduceAdd, Nat.reduceEqDiff, beq_self_eq_true, decide_true, decide_false, Int.reduceBEq, Int.reduceLT, Int.reduceLE, cast1, S_eta]
 ·intro i hi hb hl hp
  simp (maxSteps := 2000000) (disch := first | assumption | omega) only [SA, SB, SC, SP, SQ, SZ, reduceIte, reduceCtorEq, Nat.reduceAdd, Nat.reduceEqDiff, beq_self_eq_true, decide_true, decide_false, Int.reduceBEq, Int.reduceLT, Int.reduceLE, cast1, S_eta, S_row, impl_interfere_1, *] <;> repeat' (refine fork_eq (fun _ => ?_) (fun _ => ?_) <;> try simp (maxSteps := 2000000) (disch := first | assumption | omega) only [SA, SB, SC, SP, SQ, SZ, reduceIte, reduceCtorEq, Nat.reduceAdd, Nat.reduceEqDiff, beq_self_eq_true, decide_true, decide_false, Int.reduceBEq, Int.reduceLT, Int.reduceLE, cast1, S_eta, S_row, impl_interfere_1, *])
 ·intro i hi hb hl hp
  simp (maxSteps := 2000000) (disch := first | assumption | omega) only [SA, SB, SC, SP, SQ, SZ, reduceIte, reduceCtorEq, Nat.reduceAdd, Nat.reduceEqDiff, beq_self_eq_true, decide_true, decide_false, Int.reduceBEq, Int.reduceLT, Int.reduceLE, cast1, S_eta, S_row, impl_interfere_1, *] <;> repeat' (refine fork_eq (fun _ => ?_) (fun _ => ?_) <;> try simp (maxSteps := 2000000) (disch := first | assumption | omega) only [SA, SB, SC, SP, SQ, SZ, reduceIte, reduceCtorEq, Nat.reduceAdd, Nat.reduceEqDiff, beq_self_eq_true, decide_true, decide_false, Int.reduceBEq, Int.reduceLT, Int.reduceLE, cast1, S_eta, S_row, impl_interfere_1, *])
 ·intro hl
  simp (maxSteps := 2000000) (disch := first | assumption | omega) only [SA, SB, SC, SP, SQ, SZ, reduceIte, reduceCtorEq, Nat.reduceAdd, Nat.reduceEqDiff, beq_self_eq_true, decide_true, decide_false, Int.reduceBEq, Int.reduceLT, Int.reduceLE, cast1, S_eta, *] <;> repeat' (refine fork_eq (fun _ => ?_) (fun _ => ?_) <;> try simp (maxSteps := 2000000) (disch := first | assumption | omega) only [SA, SB, SC, SP, SQ, SZ, reduceIte, reduceCtorEq, Nat.reduceAdd, Nat.reduceEqDiff, beq_self_eq_true, decide_true, decide_false, Int.reduceBEq, Int.reduceLT, Int.reduceLE, cast1, S_eta, *])
theorem ct_interfere_1 (b_kind b_id b_src b_dst b_amt : Int) (xs : List Int) (hx : xs.length ≤ 1099511627776) : Fun T 73 [rL xs, i64 b_kind, i64 b_id, i64 b_src, i64 b_dst, i64 b_amt] = some [.bool (xs.any (fun x => hasM (touchM ⟨b_kind, b_id, b_src, b_dst, b_amt⟩) x))] := by
 rw [Fun_k (t := tm73) rfl]; unfold tm73
 simp (maxSteps := 2000000) (disch := first | assumption | omega) only [SA, SB, SC, SP, SQ, SZ, reduceIte, reduceCtorEq, Nat.reduceAdd, Nat.reduceEqDiff, beq_self_eq_true, decide_true, decide_false, Int.reduceBEq, Int.reduceLT, Int.reduceLE, cast1, S_eta, ix_interfere_1, ixF_any, *] <;> repeat' (refine fork_eq (fun _ => ?_) (fun _ => ?_) <;> try simp (maxSteps := 2000000) (disch := first | assumption | omega) only [SA, SB, SC, SP, SQ, SZ, reduceIte, reduceCtorEq, Nat.reduceAdd, Nat.reduceEqDiff, beq_self_eq_true, decide_true, decide_false, Int.reduceBEq, Int.reduceLT, Int.reduceLE, cast1, S_eta, ix_interfere_1, ixF_any, *])
theorem impl_interfere (a_kind a_id a_src a_dst a_amt : Int) (b_kind b_id b_src b_dst b_amt : Int) : Fun T 71 [i64 a_kind, i64 a_id, i64 a_src, i64 a_dst, i64 a_amt, i64 b_kind, i64 b_id, i64 b_src, i64 b_dst, i64 b_amt] = some [.bool (interM ⟨a_kind, a_id, a_src, a_dst, a_amt⟩ ⟨b_kind, b_id, b_src, b_dst, b_amt⟩)] := by
 rw [Fun_k (t := tm71) rfl]; unfold tm71; unfold interM
 have la := touchM_len ⟨a_kind, a_id, a_src, a_dst, a_amt⟩
 have la' : (touchM ⟨a_kind, a_id, a_src, a_dst, a_amt⟩).length ≤ 1099511627776 := by omega
 simp (maxSteps := 2000000) (disch := first | assumption | omega) only [SA, SB, SC, SP, SQ, SZ, reduceIte, reduceCtorEq, Nat.reduceAdd, Nat.reduceEqDiff, beq_self_eq_true, decide_true, decide_false, Int.reduceBEq, Int.reduceLT, Int.reduceLE, cast1, S_eta, impl_touches, ct_interfere_1]
theorem spec_l6Find (l : List (List Int)) (x : List Int) (hl : l.length ≤ 1099511627776) (hx : x.length ≤ 1099511627776) : Fun T 31 [rL l, rL x] = some [i64 (findM l x)] := by
 rw [Fun_k (t := tm31) rfl]; unfold tm31; unfold findM
 simp (maxSteps := 2000000) (disch := first | assumption | omega) only [SA, SB, SC, SP, SQ, SZ, reduceIte, reduceCtorEq, Nat.reduceAdd, Nat.reduceEqDiff, beq_self_eq_true, decide_true, decide_false, Int.reduceBEq, Int.reduceLT, Int.reduceLE, cast1, S_eta]
 rw [findX 1 l (fun y => decide (x = y)) (fun i => [i64 i])]
 ·cases h : l.any (fun y => decide (x = y))
  ·have e : ixF (fun y => decide (x = y)) l = -1 := by
    have h2 := ixF_any (fun y => decide (x = y)) l
    rw [h] at h2
    unfold ixF at h2 ⊢
    split at h2 <;> simp_all
   rw [e]; simp (maxSteps := 2000000) (disch := first | assumption | omega) only [SA, SB, SC, SP, SQ, SZ, reduceIte, reduceCtorEq, Nat.reduceAdd, Nat.reduceEqDiff, beq_self_eq_true, decide_true, decide_false, Int.reduceBEq, Int.reduceLT, Int.reduceLE, cast1, S_eta]
  ·simp (maxSteps := 2000000) (disch := first | assumption | omega) only [SA, SB, SC, SP, SQ, SZ, reduceIte, reduceCtorEq, Nat.reduceAdd, Nat.reduceEqDiff, beq_self_eq_true, decide_true, decide_false, Int.reduceBEq, Int.reduceLT, Int.reduceLE, cast1, S_eta]
 ·intro i hi hb hlt hp
  simp (maxSteps := 2000000) (disch := first | assumption | omega) only [SA, SB, SC, SP, SQ, SZ, reduceIte, reduceCtorEq, Nat.reduceAdd, Nat.reduceEqDiff, beq_self_eq_true, decide_true, decide_false, Int.reduceBEq, Int.reduceLT, Int.reduceLE, cast1, S_eta, S_row, spec_l1Same, hlt, hp]
 ·intro i hi hb hlt hp
  simp (maxSteps := 2000000) (disch := first | assumption | omega) only [SA, SB, SC, SP, SQ, SZ, reduceIte, reduceCtorEq, Nat.reduceAdd, Nat.reduceEqDiff, beq_self_eq_true, decide_true, decide_false, Int.reduceBEq, Int.reduceLT, Int.reduceLE, cast1, S_eta, S_row, spec_l1Same, hlt, hp]
 ·intro hlt
  simp (maxSteps := 2000000) (disch := first | assumption | omega) only [SA, SB, SC, SP, SQ, SZ, reduceIte, reduceCtorEq, Nat.reduceAdd, Nat.reduceEqDiff, beq_self_eq_true, decide_true, decide_false, Int.reduceBEq, Int.reduceLT, Int.reduceLE, cast1, S_eta, hlt]
theorem impl_hasInstance_1 (y x : List Int) (hx : x.length ≤ 1099511627776) : Fun T 65 [rL y, rL x] = some [.bool (decide (x = y))] := by
 rw [Fun_k (t := tm65) rfl]; unfold tm65
 simp (maxSteps := 2000000) (disch := first | assumption | omega) only [SA, SB, SC, SP, SQ, SZ, reduceIte, reduceCtorEq, Nat.reduceAdd, Nat.reduceEqDiff, beq_self_eq_true, decide_true, decide_false, Int.reduceBEq, Int.reduceLT, Int.reduceLE, cast1, S_eta, slices_Equal_int]
theorem ix_hasInstance_1 (x : List Int) (hx2 : x.length ≤ 1099511627776) (xs : List (List Int)) (hx : xs.length ≤ 1099511627776) : Fun T 64 [rL xs, rL x] = some [i64 (ixF (fun y => decide (x = y)) xs)] := by
 rw [Fun_k (t := tm64) rfl]; unfold tm64
 simp (maxSteps := 2000000) (disch := first | assumption | omega) only [SA, SB, SC, SP, SQ, SZ, reduceIte, reduceCtorEq, Nat.reduceAdd, Nat.reduceEqDiff, beq_self_eq_true, decide_true, decide_false, Int.reduceBEq, Int.reduceLT, Int.reduceLE, cast1, S_eta, S_row, *]
 rw [findX 1 xs (fun y => decide (x = y)) (fun i => [i64 i])]
 ·cases h : xs.any (fun y => decide (x = y))
  ·have e : ixF (fun y => decide (x = y)) xs = -1 := by
    have h2 := ixF_any (fun y => decide (x = y)) xs
    rw [h] at h2
    unfold ixF at h2 ⊢
    split at h2 <;> simp_all
   rw [e]; simp (maxSteps := 2000000) (disch := first | assumption | omega) only [SA, SB, SC, SP, SQ, SZ, reduceIte, reduceCtorEq, Nat.reduceAdd, Nat.reduceEqDiff, beq_self_eq_true, decide_true, decide_false, Int.reduceBEq, Int.reduceLT, Int.reduceLE, cast1, S_eta]
  ·simp (maxSteps := 2000000) (disch := first | assumption | omega) only [SA, SB, SC, SP, SQ, SZ, reduceIte, reduceCtorEq, Nat.reduceAdd, Nat.reduceEqDiff, beq_self_eq_true, decide_true, decide_false, Int.reduceBEq, Int.reduceLT, Int.reduceLE, cast1, S_eta]
 ·intro i hi hb hl hp
  simp (maxSteps := 2000000) (disch := first | assumption | omega) only [SA, SB, SC, SP, SQ, SZ, reduceIte, reduceCtorEq, Nat.reduceAdd, Nat.reduceEqDiff, beq_self_eq_true, decide_true, decide_false, Int.reduceBEq, Int.reduceLT, Int.reduceLE, cast1, S_eta, S_row, impl_hasInstance_1, *] <;> repeat' (refine fork_eq (fun _ => ?_) (fun _ => ?_) <;> try simp (maxSteps := 2000000) (disch := first | assumption | omega) only [SA, SB, SC, SP, SQ, SZ, reduceIte, reduceCtorEq, Nat.reduceAdd, Nat.reduceEqDiff, beq_self_eq_true, decide_true, decide_false, Int.reduceBEq, Int.reduceLT, Int.reduceLE, cast1, S_eta, S_row, impl_hasInstance_1, *])
 ·intro i hi hb hl hp
  simp (maxSteps := 2000000) (disch := first | assumption | omega) only [SA, SB, SC, SP, SQ, SZ, reduceIte, reduceCtorEq, Nat.reduceAdd, Nat.reduceEqDiff, beq_self_eq_true, decide_true, decide_false, Int.reduceBEq, Int.reduceLT, Int.reduceLE, cast1, S_eta, S_row, impl_hasInstance_1, *] <;> repeat' (refine fork_eq (fun _ => ?_) (fun _ => ?_) <;> try simp (maxSteps := 2000000) (disch := first | assumption | omega) only [SA, SB, SC, SP, SQ, SZ, reduceIte, reduceCtorEq, Nat.reduceAdd, Nat.reduceEqDiff, beq_self_eq_true, decide_true, decide_false, Int.reduceBEq, Int.reduceLT, Int.reduceLE, cast1, S_eta, S_row, impl_hasInstance_1, *])
 ·intro hl
  simp (maxSteps := 2000000) (disch := first | assumption | omega) only [SA, SB, SC, SP, SQ, SZ, reduceIte, reduceCtorEq, Nat.reduceAdd, Nat.reduceEqDiff, beq_self_eq_true, decide_true, decide_false, Int.reduceBEq, Int.reduceLT, Int.reduceLE, cast1, S_eta, *] <;> repeat' (refine fork_eq (fun _ => ?_) (fun _ => ?_) <;> try simp (maxSteps := 2000000) (disch := first | assumption | omega) only [SA, SB, SC, SP, SQ, SZ, reduceIte, reduceCtorEq, Nat.reduceAdd, Nat.reduceEqDiff, beq_self_eq_true, decide_true, decide_false, Int.reduceBEq, Int.reduceLT, Int.reduceLE, cast1, S_eta, *])
theorem ct_hasInstance_1 (x : List Int) (hx2 : x.length ≤ 1099511627776) (xs : List (List Int)) (hx : xs.length ≤ 1099511627776) : Fun T 63 [rL xs, rL x] = some [.bool (xs.any (fun y => decide (x = y)))] := by
 rw [Fun_k (t := tm63) rfl]; unfold tm63
 simp (maxSteps := 2000000) (disch := first | assumption | omega) only [SA, SB, SC, SP, SQ, SZ, reduceIte, reduceCtorEq, Nat.reduceAdd, Nat.reduceEqDiff, beq_self_eq_true, decide_true, decide_false, Int.reduceBEq, Int.reduceLT, Int.reduceLE, cast1, S_eta, ix_hasInstance_1, ixF_any, *] <;> repeat' (refine fork_eq (fun _ => ?_) (fun _ => ?_) <;> try simp (maxSteps := 2000000) (disch := first | assumption | omega) only [SA, SB, SC, SP, SQ, SZ, reduceIte, reduceCtorEq, Nat.reduceAdd, Nat.reduceEqDiff, beq_self_eq_true, decide_true, decide_false, Int.reduceBEq, Int.reduceLT, Int.reduceLE, cast1, S_eta, ix_hasInstance_1, ixF_any, *])
theorem impl_hasInstance (l : List (List Int)) (x : List Int) (hl : l.length ≤ 1099511627776) (hx : x.length ≤ 1099511627776) : Fun T 62 [rL l, rL x] = some [.bool (l.any fun y => decide (x = y))] := by
 rw [Fun_k (t := tm62) rfl]; unfold tm62
 simp (maxSteps := 2000000) (disch := first | assumption | omega) only [SA, SB, SC, SP, SQ, SZ, reduceIte, reduceCtorEq, Nat.reduceAdd, Nat.reduceEqDiff, beq_self_eq_true, decide_true, decide_false, Int.reduceBEq, Int.reduceLT, Int.reduceLE, cast1, S_eta, ct_hasInstance_1]
theorem impl_sameOrders_1_1 (y x : List Int) (hx : x.length ≤ 1099511627776) : Fun T 80 [rL y, rL x] = some [.bool (decide (x = y))] := by
 rw [Fun_k (t := tm80) rfl]; unfold tm80
 simp (maxSteps := 2000000) (disch := first | assumption | omega) only [SA, SB, SC, SP, SQ, SZ, reduceIte, reduceCtorEq, Nat.reduceAdd, Nat.reduceEqDiff, beq_self_eq_true, decide_true, decide_false, Int.reduceBEq, Int.reduceLT, Int.reduceLE, cast1, S_eta, slices_Equal_int]
theorem ix_sameOrders_1_1 (x : List Int) (hx2 : x.length ≤ 1099511627776) (xs : List (List Int)) (hx : xs.length ≤ 1099511627776) : Fun T 79 [rL xs, rL x] = some [i64 (ixF (fun y => decide (x = y)) xs)] := by
 rw [Fun_k (t := tm79) rfl]; unfold tm79
 simp (maxSteps := 2000000) (disch := first | assumption | omega) only [SA, SB, SC, SP, SQ, SZ, reduceIte, reduceCtorEq, Nat.reduceAdd, Nat.reduceEqDiff, beq_self_eq_true, decide_true, decide_false, Int.reduceBEq, Int.reduceLT, Int.reduceLE, cast1, S_eta, S_row, *]
 rw [findX 1 xs (fun y => decide (x = y)) (fun i => [i64 i])]
 ·cases h : xs.any (fun y => decide (x = y))
  ·have e : ixF (fun y => decide (x = y)) xs = -1 := by
    have h2 := ixF_any (fun y => decide (x = y)) xs
    rw [h] at h2
    unfold ixF at h2 ⊢
    split at h2 <;> simp_all
   rw [e]; simp (maxSteps := 2000000) (disch := first | assumption | omega) only [SA, SB, SC, SP, SQ, SZ, reduceIte, reduceCtorEq, Nat.reduceAdd, Nat.reduceEqDiff, beq_self_eq_true, decide_true, decide_false, Int.reduceBEq, Int.reduceLT, Int.reduceLE, cast1, S_eta]
  ·simp (maxSteps := 2000000) (disch := first | assumption | omega) only [SA, SB, SC, SP, SQ, SZ, reduceIte, reduceCtorEq, Nat.reduceAdd, Nat.reduceEqDiff, beq_self_eq_true, decide_true, decide_false, Int.reduceBEq, Int.reduceLT, Int.reduceLE, cast1, S_eta]
 ·intro i hi hb hl hp
  simp (maxSteps := 2000000) (disch := first | assumption | omega) only [SA, SB, SC, SP, SQ, SZ, reduceIte, reduceCtorEq, Nat.reduceAdd, Nat.reduceEqDiff, beq_self_eq_true, decide_true, decide_false, Int.reduceBEq, Int.reduceLT, Int.reduceLE, cast1, S_eta, S_row, impl_sameOrders_1_1, *] <;> repeat' (refine fork_eq (fun _ => ?_) (fun _ => ?_) <;> try simp (maxSteps := 2000000) (disch := first | assumption | omega) only [SA, SB, SC, SP, SQ, SZ, reduceIte, reduceCtorEq, Nat.reduceAdd, Nat.reduceEqDiff, beq_self_eq_true, decide_true, decide_false, Int.reduceBEq, Int.reduceLT, Int.reduceLE, cast1, S_eta, S_row, impl_sameOrders_1_1, *])
 ·intro i hi hb hl hp
  simp (maxSteps := 2000000) (disch := first | assumption | omega) only [SA, SB, SC, SP, SQ, SZ, reduceIte, reduceCtorEq, Nat.reduceAdd, Nat.reduceEqDiff, beq_self_eq_true, decide_true, decide_false, Int.reduceBEq, Int.reduceLT, Int.reduceLE, cast1, S_eta, S_row, impl_sameOrders_1_1, *] <;> repeat' (refine fork_eq (fun _ => ?_) (fun _ => ?_) <;> try simp (maxSteps := 2000000) (disch := first | assumption | omega) only [SA, SB, SC, SP, SQ, SZ, reduceIte, reduceCtorEq, Nat.reduceAdd, Nat.reduceEqDiff, beq_self_eq_true, decide_true, decide_false, Int.reduceBEq, Int.reduceLT, Int.reduceLE, cast1, S_eta, S_row, impl_sameOrders_1_1, *])
 ·intro hl
  simp (maxSteps := 2000000) (disch := first | assumption | omega) only [SA, SB, SC, SP, SQ, SZ, reduceIte, reduceCtorEq, Nat.reduceAdd, Nat.reduceEqDiff, beq_self_eq_true, decide_true, decide_false, Int.reduceBEq, Int.reduceLT, Int.reduceLE, cast1, S_eta, *] <;> repeat' (refine fork_eq (fun _ => ?_) (fun _ => ?_) <;> try simp (maxSteps := 2000000) (disch := first | assumption | omega) only [SA, SB, SC, SP, SQ, SZ, reduceIte, reduceCtorEq, Nat.reduceAdd, Nat.reduceEqDiff, beq_self_eq_true, decide_true, decide_false, Int.reduceBEq, Int.reduceLT, Int.reduceLE, cast1, S_eta, *])
theorem impl_sameOrders_1 (x : List Int) (l : List (List Int)) (hl : l.length ≤ 1099511627776) (hx : x.length ≤ 1099511627776) : Fun T 78 [rL x, rL l] = some [i64 (findM l x)] := by
 rw [Fun_k (t := tm78) rfl]; unfold tm78; unfold findM
 simp (maxSteps := 2000000) (disch := first | assumption | omega) only [SA, SB, SC, SP, SQ, SZ, reduceIte, reduceCtorEq, Nat.reduceAdd, Nat.reduceEqDiff, beq_self_eq_true, decide_true, decide_false, Int.reduceBEq, Int.reduceLT, Int.reduceLE, cast1, S_eta, ix_sameOrders_1_1]
theorem spec_l6Insts (n : Int) (rows : List (List TRow)) (l : List (List Int)) (hg : isGrp n = true) (hl : l.length ≤ 10000000000) (hx : ∀ x ∈ l, x.length ≤ 10000000000) : Fun T 29 [i64 n, rL rows, rL l] = some [.bool (instsM n l)] := by
 rw [Fun_k (t := tm29) rfl]; unfold tm29; unfold instsM
 simp (maxSteps := 2000000) (disch := first | assumption | omega) only [SA, SB, SC, SP, SQ, SZ, reduceIte, reduceCtorEq, Nat.reduceAdd, Nat.reduceEqDiff, beq_self_eq_true, decide_true, decide_false, Int.reduceBEq, Int.reduceLT, Int.reduceLE, cast1, S_eta]
 rw [scanF 1 l.length (instAt n l) [.bool false]]
 ·simp (maxSteps := 2000000) (disch := first | assumption | omega) only [SA, SB, SC, SP, SQ, SZ, reduceIte, reduceCtorEq, Nat.reduceAdd, Nat.reduceEqDiff, beq_self_eq_true, decide_true, decide_false, Int.reduceBEq, Int.reduceLT, Int.reduceLE, cast1, S_eta, *] <;> repeat' (refine fork_eq (fun _ => ?_) (fun _ => ?_) <;> try simp (maxSteps := 2000000) (disch := first | assumption | omega) only [SA, SB, SC, SP, SQ, SZ, reduceIte, reduceCtorEq, Nat.reduceAdd, Nat.reduceEqDiff, beq_self_eq_true, decide_true, decide_false, Int.reduceBEq, Int.reduceLT, Int.reduceLE, cast1, S_eta, *])
 ·intro i hi hlt
  have hb : InB l (i : Int) := InB_nat.2 hi
  have hq := hx _ (at_mem hi)
  have ht : (l.take i).length ≤ 1099511627776 := by rw [List.length_take]; omega
  have hq2 : (atI l (i : Int)).length ≤ 1099511627776 := by omega
  unfold instAt
  cases h2 : ((atI l (i : Int)).length : Int) == 2
  ·simp (maxSteps := 2000000) (disch := first | assumption | omega) only [SA, SB, SC, SP, SQ, SZ, reduceIte, reduceCtorEq, Nat.reduceAdd, Nat.reduceEqDiff, beq_self_eq_true, decide_true, decide_false, Int.reduceBEq, Int.reduceLT, Int.reduceLE, cast1, S_eta, S_row, hlt, h2]
  ·have h2' : ((atI l (i : Int)).length : Int) = 2 := by simpa using h2
   have b0 : InB (atI l (i : Int)) 0 := by unfold InB; omega
   have b1 : InB (atI l (i : Int)) 1 := by unfold InB; omega
   have e : (l.take i).any (fun y => decide (atI l (i : Int) = y)) = decide (0 ≤ findM (l.take i) (atI l (i : Int))) := (ixF_any _ _).symm
   cases h3 : inst n (atI (atI l (i : Int)) 0) (atI (atI l (i : Int)) 1)
   ·simp (maxSteps := 2000000) (disch := first | assumption | omega) only [SA, SB, SC, SP, SQ, SZ, reduceIte, reduceCtorEq, Nat.reduceAdd, Nat.reduceEqDiff, beq_self_eq_true, decide_true, decide_false, Int.reduceBEq, Int.reduceLT, Int.reduceLE, cast1, S_eta, S_row, spec_l3Inst, hlt, h2, h3]
   ·cases h4 : decide (0 ≤ findM (l.take i) (atI l (i : Int)))
    ·simp (maxSteps := 2000000) (disch := first | assumption | omega) only [SA, SB, SC, SP, SQ, SZ, reduceIte, reduceCtorEq, Nat.reduceAdd, Nat.reduceEqDiff, beq_self_eq_true, decide_true, decide_false, Int.reduceBEq, Int.reduceLT, Int.reduceLE, cast1, S_eta, S_row, S_sub, spec_l3Inst, spec_l6Find, hlt, h2, h3, h4, e, Int.toNat_natCast, Int.toNat_zero, List.drop_zero]
    ·simp (maxSteps := 2000000) (disch := first | assumption | omega) only [SA, SB, SC, SP, SQ, SZ, reduceIte, reduceCtorEq, Nat.reduceAdd, Nat.reduceEqDiff, beq_self_eq_true, decide_true, decide_false, Int.reduceBEq, Int.reduceLT, Int.reduceLE, cast1, S_eta, S_row, S_sub, spec_l3Inst, spec_l6Find, hlt, h2, h3, h4, e, Int.toNat_natCast, Int.toNat_zero, List.drop_zero]
 ·intro hlt
  simp (maxSteps := 2000000) (disch := first | assumption | omega) only [SA, SB, SC, SP, SQ, SZ, reduceIte, reduceCtorEq, Nat.reduceAdd, Nat.reduceEqDiff, beq_self_eq_true, decide_true, decide_false, Int.reduceBEq, Int.reduceLT, Int.reduceLE, cast1, S_eta, hlt]
theorem impl_areInstances (n : Int) (l : List (List Int)) (hg : isGrp n = true) (hl : l.length ≤ 10000000000) (hx : ∀ x ∈ l, x.length ≤ 10000000000) : Fun T 60 [i64 n, rL l] = some [.bool (instsM n l)] := by
 rw [Fun_k (t := tm60) rfl]; unfold tm60; unfold instsM
 simp (maxSteps := 2000000) (disch := first | assumption | omega) only [SA, SB, SC, SP, SQ, SZ, reduceIte, reduceCtorEq, Nat.reduceAdd, Nat.reduceEqDiff, beq_self_eq_true, decide_true, decide_false, Int.reduceBEq, Int.reduceLT, Int.reduceLE, cast1, S_eta]
 rw [scanF 1 l.length (instAt n l) [.bool false]]
 ·simp (maxSteps := 2000000) (disch := first | assumption | omega) only [SA, SB, SC, SP, SQ, SZ, reduceIte, reduceCtorEq, Nat.reduceAdd, Nat.reduceEqDiff, beq_self_eq_true, decide_true, decide_false, Int.reduceBEq, Int.reduceLT, Int.reduceLE, cast1, S_eta, *] <;> repeat' (refine fork_eq (fun _ => ?_) (fun _ => ?_) <;> try simp (maxSteps := 2000000) (disch := first | assumption | omega) only [SA, SB, SC, SP, SQ, SZ, reduceIte, reduceCtorEq, Nat.reduceAdd, Nat.reduceEqDiff, beq_self_eq_true, decide_true, decide_false, Int.reduceBEq, Int.reduceLT, Int.reduceLE, cast1, S_eta, *])
 ·intro i hi hlt
  have hb : InB l (i : Int) := InB_nat.2 hi
  have hq := hx _ (at_mem hi)
  have ht : (l.take i).length ≤ 1099511627776 := by rw [List.length_take]; omega
  have hq2 : (atI l (i : Int)).length ≤ 1099511627776 := by omega
  unfold instAt
  cases h2 : ((atI l (i : Int)).length : Int) == 2
  ·simp (maxSteps := 2000000) (disch := first | assumption | omega) only [SA, SB, SC, SP, SQ, SZ, reduceIte, reduceCtorEq, Nat.reduceAdd, Nat.reduceEqDiff, beq_self_eq_true, decide_true, decide_false, Int.reduceBEq, Int.reduceLT, Int.reduceLE, cast1, S_eta, S_row, hlt, h2]
  ·have h2' : ((atI l (i : Int)).length : Int) = 2 := by simpa using h2
   have b0 : InB (atI l (i : Int)) 0 := by unfold InB; omega
   have b1 : InB (atI l (i : Int)) 1 := by unfold InB; omega
   cases h3 : inst n (atI (atI l (i : Int)) 0) (atI (atI l (i : Int)) 1)
   ·simp (maxSteps := 2000000) (disch := first | assumption | omega) only [SA, SB, SC, SP, SQ, SZ, reduceIte, reduceCtorEq, Nat.reduceAdd, Nat.reduceEqDiff, beq_self_eq_true, decide_true, decide_false, Int.reduceBEq, Int.reduceLT, Int.reduceLE, cast1, S_eta, S_row, impl_isInstance, hlt, h2, h3, hg]
   ·cases h4 : (l.take i).any (fun y => decide (atI l (i : Int) = y))
    ·simp (maxSteps := 2000000) (disch := first | assumption | omega) only [SA, SB, SC, SP, SQ, SZ, reduceIte, reduceCtorEq, Nat.reduceAdd, Nat.reduceEqDiff, beq_self_eq_true, decide_true, decide_false, Int.reduceBEq, Int.reduceLT, Int.reduceLE, cast1, S_eta, S_row, S_sub, impl_isInstance, impl_hasInstance, hlt, h2, h3, h4, hg, Int.toNat_natCast, Int.toNat_zero, List.drop_zero]
    ·simp (maxSteps := 2000000) (disch := first | assumption | omega) only [SA, SB, SC, SP, SQ, SZ, reduceIte, reduceCtorEq, Nat.reduceAdd, Nat.reduceEqDiff, beq_self_eq_true, decide_true, decide_false, Int.reduceBEq, Int.reduceLT, Int.reduceLE, cast1, S_eta, S_row, S_sub, impl_isInstance, impl_hasInstance, hlt, h2, h3, h4, hg, Int.toNat_natCast, Int.toNat_zero, List.drop_zero]
 ·intro hlt
  simp (maxSteps := 2000000) (disch := first | assumption | omega) only [SA, SB, SC, SP, SQ, SZ, reduceIte, reduceCtorEq, Nat.reduceAdd, Nat.reduceEqDiff, beq_self_eq_true, decide_true, decide_false, Int.reduceBEq, Int.reduceLT, Int.reduceLE, cast1, S_eta, hlt]
theorem impl_Table_sameOrders (n : Int) (rows : List (List TRow)) (a b : List (List Int)) (ht : tabOk ⟨n, rows⟩ = true) (ha : instsM n a = true) (hs : smTab rows) (hla : a.length ≤ 10000000000) (hlb : b.length ≤ 10000000000) : Fun T 66 [i64 n, rL rows, rL a, rL b] = some [.bool (ordM ⟨n, rows⟩ a b)] := by
 rw [Fun_k (t := tm66) rfl]; unfold tm66; unfold ordM
 have hg : isGrp n = true := tabOk_grp ht
 have hlb2 : b.length ≤ 1099511627776 := by omega
 simp (maxSteps := 2000000) (disch := first | assumption | omega) only [SA, SB, SC, SP, SQ, SZ, reduceIte, reduceCtorEq, Nat.reduceAdd, Nat.reduceEqDiff, beq_self_eq_true, decide_true, decide_false, Int.reduceBEq, Int.reduceLT, Int.reduceLE, cast1, S_eta]
 rw [scanF 1 a.length (fun i => (a.take i).all fun y => !ordB ⟨n, rows⟩ b (atI a (i : Int)) y) [.bool false]]
 ·simp (maxSteps := 2000000) (disch := first | assumption | omega) only [SA, SB, SC, SP, SQ, SZ, reduceIte, reduceCtorEq, Nat.reduceAdd, Nat.reduceEqDiff, beq_self_eq_true, decide_true, decide_false, Int.reduceBEq, Int.reduceLT, Int.reduceLE, cast1, S_eta, *] <;> repeat' (refine fork_eq (fun _ => ?_) (fun _ => ?_) <;> try simp (maxSteps := 2000000) (disch := first | assumption | omega) only [SA, SB, SC, SP, SQ, SZ, reduceIte, reduceCtorEq, Nat.reduceAdd, Nat.reduceEqDiff, beq_self_eq_true, decide_true, decide_false, Int.reduceBEq, Int.reduceLT, Int.reduceLE, cast1, S_eta, *])
 ·intro i hi hlt
  have hb : InB a (i : Int) := InB_nat.2 hi
  obtain ⟨xl, xi⟩ := instsM_spec ha (at_mem hi)
  have x0 : InB (atI a (i : Int)) 0 := by unfold InB; omega
  have x1 : InB (atI a (i : Int)) 1 := by unfold InB; omega
  have xr := inst_rng xi
  have xb := tabOk_in (t := ⟨n, rows⟩) ht xi
  simp only at xb
  have xl2 : (atI a (i : Int)).length ≤ 1099511627776 := by omega
  simp (maxSteps := 2000000) (disch := first | assumption | omega) only [SA, SB, SC, SP, SQ, SZ, reduceIte, reduceCtorEq, Nat.reduceAdd, Nat.reduceEqDiff, beq_self_eq_true, decide_true, decide_false, Int.reduceBEq, Int.reduceLT, Int.reduceLE, cast1, S_eta, S_row, S_sub, hlt, Int.toNat_natCast, Int.toNat_zero, List.drop_zero]
  rw [allF 3 (a.take i) (fun y => !ordB ⟨n, rows⟩ b (atI a (i : Int)) y) [.bool false]]
  ·simp (maxSteps := 2000000) (disch := first | assumption | omega) only [SA, SB, SC, SP, SQ, SZ, reduceIte, reduceCtorEq, Nat.reduceAdd, Nat.reduceEqDiff, beq_self_eq_true, decide_true, decide_false, Int.reduceBEq, Int.reduceLT, Int.reduceLE, cast1, S_eta, *] <;> repeat' (refine fork_eq (fun _ => ?_) (fun _ => ?_) <;> try simp (maxSteps := 2000000) (disch := first | assumption | omega) only [SA, SB, SC, SP, SQ, SZ, reduceIte, reduceCtorEq, Nat.reduceAdd, Nat.reduceEqDiff, beq_self_eq_true, decide_true, decide_false, Int.reduceBEq, Int.reduceLT, Int.reduceLE, cast1, S_eta, *])
  ·intro j hj hb2 hlt2 hm
   have hj3 : j < 10000000000 := by rw [List.length_take] at hj; omega
   obtain ⟨yl, yi⟩ := instsM_spec ha (List.mem_of_mem_take hm)
   have y0 : InB (atI (a.take i) (j : Int)) 0 := by unfold InB; omega
   have y1 : InB (atI (a.take i) (j : Int)) 1 := by unfold InB; omega
   have yr := inst_rng yi
   have yb := tabOk_in (t := ⟨n, rows⟩) ht yi
   simp only at yb
   have yl2 : (atI (a.take i) (j : Int)).length ≤ 1099511627776 := by omega
   unfold ordB
   generalize h1 : interM (trow ⟨n, rows⟩ (atI (atI a (i : Int)) 0) (atI (atI a (i : Int)) 1)).cmd (trow ⟨n, rows⟩ (atI (atI (a.take i) (j : Int)) 0) (atI (atI (a.take i) (j : Int)) 1)).cmd = q
   simp (maxSteps := 2000000) (disch := first | assumption | omega) only [SA, SB, SC, SP, SQ, SZ, reduceIte, reduceCtorEq, Nat.reduceAdd, Nat.reduceEqDiff, beq_self_eq_true, decide_true, decide_false, Int.reduceBEq, Int.reduceLT, Int.reduceLE, cast1, S_eta, S_row, impl_Table_row, impl_interfere, hlt2, h1] <;> repeat' (refine fork_eq (fun _ => ?_) (fun _ => ?_) <;> try simp (maxSteps := 2000000) (disch := first | assumption | omega) only [SA, SB, SC, SP, SQ, SZ, reduceIte, reduceCtorEq, Nat.reduceAdd, Nat.reduceEqDiff, beq_self_eq_true, decide_true, decide_false, Int.reduceBEq, Int.reduceLT, Int.reduceLE, cast1, S_eta, S_row, impl_sameOrders_1, *])
  ·intro hlt2
   simp (maxSteps := 2000000) (disch := first | assumption | omega) only [SA, SB, SC, SP, SQ, SZ, reduceIte, reduceCtorEq, Nat.reduceAdd, Nat.reduceEqDiff, beq_self_eq_true, decide_true, decide_false, Int.reduceBEq, Int.reduceLT, Int.reduceLE, cast1, S_eta, hlt2]
 ·intro hlt
  simp (maxSteps := 2000000) (disch := first | assumption | omega) only [SA, SB, SC, SP, SQ, SZ, reduceIte, reduceCtorEq, Nat.reduceAdd, Nat.reduceEqDiff, beq_self_eq_true, decide_true, decide_false, Int.reduceBEq, Int.reduceLT, Int.reduceLE, cast1, S_eta, hlt]
theorem impl_SameOrders (a b : List (List Int)) (n : Int) (rows : List (List TRow)) (hs : smTab rows) (hla : a.length ≤ 10000000000) (hlb : b.length ≤ 10000000000) (hxa : ∀ x ∈ a, x.length ≤ 10000000000) (hxb : ∀ x ∈ b, x.length ≤ 10000000000) :
  Fun T 40 [rL a, rL b, i64 n, rL rows] = some [.bool (ordR a b ⟨n, rows⟩).1, .bool (ordR a b ⟨n, rows⟩).2] := by
 rw [Fun_k (t := tm40) rfl]; unfold tm40; unfold ordR
 cases ht : tabOk ⟨n, rows⟩
 ·simp (maxSteps := 2000000) (disch := first | assumption | omega) only [SA, SB, SC, SP, SQ, SZ, reduceIte, reduceCtorEq, Nat.reduceAdd, Nat.reduceEqDiff, beq_self_eq_true, decide_true, decide_false, Int.reduceBEq, Int.reduceLT, Int.reduceLE, cast1, S_eta, impl_GoodTable, ht, Bool.false_eq_true]
 have hg : isGrp n = true := tabOk_grp ht
 cases ha : instsM n a
 ·simp (maxSteps := 2000000) (disch := first | assumption | omega) only [SA, SB, SC, SP, SQ, SZ, reduceIte, reduceCtorEq, Nat.reduceAdd, Nat.reduceEqDiff, beq_self_eq_true, decide_true, decide_false, Int.reduceBEq, Int.reduceLT, Int.reduceLE, cast1, S_eta, impl_GoodTable, impl_areInstances, ht, ha, Bool.false_eq_true]
 cases hb : instsM n b
 ·simp (maxSteps := 2000000) (disch := first | assumption | omega) only [SA, SB, SC, SP, SQ, SZ, reduceIte, reduceCtorEq, Nat.reduceAdd, Nat.reduceEqDiff, beq_self_eq_true, decide_true, decide_false, Int.reduceBEq, Int.reduceLT, Int.reduceLE, cast1, S_eta, impl_GoodTable, impl_areInstances, ht, ha, hb, Bool.false_eq_true]
 simp (maxSteps := 2000000) (disch := first | assumption | omega) only [SA, SB, SC, SP, SQ, SZ, reduceIte, reduceCtorEq, Nat.reduceAdd, Nat.reduceEqDiff, beq_self_eq_true, decide_true, decide_false, Int.reduceBEq, Int.reduceLT, Int.reduceLE, cast1, S_eta, impl_GoodTable, impl_areInstances, impl_Table_sameOrders, ht, ha, hb]
theorem spec_SameOrders (a b : List (List Int)) (n : Int) (rows : List (List TRow)) (hs : smTab rows) (hla : a.length ≤ 10000000000) (hlb : b.length ≤ 10000000000) (hxa : ∀ x ∈ a, x.length ≤ 10000000000) (hxb : ∀ x ∈ b, x.length ≤ 10000000000) :
  Fun T 16 [rL a, rL b, i64 n, rL rows] = some [.bool (ordR a b ⟨n, rows⟩).1, .bool (ordR a b ⟨n, rows⟩).2] := by
 rw [Fun_k (t := tm16) rfl]; unfold tm16; unfold ordR
 have hlb2 : b.length ≤ 1099511627776 := by omega
 cases ht : tabOk ⟨n, rows⟩
 ·simp (maxSteps := 2000000) (disch := first | assumption | omega) only [SA, SB, SC, SP, SQ, SZ, reduceIte, reduceCtorEq, Nat.reduceAdd, Nat.reduceEqDiff, beq_self_eq_true, decide_true, decide_false, Int.reduceBEq, Int.reduceLT, Int.reduceLE, cast1, S_eta, spec_GoodTable, ht, Bool.false_eq_true]
 have hg : isGrp n = true := tabOk_grp ht
 cases ha : instsM n a
 ·simp (maxSteps := 2000000) (disch := first | assumption | omega) only [SA, SB, SC, SP, SQ, SZ, reduceIte, reduceCtorEq, Nat.reduceAdd, Nat.reduceEqDiff, beq_self_eq_true, decide_true, decide_false, Int.reduceBEq, Int.reduceLT, Int.reduceLE, cast1, S_eta, spec_GoodTable, spec_l6Insts, ht, ha, Bool.false_eq_true]
 cases hb : instsM n b
 ·simp (maxSteps := 2000000) (disch := first | assumption | omega) only [SA, SB, SC, SP, SQ, SZ, reduceIte, reduceCtorEq, Nat.reduceAdd, Nat.reduceEqDiff, beq_self_eq_true, decide_true, decide_false, Int.reduceBEq, Int.reduceLT, Int.reduceLE, cast1, S_eta, spec_GoodTable, spec_l6Insts, ht, ha, hb, Bool.false_eq_true]
 simp (maxSteps := 2000000) (disch := first | assumption | omega) only [SA, SB, SC, SP, SQ, SZ, reduceIte, reduceCtorEq, Nat.reduceAdd, Nat.reduceEqDiff, beq_self_eq_true, decide_true, decide_false, Int.reduceBEq, Int.reduceLT, Int.reduceLE, cast1, S_eta, spec_GoodTable, spec_l6Insts, ht, ha, hb]
 unfold ordM
 rw [scanF 1 a.length (fun i => (a.take i).all fun y => !ordB ⟨n, rows⟩ b (atI a (i : Int)) y) [.bool false, .bool true]]
 ·simp (maxSteps := 2000000) (disch := first | assumption | omega) only [SA, SB, SC, SP, SQ, SZ, reduceIte, reduceCtorEq, Nat.reduceAdd, Nat.reduceEqDiff, beq_self_eq_true, decide_true, decide_false, Int.reduceBEq, Int.reduceLT, Int.reduceLE, cast1, S_eta, *] <;> repeat' (refine fork_eq (fun _ => ?_) (fun _ => ?_) <;> try simp (maxSteps := 2000000) (disch := first | assumption | omega) only [SA, SB, SC, SP, SQ, SZ, reduceIte, reduceCtorEq, Nat.reduceAdd, Nat.reduceEqDiff, beq_self_eq_true, decide_true, decide_false, Int.reduceBEq, Int.reduceLT, Int.reduceLE, cast1, S_eta, *])
 ·intro i hi hlt
  have hbi : InB a (i : Int) := InB_nat.2 hi
  obtain ⟨xl, xi⟩ := instsM_spec ha (at_mem hi)
  have x0 : InB (atI a (i : Int)) 0 := by unfold InB; omega
  have x1 : InB (atI a (i : Int)) 1 := by unfold InB; omega
  have xr := inst_rng xi
  have xb := tabOk_in (t := ⟨n, rows⟩) ht xi
  simp only at xb
  have xc : cmdOk (trow ⟨n, rows⟩ (atI (atI a (i : Int)) 0) (atI (atI a (i : Int)) 1)).cmd = true := rowOk_cmd (trow_ok (t := ⟨n, rows⟩) ht xi)
  have xl2 : (atI a (i : Int)).length ≤ 1099511627776 := by omega
  simp (maxSteps := 2000000) (disch := first | assumption | omega) only [SA, SB, SC, SP, SQ, SZ, reduceIte, reduceCtorEq, Nat.reduceAdd, Nat.reduceEqDiff, beq_self_eq_true, decide_true, decide_false, Int.reduceBEq, Int.reduceLT, Int.reduceLE, cast1, S_eta, S_row, S_sub, hlt, Int.toNat_natCast, Int.toNat_zero, List.drop_zero]
  rw [allF 3 (a.take i) (fun y => !ordB ⟨n, rows⟩ b (atI a (i : Int)) y) [.bool false, .bool true]]
  ·simp (maxSteps := 2000000) (disch := first | assumption | omega) only [SA, SB, SC, SP, SQ, SZ, reduceIte, reduceCtorEq, Nat.reduceAdd, Nat.reduceEqDiff, beq_self_eq_true, decide_true, decide_false, Int.reduceBEq, Int.reduceLT, Int.reduceLE, cast1, S_eta, *] <;> repeat' (refine fork_eq (fun _ => ?_) (fun _ => ?_) <;> try simp (maxSteps := 2000000) (disch := first | assumption | omega) only [SA, SB, SC, SP, SQ, SZ, reduceIte, reduceCtorEq, Nat.reduceAdd, Nat.reduceEqDiff, beq_self_eq_true, decide_true, decide_false, Int.reduceBEq, Int.reduceLT, Int.reduceLE, cast1, S_eta, *])
  ·intro j hj hb2 hlt2 hm
   have hj3 : j < 10000000000 := by rw [List.length_take] at hj; omega
   obtain ⟨yl, yi⟩ := instsM_spec ha (List.mem_of_mem_take hm)
   have y0 : InB (atI (a.take i) (j : Int)) 0 := by unfold InB; omega
   have y1 : InB (atI (a.take i) (j : Int)) 1 := by unfold InB; omega
   have yr := inst_rng yi
   have yb := tabOk_in (t := ⟨n, rows⟩) ht yi
   simp only at yb
   have yc : cmdOk (trow ⟨n, rows⟩ (atI (atI (a.take i) (j : Int)) 0) (atI (atI (a.take i) (j : Int)) 1)).cmd = true := rowOk_cmd (trow_ok (t := ⟨n, rows⟩) ht yi)
   have yl2 : (atI (a.take i) (j : Int)).length ≤ 1099511627776 := by omega
   unfold ordB
   rw [interM_comm]
   generalize h1 : interM (trow ⟨n, rows⟩ (atI (atI (a.take i) (j : Int)) 0) (atI (atI (a.take i) (j : Int)) 1)).cmd (trow ⟨n, rows⟩ (atI (atI a (i : Int)) 0) (atI (atI a (i : Int)) 1)).cmd = q
   simp (maxSteps := 2000000) (disch := first | assumption | omega) only [SA, SB, SC, SP, SQ, SZ, reduceIte, reduceCtorEq, Nat.reduceAdd, Nat.reduceEqDiff, beq_self_eq_true, decide_true, decide_false, Int.reduceBEq, Int.reduceLT, Int.reduceLE, cast1, S_eta, S_row, spec_l6Find, hlt2] <;> repeat' (refine fork_eq (fun _ => ?_) (fun _ => ?_) <;> try simp (maxSteps := 2000000) (disch := first | assumption | omega) only [SA, SB, SC, SP, SQ, SZ, reduceIte, reduceCtorEq, Nat.reduceAdd, Nat.reduceEqDiff, beq_self_eq_true, decide_true, decide_false, Int.reduceBEq, Int.reduceLT, Int.reduceLE, cast1, S_eta, S_row, spec_l4At, spec_l2Interfere, h1, *])
  ·intro hlt2
   simp (maxSteps := 2000000) (disch := first | assumption | omega) only [SA, SB, SC, SP, SQ, SZ, reduceIte, reduceCtorEq, Nat.reduceAdd, Nat.reduceEqDiff, beq_self_eq_true, decide_true, decide_false, Int.reduceBEq, Int.reduceLT, Int.reduceLE, cast1, S_eta, hlt2]
 ·intro hlt
  simp (maxSteps := 2000000) (disch := first | assumption | omega) only [SA, SB, SC, SP, SQ, SZ, reduceIte, reduceCtorEq, Nat.reduceAdd, Nat.reduceEqDiff, beq_self_eq_true, decide_true, decide_false, Int.reduceBEq, Int.reduceLT, Int.reduceLE, cast1, S_eta, hlt]
theorem law (a : (List (List Int))) (b : (List (List Int))) (t_n : Int) (t_rows : (List (List TRow))) (hw_a : a.length ≤ 140737488351232 ∧ ∀ y0 ∈ a, y0.length ≤ 140737488351232) (hw_b : b.length ≤ 140737488351232 ∧ ∀ y0 ∈ b, y0.length ≤ 140737488351232) (hw_t : wf_TTable ⟨t_n, t_rows⟩) : Fun T 0 [rL a, rL b, i64 t_n, rL t_rows] = some [.bool true] := by
 rw [Fun_k (t := tm0) rfl]; unfold tm0
 by_cases c_a : ((szL (szL (fun _ => 0)) a : Nat) : Int) ≤ 1048576
 rotate_left
 ·have e : szR (1048576) (szL (szL (fun _ => 0)) a) = -1 := if_neg c_a
  simp (maxSteps := 2000000) (disch := first | assumption | omega) only [SA, SB, SC, SP, SQ, SZ, reduceIte, reduceCtorEq, Nat.reduceAdd, Nat.reduceEqDiff, beq_self_eq_true, decide_true, decide_false, Int.reduceBEq, Int.reduceLT, Int.reduceLE, cast1, S_eta, lsz_LLI, lsz_TTable, lt0, ltm1, *] <;> repeat' (refine fork_eq (fun _ => ?_) (fun _ => ?_) <;> try simp (maxSteps := 2000000) (disch := first | assumption | omega) only [SA, SB, SC, SP, SQ, SZ, reduceIte, reduceCtorEq, Nat.reduceAdd, Nat.reduceEqDiff, beq_self_eq_true, decide_true, decide_false, Int.reduceBEq, Int.reduceLT, Int.reduceLE, cast1, S_eta, lsz_LLI, lsz_TTable, lt0, ltm1, *])
 have e_a : szR (1048576) (szL (szL (fun _ => 0)) a) = 1048576 - ((szL (szL (fun _ => 0)) a : Nat) : Int) := if_pos c_a
 by_cases c_b : ((szL (szL (fun _ => 0)) b : Nat) : Int) ≤ 1048576 - ((szL (szL (fun _ => 0)) a : Nat) : Int)
 rotate_left
 ·have e : szR (1048576 - ((szL (szL (fun _ => 0)) a : Nat) : Int)) (szL (szL (fun _ => 0)) b) = -1 := if_neg c_b
  simp (maxSteps := 2000000) (disch := first | assumption | omega) only [SA, SB, SC, SP, SQ, SZ, reduceIte, reduceCtorEq, Nat.reduceAdd, Nat.reduceEqDiff, beq_self_eq_true, decide_true, decide_false, Int.reduceBEq, Int.reduceLT, Int.reduceLE, cast1, S_eta, lsz_LLI, lsz_TTable, lt0, ltm1, *] <;> repeat' (refine fork_eq (fun _ => ?_) (fun _ => ?_) <;> try simp (maxSteps := 2000000) (disch := first | assumption | omega) only [SA, SB, SC, SP, SQ, SZ, reduceIte, reduceCtorEq, Nat.reduceAdd, Nat.reduceEqDiff, beq_self_eq_true, decide_true, decide_false, Int.reduceBEq, Int.reduceLT, Int.reduceLE, cast1, S_eta, lsz_LLI, lsz_TTable, lt0, ltm1, *])
 have e_b : szR (1048576 - ((szL (szL (fun _ => 0)) a : Nat) : Int)) (szL (szL (fun _ => 0)) b) = 1048576 - ((szL (szL (fun _ => 0)) a : Nat) : Int) - ((szL (szL (fun _ => 0)) b : Nat) : Int) := if_pos c_b
 by_cases c_t : ((sz_TTable ⟨t_n, t_rows⟩ : Nat) : Int) ≤ 1048576 - ((szL (szL (fun _ => 0)) a : Nat) : Int) - ((szL (szL (fun _ => 0)) b : Nat) : Int)
 rotate_left
 ·have e : szR (1048576 - ((szL (szL (fun _ => 0)) a : Nat) : Int) - ((szL (szL (fun _ => 0)) b : Nat) : Int)) (sz_TTable ⟨t_n, t_rows⟩) = -1 := if_neg c_t
  simp (maxSteps := 2000000) (disch := first | assumption | omega) only [SA, SB, SC, SP, SQ, SZ, reduceIte, reduceCtorEq, Nat.reduceAdd, Nat.reduceEqDiff, beq_self_eq_true, decide_true, decide_false, Int.reduceBEq, Int.reduceLT, Int.reduceLE, cast1, S_eta, lsz_LLI, lsz_TTable, lt0, ltm1, *] <;> repeat' (refine fork_eq (fun _ => ?_) (fun _ => ?_) <;> try simp (maxSteps := 2000000) (disch := first | assumption | omega) only [SA, SB, SC, SP, SQ, SZ, reduceIte, reduceCtorEq, Nat.reduceAdd, Nat.reduceEqDiff, beq_self_eq_true, decide_true, decide_false, Int.reduceBEq, Int.reduceLT, Int.reduceLE, cast1, S_eta, lsz_LLI, lsz_TTable, lt0, ltm1, *])
 have e_t : szR (1048576 - ((szL (szL (fun _ => 0)) a : Nat) : Int) - ((szL (szL (fun _ => 0)) b : Nat) : Int)) (sz_TTable ⟨t_n, t_rows⟩) = 1048576 - ((szL (szL (fun _ => 0)) a : Nat) : Int) - ((szL (szL (fun _ => 0)) b : Nat) : Int) - ((sz_TTable ⟨t_n, t_rows⟩ : Nat) : Int) := if_pos c_t
 have s1_a : szL (szL (fun _ => 0)) a ≤ 1048576 := by omega
 have s2_a : szL (szL (fun _ => 0)) a ≤ 1099511627776 := by omega
 have m1_a : szL (szL (fun _ => 0)) a ≤ 1099511627776 := by omega
 have m2_a : ctL (ctL (fun _ => 1)) a ≤ 1125899906842624 := by have := ctL_le (c := (ctL (fun _ => 1))) (f := (szL (fun _ => 0))) (m := 16) (by omega) (fun xs => Nat.le_trans (ctL_le (c := (fun _ => 1)) (f := (fun _ => 0)) (m := 16) (by omega) (fun _ => by simp) xs) (Nat.le_add_left _ _)) a; omega
 have s1_b : szL (szL (fun _ => 0)) b ≤ 1048576 := by omega
 have s2_b : szL (szL (fun _ => 0)) b ≤ 1099511627776 := by omega
 have m1_b : szL (szL (fun _ => 0)) b ≤ 1099511627776 := by omega
 have m2_b : ctL (ctL (fun _ => 1)) b ≤ 1125899906842624 := by have := ctL_le (c := (ctL (fun _ => 1))) (f := (szL (fun _ => 0))) (m := 16) (by omega) (fun xs => Nat.le_trans (ctL_le (c := (fun _ => 1)) (f := (fun _ => 0)) (m := 16) (by omega) (fun _ => by simp) xs) (Nat.le_add_left _ _)) b; omega
 have s1_t : sz_TTable ⟨t_n, t_rows⟩ ≤ 1048576 := by omega
 have s2_t : sz_TTable ⟨t_n, t_rows⟩ ≤ 1099511627776 := by omega
 have szu_t := s1_t
 rw [szu_TTable] at szu_t
 simp only at szu_t
 have m1_t_rows : szL (szL sz_TRow) t_rows ≤ 1099511627776 := by omega
 have m2_t_rows : ctL (ctL ct_TRow) t_rows ≤ 1125899906842624 := by have := ctL_le (c := (ctL ct_TRow)) (f := (szL sz_TRow)) (m := 16) (by omega) (fun xs => Nat.le_trans (ctL_le (c := ct_TRow) (f := sz_TRow) (m := 16) (by omega) ctb_TRow xs) (Nat.le_add_left _ _)) t_rows; omega
 have s3 : smTab t_rows := smTab_of s1_t
 have a1 : a.length ≤ 10000000000 := by have := szL_len (f := szL fun _ => 0) (xs := a); omega
 have b1 : b.length ≤ 10000000000 := by have := szL_len (f := szL fun _ => 0) (xs := b); omega
 have a2 : ∀ x ∈ a, x.length ≤ 10000000000 := fun x hx => by have h := szL_mem (f := szL fun _ => 0) hx; rw [szL_zero] at h; omega
 have b2 : ∀ x ∈ b, x.length ≤ 10000000000 := fun x hx => by have h := szL_mem (f := szL fun _ => 0) hx; rw [szL_zero] at h; omega
 simp (maxSteps := 2000000) (disch := first | assumption | omega) only [SA, SB, SC, SP, SQ, SZ, reduceIte, reduceCtorEq, Nat.reduceAdd, Nat.reduceEqDiff, beq_self_eq_true, decide_true, decide_false, Int.reduceBEq, Int.reduceLT, Int.reduceLE, cast1, S_eta, lsz_LLI, lsz_TTable, lto_LLI, lto_TTable, spec_SameOrders, impl_SameOrders, leq_LLI, leq_TTable, lt0, ltm1, *] <;> repeat' (refine fork_eq (fun _ => ?_) (fun _ => ?_) <;> try simp (maxSteps := 2000000) (disch := first | assumption | omega) only [SA, SB, SC, SP, SQ, SZ, reduceIte, reduceCtorEq, Nat.reduceAdd, Nat.reduceEqDiff, beq_self_eq_true, decide_true, decide_false, Int.reduceBEq, Int.reduceLT, Int.reduceLE, cast1, S_eta, lsz_LLI, lsz_TTable, lto_LLI, lto_TTable, spec_SameOrders, impl_SameOrders, leq_LLI, leq_TTable, lt0, ltm1, *])
theorem hpure : ∀ ds, WTs [.sl 24 [.sl 8 [.int .i64]], .sl 24 [.sl 8 [.int .i64]], .int .i64, .sl 24 [.sl 96 [.int .i64, .int .i64, .int .i64, .int .i64, .int .i64, .int .i64, .int .i64, .int .i64, .int .i64, .sl 8 [.int .i64]]]] ds → ∃ n, callN T n 0 ds = some [.bool true] := by
 intro ds h
 simp only [WTs] at h
 obtain ⟨d0, r0, rfl, w0, d1, r1, rfl, w1, d2, r2, rfl, w2, d3, r3, rfl, w3, rfl⟩ := h
 obtain ⟨a, e_a, hw_a⟩ := dec_LLI [d0] (by simp only [WTs]; exact ⟨_, _, rfl, w0, rfl⟩)
 simp only [Enc.enc, List.cons.injEq, and_true] at e_a
 subst e_a
 obtain ⟨b, e_b, hw_b⟩ := dec_LLI [d1] (by simp only [WTs]; exact ⟨_, _, rfl, w1, rfl⟩)
 simp only [Enc.enc, List.cons.injEq, and_true] at e_b
 subst e_b
 obtain ⟨t, e_t, hw_t⟩ := dec_TTable [d2, d3] (by simp only [WTs]; exact ⟨_, _, rfl, w2, _, _, rfl, w3, rfl⟩)
 simp only [Enc.enc, List.cons.injEq, and_true] at e_t
 obtain ⟨rfl, rfl⟩ := e_t
 exact pure_of (law a b (t.n) (t.rows) hw_a hw_b hw_t)
end FnExactSameOrders
end Go.Proofs.Ytgbjmmkjlhjbbaa
