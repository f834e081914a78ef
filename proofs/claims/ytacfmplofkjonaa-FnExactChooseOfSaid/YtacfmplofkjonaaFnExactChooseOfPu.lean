/- What the terms of FnExactChooseOf come to. -/
import Derived.Test.YtacfmplofkjonaaFnExactChooseOfTab
namespace Go.Proofs.Ytacfmplofkjonaa
namespace FnExactChooseOf
open Go Go.Proofs.Ytacfmplofkjonaa.Rf
set_option linter.unusedSimpArgs false
set_option linter.unusedVariables false
set_option linter.unnecessarySimpa false
set_option maxHeartbeats 4000000
set_option maxRecDepth 10000
theorem lto_TCmd (x_kind x_id x_src x_dst x_amt : Int) : Fun T 7 [i64 x_kind, i64 x_id, i64 x_src, i64 x_dst, i64 x_amt] = some [i64 x_kind, i64 x_id, i64 x_src, i64 x_dst, i64 x_amt] := by
  rw [Fun_k (t := tm7) rfl]; unfold tm7
  simp (maxSteps := 2000000) (disch := first | assumption | omega) only [SA, SB, SC, SP, SQ, SZ, reduceIte, reduceCtorEq, Nat.reduceAdd, Nat.reduceEqDiff, beq_self_eq_true, decide_true, decide_false, Int.reduceBEq, Int.reduceLT, Int.reduceLE, cast1, S_eta, *] <;> repeat' (refine fork_eq (fun _ => ?_) (fun _ => ?_) <;> try simp (maxSteps := 2000000) (disch := first | assumption | omega) only [SA, SB, SC, SP, SQ, SZ, reduceIte, reduceCtorEq, Nat.reduceAdd, Nat.reduceEqDiff, beq_self_eq_true, decide_true, decide_false, Int.reduceBEq, Int.reduceLT, Int.reduceLE, cast1, S_eta, *])
theorem leq_TCmd (x_kind x_id x_src x_dst x_amt : Int) (y_kind y_id y_src y_dst y_amt : Int) : Fun T 53 [i64 x_kind, i64 x_id, i64 x_src, i64 x_dst, i64 x_amt, i64 y_kind, i64 y_id, i64 y_src, i64 y_dst, i64 y_amt] = some [.bool (decide ((⟨x_kind, x_id, x_src, x_dst, x_amt⟩ : TCmd) = ⟨y_kind, y_id, y_src, y_dst, y_amt⟩))] := by
  rw [Fun_k (t := tm53) rfl]; unfold tm53
  have e : decide ((⟨x_kind, x_id, x_src, x_dst, x_amt⟩ : TCmd) = ⟨y_kind, y_id, y_src, y_dst, y_amt⟩) = ((x_kind == y_kind) && (x_id == y_id) && (x_src == y_src) && (x_dst == y_dst) && (x_amt == y_amt)) := by
    simp only [TCmd.mk.injEq, Bool.beq_eq_decide_eq, Bool.decide_and, Bool.and_assoc]
  rw [e]
  simp (maxSteps := 2000000) (disch := first | assumption | omega) only [SA, SB, SC, SP, SQ, SZ, reduceIte, reduceCtorEq, Nat.reduceAdd, Nat.reduceEqDiff, beq_self_eq_true, decide_true, decide_false, Int.reduceBEq, Int.reduceLT, Int.reduceLE, cast1, S_eta, *] <;> repeat' (refine fork_eq (fun _ => ?_) (fun _ => ?_) <;> try simp (maxSteps := 2000000) (disch := first | assumption | omega) only [SA, SB, SC, SP, SQ, SZ, reduceIte, reduceCtorEq, Nat.reduceAdd, Nat.reduceEqDiff, beq_self_eq_true, decide_true, decide_false, Int.reduceBEq, Int.reduceLT, Int.reduceLE, cast1, S_eta, *])
theorem lsz_LI (xs : (List Int)) (l : Int) (h0 : 0 ≤ l) (h1 : l ≤ 1048576) (hw : xs.length ≤ 140737488351232) : Fun T 4 [rL xs, i64 l] = some [i64 (szR l (szL (fun _ => 0) xs))] := by
  rw [Fun_k (t := tm4) rfl]; unfold tm4
  have es : szL (fun _ => 0) xs = xs.length := szL_zero
  rw [es]
  by_cases c : (xs.length : Int) ≤ l
  · have e : szR l xs.length = l - xs.length := if_pos c
    have d : decide (l - (xs.length : Int) < 0) = false := by simp; omega
    simp (maxSteps := 2000000) (disch := first | assumption | omega) only [SA, SB, SC, SP, SQ, SZ, reduceIte, reduceCtorEq, Nat.reduceAdd, Nat.reduceEqDiff, beq_self_eq_true, decide_true, decide_false, Int.reduceBEq, Int.reduceLT, Int.reduceLE, cast1, S_eta, *] <;> repeat' (refine fork_eq (fun _ => ?_) (fun _ => ?_) <;> try simp (maxSteps := 2000000) (disch := first | assumption | omega) only [SA, SB, SC, SP, SQ, SZ, reduceIte, reduceCtorEq, Nat.reduceAdd, Nat.reduceEqDiff, beq_self_eq_true, decide_true, decide_false, Int.reduceBEq, Int.reduceLT, Int.reduceLE, cast1, S_eta, *])
  · have e : szR l xs.length = -1 := if_neg c
    have d : decide (l - (xs.length : Int) < 0) = true := by simp; omega
    simp (maxSteps := 2000000) (disch := first | assumption | omega) only [SA, SB, SC, SP, SQ, SZ, reduceIte, reduceCtorEq, Nat.reduceAdd, Nat.reduceEqDiff, beq_self_eq_true, decide_true, decide_false, Int.reduceBEq, Int.reduceLT, Int.reduceLE, cast1, S_eta, *] <;> repeat' (refine fork_eq (fun _ => ?_) (fun _ => ?_) <;> try simp (maxSteps := 2000000) (disch := first | assumption | omega) only [SA, SB, SC, SP, SQ, SZ, reduceIte, reduceCtorEq, Nat.reduceAdd, Nat.reduceEqDiff, beq_self_eq_true, decide_true, decide_false, Int.reduceBEq, Int.reduceLT, Int.reduceLE, cast1, S_eta, *])
theorem lto_LI (xs : (List Int)) (hs : szL (fun _ => 0) xs ≤ 1048576) : Fun T 9 [rL xs] = some [rL xs] := by
  rw [Fun_k (t := tm9) rfl]; unfold tm9
  have hl : xs.length ≤ 1048576 := Nat.le_trans szL_len hs
  simp (maxSteps := 2000000) (disch := first | assumption | omega) only [SA, SB, SC, SP, SQ, SZ, reduceIte, reduceCtorEq, Nat.reduceAdd, Nat.reduceEqDiff, beq_self_eq_true, decide_true, decide_false, Int.reduceBEq, Int.reduceLT, Int.reduceLE, cast1, S_eta, S_make, Int.toNat_natCast, *]
  rw [toLoop xs rfl]
  · simp (maxSteps := 2000000) (disch := first | assumption | omega) only [SA, SB, SC, SP, SQ, SZ, reduceIte, reduceCtorEq, Nat.reduceAdd, Nat.reduceEqDiff, beq_self_eq_true, decide_true, decide_false, Int.reduceBEq, Int.reduceLT, Int.reduceLE, cast1, S_eta, *] <;> repeat' (refine fork_eq (fun _ => ?_) (fun _ => ?_) <;> try simp (maxSteps := 2000000) (disch := first | assumption | omega) only [SA, SB, SC, SP, SQ, SZ, reduceIte, reduceCtorEq, Nat.reduceAdd, Nat.reduceEqDiff, beq_self_eq_true, decide_true, decide_false, Int.reduceBEq, Int.reduceLT, Int.reduceLE, cast1, S_eta, *])
  · intro i ys hi hb hb' hl'
    simp (maxSteps := 2000000) (disch := first | assumption | omega) only [SA, SB, SC, SP, SQ, SZ, reduceIte, reduceCtorEq, Nat.reduceAdd, Nat.reduceEqDiff, beq_self_eq_true, decide_true, decide_false, Int.reduceBEq, Int.reduceLT, Int.reduceLE, cast1, S_eta, S_row, S_set, *] <;> repeat' (refine fork_eq (fun _ => ?_) (fun _ => ?_) <;> try simp (maxSteps := 2000000) (disch := first | assumption | omega) only [SA, SB, SC, SP, SQ, SZ, reduceIte, reduceCtorEq, Nat.reduceAdd, Nat.reduceEqDiff, beq_self_eq_true, decide_true, decide_false, Int.reduceBEq, Int.reduceLT, Int.reduceLE, cast1, S_eta, S_row, S_set, *])
  · intro ys hl'
    simp (maxSteps := 2000000) (disch := first | assumption | omega) only [SA, SB, SC, SP, SQ, SZ, reduceIte, reduceCtorEq, Nat.reduceAdd, Nat.reduceEqDiff, beq_self_eq_true, decide_true, decide_false, Int.reduceBEq, Int.reduceLT, Int.reduceLE, cast1, S_eta, *] <;> repeat' (refine fork_eq (fun _ => ?_) (fun _ => ?_) <;> try simp (maxSteps := 2000000) (disch := first | assumption | omega) only [SA, SB, SC, SP, SQ, SZ, reduceIte, reduceCtorEq, Nat.reduceAdd, Nat.reduceEqDiff, beq_self_eq_true, decide_true, decide_false, Int.reduceBEq, Int.reduceLT, Int.reduceLE, cast1, S_eta, *])
theorem leq_LI (xs ys : (List Int)) (hs : szL (fun _ => 0) xs ≤ 1099511627776) : Fun T 55 [rL xs, rL ys] = some [.bool (decide (xs = ys))] := by
  rw [Fun_k (t := tm55) rfl]; unfold tm55
  have hx : xs.length ≤ 1099511627776 := Nat.le_trans szL_len hs
  by_cases hl : ys.length = xs.length
  · simp (maxSteps := 2000000) (disch := first | assumption | omega) only [SA, SB, SC, SP, SQ, SZ, reduceIte, reduceCtorEq, Nat.reduceAdd, Nat.reduceEqDiff, beq_self_eq_true, decide_true, decide_false, Int.reduceBEq, Int.reduceLT, Int.reduceLE, cast1, S_eta, *]
    rw [scanX 1 xs.length (fun i => decide (atI xs i = atI ys i)) [.bool false], allB_eq hl.symm]
    · simp (maxSteps := 2000000) (disch := first | assumption | omega) only [SA, SB, SC, SP, SQ, SZ, reduceIte, reduceCtorEq, Nat.reduceAdd, Nat.reduceEqDiff, beq_self_eq_true, decide_true, decide_false, Int.reduceBEq, Int.reduceLT, Int.reduceLE, cast1, S_eta, *] <;> repeat' (refine fork_eq (fun _ => ?_) (fun _ => ?_) <;> try simp (maxSteps := 2000000) (disch := first | assumption | omega) only [SA, SB, SC, SP, SQ, SZ, reduceIte, reduceCtorEq, Nat.reduceAdd, Nat.reduceEqDiff, beq_self_eq_true, decide_true, decide_false, Int.reduceBEq, Int.reduceLT, Int.reduceLE, cast1, S_eta, *])
    · intro i hi hp
      have hb : InB xs (i : Int) := InB_nat.2 hi
      have hb' : InB ys (i : Int) := InB_nat.2 (by omega)
      have h2 : decide ((i : Int) < xs.length) = true := by simp; omega
      have h3 : (atI xs i == atI ys i) = true := by simpa using hp
      simp (maxSteps := 2000000) (disch := first | assumption | omega) only [SA, SB, SC, SP, SQ, SZ, reduceIte, reduceCtorEq, Nat.reduceAdd, Nat.reduceEqDiff, beq_self_eq_true, decide_true, decide_false, Int.reduceBEq, Int.reduceLT, Int.reduceLE, cast1, S_eta, S_row, *] <;> repeat' (refine fork_eq (fun _ => ?_) (fun _ => ?_) <;> try simp (maxSteps := 2000000) (disch := first | assumption | omega) only [SA, SB, SC, SP, SQ, SZ, reduceIte, reduceCtorEq, Nat.reduceAdd, Nat.reduceEqDiff, beq_self_eq_true, decide_true, decide_false, Int.reduceBEq, Int.reduceLT, Int.reduceLE, cast1, S_eta, S_row, *])
    · intro i hi hp
      have hb : InB xs (i : Int) := InB_nat.2 hi
      have hb' : InB ys (i : Int) := InB_nat.2 (by omega)
      have h2 : decide ((i : Int) < xs.length) = true := by simp; omega
      have h3 : (atI xs i == atI ys i) = false := by simpa using hp
      simp (maxSteps := 2000000) (disch := first | assumption | omega) only [SA, SB, SC, SP, SQ, SZ, reduceIte, reduceCtorEq, Nat.reduceAdd, Nat.reduceEqDiff, beq_self_eq_true, decide_true, decide_false, Int.reduceBEq, Int.reduceLT, Int.reduceLE, cast1, S_eta, S_row, *] <;> repeat' (refine fork_eq (fun _ => ?_) (fun _ => ?_) <;> try simp (maxSteps := 2000000) (disch := first | assumption | omega) only [SA, SB, SC, SP, SQ, SZ, reduceIte, reduceCtorEq, Nat.reduceAdd, Nat.reduceEqDiff, beq_self_eq_true, decide_true, decide_false, Int.reduceBEq, Int.reduceLT, Int.reduceLE, cast1, S_eta, S_row, *])
    · have h2 : decide ((xs.length : Int) < xs.length) = false := by simp
      simp (maxSteps := 2000000) (disch := first | assumption | omega) only [SA, SB, SC, SP, SQ, SZ, reduceIte, reduceCtorEq, Nat.reduceAdd, Nat.reduceEqDiff, beq_self_eq_true, decide_true, decide_false, Int.reduceBEq, Int.reduceLT, Int.reduceLE, cast1, S_eta, *] <;> repeat' (refine fork_eq (fun _ => ?_) (fun _ => ?_) <;> try simp (maxSteps := 2000000) (disch := first | assumption | omega) only [SA, SB, SC, SP, SQ, SZ, reduceIte, reduceCtorEq, Nat.reduceAdd, Nat.reduceEqDiff, beq_self_eq_true, decide_true, decide_false, Int.reduceBEq, Int.reduceLT, Int.reduceLE, cast1, S_eta, *])
  · have hl' : ((xs.length : Int) == (ys.length : Int)) = false := by simp; omega
    have e := eq_len (fun h => hl h.symm)
    simp (maxSteps := 2000000) (disch := first | assumption | omega) only [SA, SB, SC, SP, SQ, SZ, reduceIte, reduceCtorEq, Nat.reduceAdd, Nat.reduceEqDiff, beq_self_eq_true, decide_true, decide_false, Int.reduceBEq, Int.reduceLT, Int.reduceLE, cast1, S_eta, *] <;> repeat' (refine fork_eq (fun _ => ?_) (fun _ => ?_) <;> try simp (maxSteps := 2000000) (disch := first | assumption | omega) only [SA, SB, SC, SP, SQ, SZ, reduceIte, reduceCtorEq, Nat.reduceAdd, Nat.reduceEqDiff, beq_self_eq_true, decide_true, decide_false, Int.reduceBEq, Int.reduceLT, Int.reduceLE, cast1, S_eta, *])
theorem lmk_LI (xs : (List Int)) (k : Int) (hk : 0 ≤ k) (hb : k + (ctL (fun _ => 1) xs : Nat) ≤ 1152921504606846976) (hl : xs.length ≤ 1099511627776) : Fun T 59 [rL xs, i64 k] = some [i64 (k + (ctL (fun _ => 1) xs : Nat)), rL (mkL (fun _ => 1) (fun _ k => k) xs k)] := by
  rw [Fun_k (t := tm59) rfl]; unfold tm59
  have hx : xs.length ≤ 1099511627776 := hl
  simp (maxSteps := 2000000) (disch := first | assumption | omega) only [SA, SB, SC, SP, SQ, SZ, reduceIte, reduceCtorEq, Nat.reduceAdd, Nat.reduceEqDiff, beq_self_eq_true, decide_true, decide_false, Int.reduceBEq, Int.reduceLT, Int.reduceLE, cast1, S_eta, *]
  rw [markLoop xs (fun _ => 1) (fun _ k => k) k rfl rfl rfl hk hb ?_ ?_ (by omega)]
  · simp (maxSteps := 2000000) (disch := first | assumption | omega) only [SA, SB, SC, SP, SQ, SZ, reduceIte, reduceCtorEq, Nat.reduceAdd, Nat.reduceEqDiff, beq_self_eq_true, decide_true, decide_false, Int.reduceBEq, Int.reduceLT, Int.reduceLE, cast1, S_eta, *] <;> repeat' (refine fork_eq (fun _ => ?_) (fun _ => ?_) <;> try simp (maxSteps := 2000000) (disch := first | assumption | omega) only [SA, SB, SC, SP, SQ, SZ, reduceIte, reduceCtorEq, Nat.reduceAdd, Nat.reduceEqDiff, beq_self_eq_true, decide_true, decide_false, Int.reduceBEq, Int.reduceLT, Int.reduceLE, cast1, S_eta, *])
  · intro i ys m hi hy hb hlt hat hm hc hlen
    have hc' : m + 1 ≤ 1152921504606846976 := hc
    simp (maxSteps := 2000000) (disch := first | assumption | omega | (simp only [S_upd]; assumption)) only [SA, SB, SC, SP, SQ, SZ, reduceIte, reduceCtorEq, Nat.reduceAdd, Nat.reduceEqDiff, beq_self_eq_true, decide_true, decide_false, Int.reduceBEq, Int.reduceLT, Int.reduceLE, cast1, S_eta, S_row, S_set, S_upd, *] <;> repeat' (refine fork_eq (fun _ => ?_) (fun _ => ?_) <;> try simp (maxSteps := 2000000) (disch := first | assumption | omega | (simp only [S_upd]; assumption)) only [SA, SB, SC, SP, SQ, SZ, reduceIte, reduceCtorEq, Nat.reduceAdd, Nat.reduceEqDiff, beq_self_eq_true, decide_true, decide_false, Int.reduceBEq, Int.reduceLT, Int.reduceLE, cast1, S_eta, S_row, S_set, S_upd, *])
    rfl
  · intro ys m hy hlt
    simp (maxSteps := 2000000) (disch := first | assumption | omega) only [SA, SB, SC, SP, SQ, SZ, reduceIte, reduceCtorEq, Nat.reduceAdd, Nat.reduceEqDiff, beq_self_eq_true, decide_true, decide_false, Int.reduceBEq, Int.reduceLT, Int.reduceLE, cast1, S_eta, *] <;> repeat' (refine fork_eq (fun _ => ?_) (fun _ => ?_) <;> try simp (maxSteps := 2000000) (disch := first | assumption | omega) only [SA, SB, SC, SP, SQ, SZ, reduceIte, reduceCtorEq, Nat.reduceAdd, Nat.reduceEqDiff, beq_self_eq_true, decide_true, decide_false, Int.reduceBEq, Int.reduceLT, Int.reduceLE, cast1, S_eta, *])
theorem lhd_LI (xs : (List Int)) (k : Int) (hk : 0 ≤ k) (hb : k + (ctL (fun _ => 1) xs : Nat) ≤ 1152921504606846976) (hl : xs.length ≤ 1099511627776) : Fun T 62 [rL (mkL (fun _ => 1) (fun _ k => k) xs k), i64 k] = some [i64 (k + (ctL (fun _ => 1) xs : Nat))] := by
  rw [Fun_k (t := tm62) rfl]; unfold tm62
  have hx : xs.length ≤ 1099511627776 := hl
  simp (maxSteps := 2000000) (disch := first | assumption | omega) only [SA, SB, SC, SP, SQ, SZ, reduceIte, reduceCtorEq, Nat.reduceAdd, Nat.reduceEqDiff, beq_self_eq_true, decide_true, decide_false, Int.reduceBEq, Int.reduceLT, Int.reduceLE, cast1, S_eta, *]
  rw [heldLoop xs (fun _ => 1) (fun _ k => k) k rfl hk hb (by omega)]
  · simp (maxSteps := 2000000) (disch := first | assumption | omega) only [SA, SB, SC, SP, SQ, SZ, reduceIte, reduceCtorEq, Nat.reduceAdd, Nat.reduceEqDiff, beq_self_eq_true, decide_true, decide_false, Int.reduceBEq, Int.reduceLT, Int.reduceLE, cast1, S_eta, *] <;> repeat' (refine fork_eq (fun _ => ?_) (fun _ => ?_) <;> try simp (maxSteps := 2000000) (disch := first | assumption | omega) only [SA, SB, SC, SP, SQ, SZ, reduceIte, reduceCtorEq, Nat.reduceAdd, Nat.reduceEqDiff, beq_self_eq_true, decide_true, decide_false, Int.reduceBEq, Int.reduceLT, Int.reduceLE, cast1, S_eta, *])
  · intro i m hi hb hy hlt hat hm hc hlen
    have hc' : m + 1 ≤ 1152921504606846976 := hc
    simp (maxSteps := 2000000) (disch := first | assumption | omega) only [SA, SB, SC, SP, SQ, SZ, reduceIte, reduceCtorEq, Nat.reduceAdd, Nat.reduceEqDiff, beq_self_eq_true, decide_true, decide_false, Int.reduceBEq, Int.reduceLT, Int.reduceLE, cast1, S_eta, S_row, *] <;> repeat' (refine fork_eq (fun _ => ?_) (fun _ => ?_) <;> try simp (maxSteps := 2000000) (disch := first | assumption | omega) only [SA, SB, SC, SP, SQ, SZ, reduceIte, reduceCtorEq, Nat.reduceAdd, Nat.reduceEqDiff, beq_self_eq_true, decide_true, decide_false, Int.reduceBEq, Int.reduceLT, Int.reduceLE, cast1, S_eta, S_row, *])
    rfl
  · intro m hy hlt
    simp (maxSteps := 2000000) (disch := first | assumption | omega) only [SA, SB, SC, SP, SQ, SZ, reduceIte, reduceCtorEq, Nat.reduceAdd, Nat.reduceEqDiff, beq_self_eq_true, decide_true, decide_false, Int.reduceBEq, Int.reduceLT, Int.reduceLE, cast1, S_eta, *] <;> repeat' (refine fork_eq (fun _ => ?_) (fun _ => ?_) <;> try simp (maxSteps := 2000000) (disch := first | assumption | omega) only [SA, SB, SC, SP, SQ, SZ, reduceIte, reduceCtorEq, Nat.reduceAdd, Nat.reduceEqDiff, beq_self_eq_true, decide_true, decide_false, Int.reduceBEq, Int.reduceLT, Int.reduceLE, cast1, S_eta, *])
theorem lsz_TAttr (x_seq : Int) (x_deps : (List Int)) (l : Int) (h0 : 0 ≤ l) (h1 : l ≤ 1048576) (hw : wf_TAttr ⟨x_seq, x_deps⟩) : Fun T 3 [i64 x_seq, rL x_deps, i64 l] = some [i64 (szR l (sz_TAttr ⟨x_seq, x_deps⟩))] := by
  rw [Fun_k (t := tm3) rfl]; unfold tm3
  unfold wf_TAttr at hw
  simp only at hw
  have w0 := hw
  by_cases c0 : ((szL (fun _ => 0) x_deps : Nat) : Int) ≤ l
  rotate_left
  · have e0 : szR (l) (szL (fun _ => 0) x_deps) = -1 := if_neg c0
    have d0 : decide ((-1 : Int) < 0) = true := rfl
    have e : szR l (sz_TAttr ⟨x_seq, x_deps⟩) = -1 := by unfold szR sz_TAttr; simp only []; split <;> omega
    simp (maxSteps := 2000000) (disch := first | assumption | omega) only [SA, SB, SC, SP, SQ, SZ, reduceIte, reduceCtorEq, Nat.reduceAdd, Nat.reduceEqDiff, beq_self_eq_true, decide_true, decide_false, Int.reduceBEq, Int.reduceLT, Int.reduceLE, cast1, S_eta, lsz_LI, *] <;> repeat' (refine fork_eq (fun _ => ?_) (fun _ => ?_) <;> try simp (maxSteps := 2000000) (disch := first | assumption | omega) only [SA, SB, SC, SP, SQ, SZ, reduceIte, reduceCtorEq, Nat.reduceAdd, Nat.reduceEqDiff, beq_self_eq_true, decide_true, decide_false, Int.reduceBEq, Int.reduceLT, Int.reduceLE, cast1, S_eta, lsz_LI, *])
  have e0 : szR (l) (szL (fun _ => 0) x_deps) = l - (szL (fun _ => 0) x_deps : Nat) := if_pos c0
  have d0 : decide (l - ((szL (fun _ => 0) x_deps : Nat) : Int) < 0) = false := by simp; omega
  have e : szR l (sz_TAttr ⟨x_seq, x_deps⟩) = l - ((szL (fun _ => 0) x_deps : Nat) : Int) := by unfold szR sz_TAttr; simp only []; split <;> omega
  simp (maxSteps := 2000000) (disch := first | assumption | omega) only [SA, SB, SC, SP, SQ, SZ, reduceIte, reduceCtorEq, Nat.reduceAdd, Nat.reduceEqDiff, beq_self_eq_true, decide_true, decide_false, Int.reduceBEq, Int.reduceLT, Int.reduceLE, cast1, S_eta, lsz_LI, *] <;> repeat' (refine fork_eq (fun _ => ?_) (fun _ => ?_) <;> try simp (maxSteps := 2000000) (disch := first | assumption | omega) only [SA, SB, SC, SP, SQ, SZ, reduceIte, reduceCtorEq, Nat.reduceAdd, Nat.reduceEqDiff, beq_self_eq_true, decide_true, decide_false, Int.reduceBEq, Int.reduceLT, Int.reduceLE, cast1, S_eta, lsz_LI, *])
theorem lto_TAttr (x_seq : Int) (x_deps : (List Int)) (hs : sz_TAttr ⟨x_seq, x_deps⟩ ≤ 1048576) : Fun T 8 [i64 x_seq, rL x_deps] = some [i64 x_seq, rL x_deps] := by
  rw [Fun_k (t := tm8) rfl]; unfold tm8
  unfold sz_TAttr at hs
  simp only at hs
  have s0 : szL (fun _ => 0) x_deps ≤ 1048576 := by omega
  simp (maxSteps := 2000000) (disch := first | assumption | omega) only [SA, SB, SC, SP, SQ, SZ, reduceIte, reduceCtorEq, Nat.reduceAdd, Nat.reduceEqDiff, beq_self_eq_true, decide_true, decide_false, Int.reduceBEq, Int.reduceLT, Int.reduceLE, cast1, S_eta, lto_LI, *] <;> repeat' (refine fork_eq (fun _ => ?_) (fun _ => ?_) <;> try simp (maxSteps := 2000000) (disch := first | assumption | omega) only [SA, SB, SC, SP, SQ, SZ, reduceIte, reduceCtorEq, Nat.reduceAdd, Nat.reduceEqDiff, beq_self_eq_true, decide_true, decide_false, Int.reduceBEq, Int.reduceLT, Int.reduceLE, cast1, S_eta, lto_LI, *])
theorem leq_TAttr (x_seq : Int) (x_deps : (List Int)) (y_seq : Int) (y_deps : (List Int)) (hs : sz_TAttr ⟨x_seq, x_deps⟩ ≤ 1099511627776) : Fun T 54 [i64 x_seq, rL x_deps, i64 y_seq, rL y_deps] = some [.bool (decide ((⟨x_seq, x_deps⟩ : TAttr) = ⟨y_seq, y_deps⟩))] := by
  rw [Fun_k (t := tm54) rfl]; unfold tm54
  unfold sz_TAttr at hs
  simp only at hs
  have s0 : szL (fun _ => 0) x_deps ≤ 1099511627776 := by omega
  have e : decide ((⟨x_seq, x_deps⟩ : TAttr) = ⟨y_seq, y_deps⟩) = ((x_seq == y_seq) && decide ((x_deps : (List Int)) = y_deps)) := by
    simp only [TAttr.mk.injEq, Bool.beq_eq_decide_eq, Bool.decide_and, Bool.and_assoc]
  rw [e]
  simp (maxSteps := 2000000) (disch := first | assumption | omega) only [SA, SB, SC, SP, SQ, SZ, reduceIte, reduceCtorEq, Nat.reduceAdd, Nat.reduceEqDiff, beq_self_eq_true, decide_true, decide_false, Int.reduceBEq, Int.reduceLT, Int.reduceLE, cast1, S_eta, leq_LI, *] <;> repeat' (refine fork_eq (fun _ => ?_) (fun _ => ?_) <;> try simp (maxSteps := 2000000) (disch := first | assumption | omega) only [SA, SB, SC, SP, SQ, SZ, reduceIte, reduceCtorEq, Nat.reduceAdd, Nat.reduceEqDiff, beq_self_eq_true, decide_true, decide_false, Int.reduceBEq, Int.reduceLT, Int.reduceLE, cast1, S_eta, leq_LI, *])
theorem lmk_TAttr (x_seq : Int) (x_deps : (List Int)) (k : Int) (hk : 0 ≤ k) (hb : k + (ctL (fun _ => 1) x_deps : Nat) ≤ 1152921504606846976) (hl0 : x_deps.length ≤ 1099511627776) : Fun T 60 [i64 x_seq, rL x_deps, i64 k] = some [i64 (k + (ctL (fun _ => 1) x_deps : Nat)), rL (mkL (fun _ => 1) (fun _ k => k) x_deps (k))] := by
  rw [Fun_k (t := tm60) rfl]; unfold tm60
  simp (maxSteps := 2000000) (disch := first | assumption | omega) only [SA, SB, SC, SP, SQ, SZ, reduceIte, reduceCtorEq, Nat.reduceAdd, Nat.reduceEqDiff, beq_self_eq_true, decide_true, decide_false, Int.reduceBEq, Int.reduceLT, Int.reduceLE, cast1, S_eta, lmk_LI, *] <;> repeat' (refine fork_eq (fun _ => ?_) (fun _ => ?_) <;> try simp (maxSteps := 2000000) (disch := first | assumption | omega) only [SA, SB, SC, SP, SQ, SZ, reduceIte, reduceCtorEq, Nat.reduceAdd, Nat.reduceEqDiff, beq_self_eq_true, decide_true, decide_false, Int.reduceBEq, Int.reduceLT, Int.reduceLE, cast1, S_eta, lmk_LI, *])
theorem lhd_TAttr (x_seq : Int) (x_deps : (List Int)) (k : Int) (hk : 0 ≤ k) (hb : k + (ctL (fun _ => 1) x_deps : Nat) ≤ 1152921504606846976) (hl0 : x_deps.length ≤ 1099511627776) : Fun T 61 [i64 x_seq, rL (mkL (fun _ => 1) (fun _ k => k) x_deps (k)), i64 k] = some [i64 (k + (ctL (fun _ => 1) x_deps : Nat))] := by
  rw [Fun_k (t := tm61) rfl]; unfold tm61
  have z1 : decide (k + (ctL (fun _ => 1) x_deps : Nat) < 0) = false := by simp; omega
  simp (maxSteps := 2000000) (disch := first | assumption | omega) only [SA, SB, SC, SP, SQ, SZ, reduceIte, reduceCtorEq, Nat.reduceAdd, Nat.reduceEqDiff, beq_self_eq_true, decide_true, decide_false, Int.reduceBEq, Int.reduceLT, Int.reduceLE, cast1, S_eta, lhd_LI, *] <;> repeat' (refine fork_eq (fun _ => ?_) (fun _ => ?_) <;> try simp (maxSteps := 2000000) (disch := first | assumption | omega) only [SA, SB, SC, SP, SQ, SZ, reduceIte, reduceCtorEq, Nat.reduceAdd, Nat.reduceEqDiff, beq_self_eq_true, decide_true, decide_false, Int.reduceBEq, Int.reduceLT, Int.reduceLE, cast1, S_eta, lhd_LI, *])
theorem lsz_TRow (x_ballot x_vote x_state x_cmd_kind x_cmd_id x_cmd_src x_cmd_dst x_cmd_amt x_attr_seq : Int) (x_attr_deps : (List Int)) (l : Int) (h0 : 0 ≤ l) (h1 : l ≤ 1048576) (hw : wf_TRow ⟨x_ballot, x_vote, x_state, ⟨x_cmd_kind, x_cmd_id, x_cmd_src, x_cmd_dst, x_cmd_amt⟩, ⟨x_attr_seq, x_attr_deps⟩⟩) : Fun T 2 [i64 x_ballot, i64 x_vote, i64 x_state, i64 x_cmd_kind, i64 x_cmd_id, i64 x_cmd_src, i64 x_cmd_dst, i64 x_cmd_amt, i64 x_attr_seq, rL x_attr_deps, i64 l] = some [i64 (szR l (sz_TRow ⟨x_ballot, x_vote, x_state, ⟨x_cmd_kind, x_cmd_id, x_cmd_src, x_cmd_dst, x_cmd_amt⟩, ⟨x_attr_seq, x_attr_deps⟩⟩))] := by
  rw [Fun_k (t := tm2) rfl]; unfold tm2
  unfold wf_TRow at hw
  simp only at hw
  have w0 := hw
  by_cases c0 : ((sz_TAttr ⟨x_attr_seq, x_attr_deps⟩ : Nat) : Int) ≤ l
  rotate_left
  · have e0 : szR (l) (sz_TAttr ⟨x_attr_seq, x_attr_deps⟩) = -1 := if_neg c0
    have d0 : decide ((-1 : Int) < 0) = true := rfl
    have e : szR l (sz_TRow ⟨x_ballot, x_vote, x_state, ⟨x_cmd_kind, x_cmd_id, x_cmd_src, x_cmd_dst, x_cmd_amt⟩, ⟨x_attr_seq, x_attr_deps⟩⟩) = -1 := by unfold szR sz_TRow; simp only []; split <;> omega
    simp (maxSteps := 2000000) (disch := first | assumption | omega) only [SA, SB, SC, SP, SQ, SZ, reduceIte, reduceCtorEq, Nat.reduceAdd, Nat.reduceEqDiff, beq_self_eq_true, decide_true, decide_false, Int.reduceBEq, Int.reduceLT, Int.reduceLE, cast1, S_eta, lsz_TAttr, *] <;> repeat' (refine fork_eq (fun _ => ?_) (fun _ => ?_) <;> try simp (maxSteps := 2000000) (disch := first | assumption | omega) only [SA, SB, SC, SP, SQ, SZ, reduceIte, reduceCtorEq, Nat.reduceAdd, Nat.reduceEqDiff, beq_self_eq_true, decide_true, decide_false, Int.reduceBEq, Int.reduceLT, Int.reduceLE, cast1, S_eta, lsz_TAttr, *])
  have e0 : szR (l) (sz_TAttr ⟨x_attr_seq, x_attr_deps⟩) = l - (sz_TAttr ⟨x_attr_seq, x_attr_deps⟩ : Nat) := if_pos c0
  have d0 : decide (l - ((sz_TAttr ⟨x_attr_seq, x_attr_deps⟩ : Nat) : Int) < 0) = false := by simp; omega
  have e : szR l (sz_TRow ⟨x_ballot, x_vote, x_state, ⟨x_cmd_kind, x_cmd_id, x_cmd_src, x_cmd_dst, x_cmd_amt⟩, ⟨x_attr_seq, x_attr_deps⟩⟩) = l - ((sz_TAttr ⟨x_attr_seq, x_attr_deps⟩ : Nat) : Int) := by unfold szR sz_TRow; simp only []; split <;> omega
  simp (maxSteps := 2000000) (disch := first | assumption | omega) only [SA, SB, SC, SP, SQ, SZ, reduceIte, reduceCtorEq, Nat.reduceAdd, Nat.reduceEqDiff, beq_self_eq_true, decide_true, decide_false, Int.reduceBEq, Int.reduceLT, Int.reduceLE, cast1, S_eta, lsz_TAttr, *] <;> repeat' (refine fork_eq (fun _ => ?_) (fun _ => ?_) <;> try simp (maxSteps := 2000000) (disch := first | assumption | omega) only [SA, SB, SC, SP, SQ, SZ, reduceIte, reduceCtorEq, Nat.reduceAdd, Nat.reduceEqDiff, beq_self_eq_true, decide_true, decide_false, Int.reduceBEq, Int.reduceLT, Int.reduceLE, cast1, S_eta, lsz_TAttr, *])
theorem lto_TRow (x_ballot x_vote x_state x_cmd_kind x_cmd_id x_cmd_src x_cmd_dst x_cmd_amt x_attr_seq : Int) (x_attr_deps : (List Int)) (hs : sz_TRow ⟨x_ballot, x_vote, x_state, ⟨x_cmd_kind, x_cmd_id, x_cmd_src, x_cmd_dst, x_cmd_amt⟩, ⟨x_attr_seq, x_attr_deps⟩⟩ ≤ 1048576) : Fun T 6 [i64 x_ballot, i64 x_vote, i64 x_state, i64 x_cmd_kind, i64 x_cmd_id, i64 x_cmd_src, i64 x_cmd_dst, i64 x_cmd_amt, i64 x_attr_seq, rL x_attr_deps] = some [i64 x_ballot, i64 x_vote, i64 x_state, i64 x_cmd_kind, i64 x_cmd_id, i64 x_cmd_src, i64 x_cmd_dst, i64 x_cmd_amt, i64 x_attr_seq, rL x_attr_deps] := by
  rw [Fun_k (t := tm6) rfl]; unfold tm6
  unfold sz_TRow at hs
  simp only at hs
  have s0 : sz_TAttr ⟨x_attr_seq, x_attr_deps⟩ ≤ 1048576 := by omega
  simp (maxSteps := 2000000) (disch := first | assumption | omega) only [SA, SB, SC, SP, SQ, SZ, reduceIte, reduceCtorEq, Nat.reduceAdd, Nat.reduceEqDiff, beq_self_eq_true, decide_true, decide_false, Int.reduceBEq, Int.reduceLT, Int.reduceLE, cast1, S_eta, lto_TCmd, lto_TAttr, *] <;> repeat' (refine fork_eq (fun _ => ?_) (fun _ => ?_) <;> try simp (maxSteps := 2000000) (disch := first | assumption | omega) only [SA, SB, SC, SP, SQ, SZ, reduceIte, reduceCtorEq, Nat.reduceAdd, Nat.reduceEqDiff, beq_self_eq_true, decide_true, decide_false, Int.reduceBEq, Int.reduceLT, Int.reduceLE, cast1, S_eta, lto_TCmd, lto_TAttr, *])
theorem leq_TRow (x_ballot x_vote x_state x_cmd_kind x_cmd_id x_cmd_src x_cmd_dst x_cmd_amt x_attr_seq : Int) (x_attr_deps : (List Int)) (y_ballot y_vote y_state y_cmd_kind y_cmd_id y_cmd_src y_cmd_dst y_cmd_amt y_attr_seq : Int) (y_attr_deps : (List Int)) (hs : sz_TRow ⟨x_ballot, x_vote, x_state, ⟨x_cmd_kind, x_cmd_id, x_cmd_src, x_cmd_dst, x_cmd_amt⟩, ⟨x_attr_seq, x_attr_deps⟩⟩ ≤ 1099511627776) : Fun T 57 [i64 x_ballot, i64 x_vote, i64 x_state, i64 x_cmd_kind, i64 x_cmd_id, i64 x_cmd_src, i64 x_cmd_dst, i64 x_cmd_amt, i64 x_attr_seq, rL x_attr_deps, i64 y_ballot, i64 y_vote, i64 y_state, i64 y_cmd_kind, i64 y_cmd_id, i64 y_cmd_src, i64 y_cmd_dst, i64 y_cmd_amt, i64 y_attr_seq, rL y_attr_deps] = some [.bool (decide ((⟨x_ballot, x_vote, x_state, ⟨x_cmd_kind, x_cmd_id, x_cmd_src, x_cmd_dst, x_cmd_amt⟩, ⟨x_attr_seq, x_attr_deps⟩⟩ : TRow) = ⟨y_ballot, y_vote, y_state, ⟨y_cmd_kind, y_cmd_id, y_cmd_src, y_cmd_dst, y_cmd_amt⟩, ⟨y_attr_seq, y_attr_deps⟩⟩))] := by
  rw [Fun_k (t := tm57) rfl]; unfold tm57
  unfold sz_TRow at hs
  simp only at hs
  have s0 : sz_TAttr ⟨x_attr_seq, x_attr_deps⟩ ≤ 1099511627776 := by omega
  have e : decide ((⟨x_ballot, x_vote, x_state, ⟨x_cmd_kind, x_cmd_id, x_cmd_src, x_cmd_dst, x_cmd_amt⟩, ⟨x_attr_seq, x_attr_deps⟩⟩ : TRow) = ⟨y_ballot, y_vote, y_state, ⟨y_cmd_kind, y_cmd_id, y_cmd_src, y_cmd_dst, y_cmd_amt⟩, ⟨y_attr_seq, y_attr_deps⟩⟩) = ((x_ballot == y_ballot) && (x_vote == y_vote) && (x_state == y_state) && decide ((⟨x_cmd_kind, x_cmd_id, x_cmd_src, x_cmd_dst, x_cmd_amt⟩ : TCmd) = ⟨y_cmd_kind, y_cmd_id, y_cmd_src, y_cmd_dst, y_cmd_amt⟩) && decide ((⟨x_attr_seq, x_attr_deps⟩ : TAttr) = ⟨y_attr_seq, y_attr_deps⟩)) := by
    simp only [TRow.mk.injEq, Bool.beq_eq_decide_eq, Bool.decide_and, Bool.and_assoc]
  rw [e]
  simp (maxSteps := 2000000) (disch := first | assumption | omega) only [SA, SB, SC, SP, SQ, SZ, reduceIte, reduceCtorEq, Nat.reduceAdd, Nat.reduceEqDiff, beq_self_eq_true, decide_true, decide_false, Int.reduceBEq, Int.reduceLT, Int.reduceLE, cast1, S_eta, leq_TCmd, leq_TAttr, *] <;> repeat' (refine fork_eq (fun _ => ?_) (fun _ => ?_) <;> try simp (maxSteps := 2000000) (disch := first | assumption | omega) only [SA, SB, SC, SP, SQ, SZ, reduceIte, reduceCtorEq, Nat.reduceAdd, Nat.reduceEqDiff, beq_self_eq_true, decide_true, decide_false, Int.reduceBEq, Int.reduceLT, Int.reduceLE, cast1, S_eta, leq_TCmd, leq_TAttr, *])
theorem lsz_LTRow (xs : (List TRow)) (l : Int) (h0 : 0 ≤ l) (h1 : l ≤ 1048576) (hw : xs.length ≤ 140737488351232 ∧ ∀ y0 ∈ xs, wf_TRow y0) : Fun T 1 [rL xs, i64 l] = some [i64 (szR l (szL sz_TRow xs))] := by
  rw [Fun_k (t := tm1) rfl]; unfold tm1
  obtain ⟨hw1, hw2⟩ := hw
  by_cases c : (xs.length : Int) ≤ l
  · have d : decide (l - (xs.length : Int) < 0) = false := by simp; omega
    simp (maxSteps := 2000000) (disch := first | assumption | omega) only [SA, SB, SC, SP, SQ, SZ, reduceIte, reduceCtorEq, Nat.reduceAdd, Nat.reduceEqDiff, beq_self_eq_true, decide_true, decide_false, Int.reduceBEq, Int.reduceLT, Int.reduceLE, cast1, S_eta, *]
    rw [szLoop xs sz_TRow (l - xs.length) rfl (by omega) (by omega)]
    · by_cases hd : ((xs.map sz_TRow).sum : Int) ≤ l - xs.length
      · have e : szR l (szL sz_TRow xs) = l - xs.length - ((xs.map sz_TRow).sum : Nat) := by unfold szR; rw [show (szL sz_TRow xs) = xs.length + (xs.map sz_TRow).sum from rfl, if_pos (by omega)]; omega
        rw [decide_eq_true hd]
        simp (maxSteps := 2000000) (disch := first | assumption | omega) only [SA, SB, SC, SP, SQ, SZ, reduceIte, reduceCtorEq, Nat.reduceAdd, Nat.reduceEqDiff, beq_self_eq_true, decide_true, decide_false, Int.reduceBEq, Int.reduceLT, Int.reduceLE, cast1, S_eta, *] <;> repeat' (refine fork_eq (fun _ => ?_) (fun _ => ?_) <;> try simp (maxSteps := 2000000) (disch := first | assumption | omega) only [SA, SB, SC, SP, SQ, SZ, reduceIte, reduceCtorEq, Nat.reduceAdd, Nat.reduceEqDiff, beq_self_eq_true, decide_true, decide_false, Int.reduceBEq, Int.reduceLT, Int.reduceLE, cast1, S_eta, *])
      · have e : szR l (szL sz_TRow xs) = -1 := by unfold szR; rw [show (szL sz_TRow xs) = xs.length + (xs.map sz_TRow).sum from rfl, if_neg (by omega)]
        rw [decide_eq_false hd]
        simp (maxSteps := 2000000) (disch := first | assumption | omega) only [SA, SB, SC, SP, SQ, SZ, reduceIte, reduceCtorEq, Nat.reduceAdd, Nat.reduceEqDiff, beq_self_eq_true, decide_true, decide_false, Int.reduceBEq, Int.reduceLT, Int.reduceLE, cast1, S_eta, *] <;> repeat' (refine fork_eq (fun _ => ?_) (fun _ => ?_) <;> try simp (maxSteps := 2000000) (disch := first | assumption | omega) only [SA, SB, SC, SP, SQ, SZ, reduceIte, reduceCtorEq, Nat.reduceAdd, Nat.reduceEqDiff, beq_self_eq_true, decide_true, decide_false, Int.reduceBEq, Int.reduceLT, Int.reduceLE, cast1, S_eta, *])
    · intro i m hi hb hl hm hm' hf hr hd
      have hq := hw2 _ (at_mem hi)
      simp (maxSteps := 2000000) (disch := first | assumption | omega) only [SA, SB, SC, SP, SQ, SZ, reduceIte, reduceCtorEq, Nat.reduceAdd, Nat.reduceEqDiff, beq_self_eq_true, decide_true, decide_false, Int.reduceBEq, Int.reduceLT, Int.reduceLE, cast1, S_eta, S_row, lsz_TRow, *] <;> repeat' (refine fork_eq (fun _ => ?_) (fun _ => ?_) <;> try simp (maxSteps := 2000000) (disch := first | assumption | omega) only [SA, SB, SC, SP, SQ, SZ, reduceIte, reduceCtorEq, Nat.reduceAdd, Nat.reduceEqDiff, beq_self_eq_true, decide_true, decide_false, Int.reduceBEq, Int.reduceLT, Int.reduceLE, cast1, S_eta, S_row, lsz_TRow, *])
    · intro i m hi hb hl hm hm' hf hr hd
      have hq := hw2 _ (at_mem hi)
      simp (maxSteps := 2000000) (disch := first | assumption | omega) only [SA, SB, SC, SP, SQ, SZ, reduceIte, reduceCtorEq, Nat.reduceAdd, Nat.reduceEqDiff, beq_self_eq_true, decide_true, decide_false, Int.reduceBEq, Int.reduceLT, Int.reduceLE, cast1, S_eta, S_row, lsz_TRow, *] <;> repeat' (refine fork_eq (fun _ => ?_) (fun _ => ?_) <;> try simp (maxSteps := 2000000) (disch := first | assumption | omega) only [SA, SB, SC, SP, SQ, SZ, reduceIte, reduceCtorEq, Nat.reduceAdd, Nat.reduceEqDiff, beq_self_eq_true, decide_true, decide_false, Int.reduceBEq, Int.reduceLT, Int.reduceLE, cast1, S_eta, S_row, lsz_TRow, *])
    · intro m hl
      simp (maxSteps := 2000000) (disch := first | assumption | omega) only [SA, SB, SC, SP, SQ, SZ, reduceIte, reduceCtorEq, Nat.reduceAdd, Nat.reduceEqDiff, beq_self_eq_true, decide_true, decide_false, Int.reduceBEq, Int.reduceLT, Int.reduceLE, cast1, S_eta, *] <;> repeat' (refine fork_eq (fun _ => ?_) (fun _ => ?_) <;> try simp (maxSteps := 2000000) (disch := first | assumption | omega) only [SA, SB, SC, SP, SQ, SZ, reduceIte, reduceCtorEq, Nat.reduceAdd, Nat.reduceEqDiff, beq_self_eq_true, decide_true, decide_false, Int.reduceBEq, Int.reduceLT, Int.reduceLE, cast1, S_eta, *])
  · have e : szR l (szL sz_TRow xs) = -1 := by unfold szR; rw [show (szL sz_TRow xs) = xs.length + (xs.map sz_TRow).sum from rfl, if_neg (by omega)]
    have d : decide (l - (xs.length : Int) < 0) = true := by simp; omega
    simp (maxSteps := 2000000) (disch := first | assumption | omega) only [SA, SB, SC, SP, SQ, SZ, reduceIte, reduceCtorEq, Nat.reduceAdd, Nat.reduceEqDiff, beq_self_eq_true, decide_true, decide_false, Int.reduceBEq, Int.reduceLT, Int.reduceLE, cast1, S_eta, *] <;> repeat' (refine fork_eq (fun _ => ?_) (fun _ => ?_) <;> try simp (maxSteps := 2000000) (disch := first | assumption | omega) only [SA, SB, SC, SP, SQ, SZ, reduceIte, reduceCtorEq, Nat.reduceAdd, Nat.reduceEqDiff, beq_self_eq_true, decide_true, decide_false, Int.reduceBEq, Int.reduceLT, Int.reduceLE, cast1, S_eta, *])
theorem lto_LTRow (xs : (List TRow)) (hs : szL sz_TRow xs ≤ 1048576) : Fun T 5 [rL xs] = some [rL xs] := by
  rw [Fun_k (t := tm5) rfl]; unfold tm5
  have hl : xs.length ≤ 1048576 := Nat.le_trans szL_len hs
  simp (maxSteps := 2000000) (disch := first | assumption | omega) only [SA, SB, SC, SP, SQ, SZ, reduceIte, reduceCtorEq, Nat.reduceAdd, Nat.reduceEqDiff, beq_self_eq_true, decide_true, decide_false, Int.reduceBEq, Int.reduceLT, Int.reduceLE, cast1, S_eta, S_make, Int.toNat_natCast, *]
  rw [toLoop xs rfl]
  · simp (maxSteps := 2000000) (disch := first | assumption | omega) only [SA, SB, SC, SP, SQ, SZ, reduceIte, reduceCtorEq, Nat.reduceAdd, Nat.reduceEqDiff, beq_self_eq_true, decide_true, decide_false, Int.reduceBEq, Int.reduceLT, Int.reduceLE, cast1, S_eta, *] <;> repeat' (refine fork_eq (fun _ => ?_) (fun _ => ?_) <;> try simp (maxSteps := 2000000) (disch := first | assumption | omega) only [SA, SB, SC, SP, SQ, SZ, reduceIte, reduceCtorEq, Nat.reduceAdd, Nat.reduceEqDiff, beq_self_eq_true, decide_true, decide_false, Int.reduceBEq, Int.reduceLT, Int.reduceLE, cast1, S_eta, *])
  · intro i ys hi hb hb' hl'
    have hq : sz_TRow (atI xs i) ≤ 1048576 := by
      have := szL_mem (f := sz_TRow) (at_mem hi)
      omega
    simp (maxSteps := 2000000) (disch := first | assumption | omega) only [SA, SB, SC, SP, SQ, SZ, reduceIte, reduceCtorEq, Nat.reduceAdd, Nat.reduceEqDiff, beq_self_eq_true, decide_true, decide_false, Int.reduceBEq, Int.reduceLT, Int.reduceLE, cast1, S_eta, S_row, S_set, lto_TRow, *] <;> repeat' (refine fork_eq (fun _ => ?_) (fun _ => ?_) <;> try simp (maxSteps := 2000000) (disch := first | assumption | omega) only [SA, SB, SC, SP, SQ, SZ, reduceIte, reduceCtorEq, Nat.reduceAdd, Nat.reduceEqDiff, beq_self_eq_true, decide_true, decide_false, Int.reduceBEq, Int.reduceLT, Int.reduceLE, cast1, S_eta, S_row, S_set, lto_TRow, *])
  · intro ys hl'
    simp (maxSteps := 2000000) (disch := first | assumption | omega) only [SA, SB, SC, SP, SQ, SZ, reduceIte, reduceCtorEq, Nat.reduceAdd, Nat.reduceEqDiff, beq_self_eq_true, decide_true, decide_false, Int.reduceBEq, Int.reduceLT, Int.reduceLE, cast1, S_eta, *] <;> repeat' (refine fork_eq (fun _ => ?_) (fun _ => ?_) <;> try simp (maxSteps := 2000000) (disch := first | assumption | omega) only [SA, SB, SC, SP, SQ, SZ, reduceIte, reduceCtorEq, Nat.reduceAdd, Nat.reduceEqDiff, beq_self_eq_true, decide_true, decide_false, Int.reduceBEq, Int.reduceLT, Int.reduceLE, cast1, S_eta, *])
theorem leq_LTRow (xs ys : (List TRow)) (hs : szL sz_TRow xs ≤ 1099511627776) : Fun T 56 [rL xs, rL ys] = some [.bool (decide (xs = ys))] := by
  rw [Fun_k (t := tm56) rfl]; unfold tm56
  have hx : xs.length ≤ 1099511627776 := Nat.le_trans szL_len hs
  by_cases hl : ys.length = xs.length
  · simp (maxSteps := 2000000) (disch := first | assumption | omega) only [SA, SB, SC, SP, SQ, SZ, reduceIte, reduceCtorEq, Nat.reduceAdd, Nat.reduceEqDiff, beq_self_eq_true, decide_true, decide_false, Int.reduceBEq, Int.reduceLT, Int.reduceLE, cast1, S_eta, *]
    rw [scanX 1 xs.length (fun i => decide (atI xs i = atI ys i)) [.bool false], allB_eq hl.symm]
    · simp (maxSteps := 2000000) (disch := first | assumption | omega) only [SA, SB, SC, SP, SQ, SZ, reduceIte, reduceCtorEq, Nat.reduceAdd, Nat.reduceEqDiff, beq_self_eq_true, decide_true, decide_false, Int.reduceBEq, Int.reduceLT, Int.reduceLE, cast1, S_eta, *] <;> repeat' (refine fork_eq (fun _ => ?_) (fun _ => ?_) <;> try simp (maxSteps := 2000000) (disch := first | assumption | omega) only [SA, SB, SC, SP, SQ, SZ, reduceIte, reduceCtorEq, Nat.reduceAdd, Nat.reduceEqDiff, beq_self_eq_true, decide_true, decide_false, Int.reduceBEq, Int.reduceLT, Int.reduceLE, cast1, S_eta, *])
    · intro i hi hp
      have hb : InB xs (i : Int) := InB_nat.2 hi
      have hb' : InB ys (i : Int) := InB_nat.2 (by omega)
      have h2 : decide ((i : Int) < xs.length) = true := by simp; omega
      have hq : sz_TRow (atI xs i) ≤ 1099511627776 := by
        have := szL_mem (f := sz_TRow) (at_mem hi)
        omega
      simp (maxSteps := 2000000) (disch := first | assumption | omega) only [SA, SB, SC, SP, SQ, SZ, reduceIte, reduceCtorEq, Nat.reduceAdd, Nat.reduceEqDiff, beq_self_eq_true, decide_true, decide_false, Int.reduceBEq, Int.reduceLT, Int.reduceLE, cast1, S_eta, S_row, leq_TRow, *] <;> repeat' (refine fork_eq (fun _ => ?_) (fun _ => ?_) <;> try simp (maxSteps := 2000000) (disch := first | assumption | omega) only [SA, SB, SC, SP, SQ, SZ, reduceIte, reduceCtorEq, Nat.reduceAdd, Nat.reduceEqDiff, beq_self_eq_true, decide_true, decide_false, Int.reduceBEq, Int.reduceLT, Int.reduceLE, cast1, S_eta, S_row, leq_TRow, *])
    · intro i hi hp
      have hb : InB xs (i : Int) := InB_nat.2 hi
      have hb' : InB ys (i : Int) := InB_nat.2 (by omega)
      have h2 : decide ((i : Int) < xs.length) = true := by simp; omega
      have hq : sz_TRow (atI xs i) ≤ 1099511627776 := by
        have := szL_mem (f := sz_TRow) (at_mem hi)
        omega
      simp (maxSteps := 2000000) (disch := first | assumption | omega) only [SA, SB, SC, SP, SQ, SZ, reduceIte, reduceCtorEq, Nat.reduceAdd, Nat.reduceEqDiff, beq_self_eq_true, decide_true, decide_false, Int.reduceBEq, Int.reduceLT, Int.reduceLE, cast1, S_eta, S_row, leq_TRow, *] <;> repeat' (refine fork_eq (fun _ => ?_) (fun _ => ?_) <;> try simp (maxSteps := 2000000) (disch := first | assumption | omega) only [SA, SB, SC, SP, SQ, SZ, reduceIte, reduceCtorEq, Nat.reduceAdd, Nat.reduceEqDiff, beq_self_eq_true, decide_true, decide_false, Int.reduceBEq, Int.reduceLT, Int.reduceLE, cast1, S_eta, S_row, leq_TRow, *])
    · have h2 : decide ((xs.length : Int) < xs.length) = false := by simp
      simp (maxSteps := 2000000) (disch := first | assumption | omega) only [SA, SB, SC, SP, SQ, SZ, reduceIte, reduceCtorEq, Nat.reduceAdd, Nat.reduceEqDiff, beq_self_eq_true, decide_true, decide_false, Int.reduceBEq, Int.reduceLT, Int.reduceLE, cast1, S_eta, *] <;> repeat' (refine fork_eq (fun _ => ?_) (fun _ => ?_) <;> try simp (maxSteps := 2000000) (disch := first | assumption | omega) only [SA, SB, SC, SP, SQ, SZ, reduceIte, reduceCtorEq, Nat.reduceAdd, Nat.reduceEqDiff, beq_self_eq_true, decide_true, decide_false, Int.reduceBEq, Int.reduceLT, Int.reduceLE, cast1, S_eta, *])
  · have hl' : ((xs.length : Int) == (ys.length : Int)) = false := by simp; omega
    have e := eq_len (fun h => hl h.symm)
    simp (maxSteps := 2000000) (disch := first | assumption | omega) only [SA, SB, SC, SP, SQ, SZ, reduceIte, reduceCtorEq, Nat.reduceAdd, Nat.reduceEqDiff, beq_self_eq_true, decide_true, decide_false, Int.reduceBEq, Int.reduceLT, Int.reduceLE, cast1, S_eta, *] <;> repeat' (refine fork_eq (fun _ => ?_) (fun _ => ?_) <;> try simp (maxSteps := 2000000) (disch := first | assumption | omega) only [SA, SB, SC, SP, SQ, SZ, reduceIte, reduceCtorEq, Nat.reduceAdd, Nat.reduceEqDiff, beq_self_eq_true, decide_true, decide_false, Int.reduceBEq, Int.reduceLT, Int.reduceLE, cast1, S_eta, *])
theorem lmk_LTRow (xs : (List TRow)) (k : Int) (hk : 0 ≤ k) (hb : k + (ctL ct_TRow xs : Nat) ≤ 1152921504606846976) (hl : szL sz_TRow xs ≤ 1099511627776) : Fun T 58 [rL xs, i64 k] = some [i64 (k + (ctL ct_TRow xs : Nat)), rL (mkL ct_TRow mk_TRow xs k)] := by
  rw [Fun_k (t := tm58) rfl]; unfold tm58
  have hx : xs.length ≤ 1099511627776 := Nat.le_trans szL_len hl
  simp (maxSteps := 2000000) (disch := first | assumption | omega) only [SA, SB, SC, SP, SQ, SZ, reduceIte, reduceCtorEq, Nat.reduceAdd, Nat.reduceEqDiff, beq_self_eq_true, decide_true, decide_false, Int.reduceBEq, Int.reduceLT, Int.reduceLE, cast1, S_eta, *]
  rw [markLoop xs ct_TRow mk_TRow k rfl rfl rfl hk hb ?_ ?_ (by omega)]
  · simp (maxSteps := 2000000) (disch := first | assumption | omega) only [SA, SB, SC, SP, SQ, SZ, reduceIte, reduceCtorEq, Nat.reduceAdd, Nat.reduceEqDiff, beq_self_eq_true, decide_true, decide_false, Int.reduceBEq, Int.reduceLT, Int.reduceLE, cast1, S_eta, *] <;> repeat' (refine fork_eq (fun _ => ?_) (fun _ => ?_) <;> try simp (maxSteps := 2000000) (disch := first | assumption | omega) only [SA, SB, SC, SP, SQ, SZ, reduceIte, reduceCtorEq, Nat.reduceAdd, Nat.reduceEqDiff, beq_self_eq_true, decide_true, decide_false, Int.reduceBEq, Int.reduceLT, Int.reduceLE, cast1, S_eta, *])
  · intro i ys m hi hy hb hlt hat hm hc hlen
    have ec : m + 1 + 1 + 1 + 1 + 1 + 1 + 1 + 1 + 1 + (ctL (fun _ => 1) (atI xs (i : Int)).attr.deps : Nat) = m + (ct_TRow (atI xs i) : Nat) := by rw [ctu_TRow]; omega
    have hq : sz_TRow (atI xs i) ≤ 1099511627776 := by
      have := szL_mem (f := sz_TRow) (at_mem hi)
      omega
    rw [szu_TRow] at hq
    rw [ctu_TRow] at hc
    have hl__attr_deps : (atI xs i).attr.deps.length ≤ 1099511627776 := by omega
    simp (maxSteps := 2000000) (disch := first | assumption | omega | (simp only [S_upd]; assumption)) only [SA, SB, SC, SP, SQ, SZ, reduceIte, reduceCtorEq, Nat.reduceAdd, Nat.reduceEqDiff, beq_self_eq_true, decide_true, decide_false, Int.reduceBEq, Int.reduceLT, Int.reduceLE, cast1, S_eta, S_row, S_set, S_upd, lmk_LI, *] <;> repeat' (refine fork_eq (fun _ => ?_) (fun _ => ?_) <;> try simp (maxSteps := 2000000) (disch := first | assumption | omega | (simp only [S_upd]; assumption)) only [SA, SB, SC, SP, SQ, SZ, reduceIte, reduceCtorEq, Nat.reduceAdd, Nat.reduceEqDiff, beq_self_eq_true, decide_true, decide_false, Int.reduceBEq, Int.reduceLT, Int.reduceLE, cast1, S_eta, S_row, S_set, S_upd, lmk_LI, *])
    all_goals (try simp only [mk_TRow, ec])
  · intro ys m hy hlt
    simp (maxSteps := 2000000) (disch := first | assumption | omega) only [SA, SB, SC, SP, SQ, SZ, reduceIte, reduceCtorEq, Nat.reduceAdd, Nat.reduceEqDiff, beq_self_eq_true, decide_true, decide_false, Int.reduceBEq, Int.reduceLT, Int.reduceLE, cast1, S_eta, *] <;> repeat' (refine fork_eq (fun _ => ?_) (fun _ => ?_) <;> try simp (maxSteps := 2000000) (disch := first | assumption | omega) only [SA, SB, SC, SP, SQ, SZ, reduceIte, reduceCtorEq, Nat.reduceAdd, Nat.reduceEqDiff, beq_self_eq_true, decide_true, decide_false, Int.reduceBEq, Int.reduceLT, Int.reduceLE, cast1, S_eta, *])
theorem impl_within (x lo up : Int) : Fun T 35 [i64 x, i64 lo, i64 up] = some [.bool (inR x lo up)] := by
  rw [Fun_k (t := tm35) rfl]; unfold tm35; unfold inR
  simp (maxSteps := 2000000) (disch := first | assumption | omega) only [SA, SB, SC, SP, SQ, SZ, reduceIte, reduceCtorEq, Nat.reduceAdd, Nat.reduceEqDiff, beq_self_eq_true, decide_true, decide_false, Int.reduceBEq, Int.reduceLT, Int.reduceLE, cast1, S_eta, *] <;> repeat' (refine fork_eq (fun _ => ?_) (fun _ => ?_) <;> try simp (maxSteps := 2000000) (disch := first | assumption | omega) only [SA, SB, SC, SP, SQ, SZ, reduceIte, reduceCtorEq, Nat.reduceAdd, Nat.reduceEqDiff, beq_self_eq_true, decide_true, decide_false, Int.reduceBEq, Int.reduceLT, Int.reduceLE, cast1, S_eta, *])
theorem spec_l1In (x lo up : Int) : Fun T 13 [i64 x, i64 lo, i64 up] = some [.bool (inR x lo up)] := by
  rw [Fun_k (t := tm13) rfl]; unfold tm13; unfold inR
  simp (maxSteps := 2000000) (disch := first | assumption | omega) only [SA, SB, SC, SP, SQ, SZ, reduceIte, reduceCtorEq, Nat.reduceAdd, Nat.reduceEqDiff, beq_self_eq_true, decide_true, decide_false, Int.reduceBEq, Int.reduceLT, Int.reduceLE, cast1, S_eta, *] <;> repeat' (refine fork_eq (fun _ => ?_) (fun _ => ?_) <;> try simp (maxSteps := 2000000) (disch := first | assumption | omega) only [SA, SB, SC, SP, SQ, SZ, reduceIte, reduceCtorEq, Nat.reduceAdd, Nat.reduceEqDiff, beq_self_eq_true, decide_true, decide_false, Int.reduceBEq, Int.reduceLT, Int.reduceLE, cast1, S_eta, *])
theorem impl_IsGroup (n : Int) : Fun T 29 [i64 n] = some [.bool (isGrp n)] := by
  rw [Fun_k (t := tm29) rfl]; unfold tm29; unfold isGrp
  simp (maxSteps := 2000000) (disch := first | assumption | omega) only [SA, SB, SC, SP, SQ, SZ, reduceIte, reduceCtorEq, Nat.reduceAdd, Nat.reduceEqDiff, beq_self_eq_true, decide_true, decide_false, Int.reduceBEq, Int.reduceLT, Int.reduceLE, cast1, S_eta, *] <;> repeat' (refine fork_eq (fun _ => ?_) (fun _ => ?_) <;> try simp (maxSteps := 2000000) (disch := first | assumption | omega) only [SA, SB, SC, SP, SQ, SZ, reduceIte, reduceCtorEq, Nat.reduceAdd, Nat.reduceEqDiff, beq_self_eq_true, decide_true, decide_false, Int.reduceBEq, Int.reduceLT, Int.reduceLE, cast1, S_eta, *])
theorem spec_IsGroup (n : Int) : Fun T 12 [i64 n] = some [.bool (isGrp n)] := by
  rw [Fun_k (t := tm12) rfl]; unfold tm12; unfold isGrp
  simp (maxSteps := 2000000) (disch := first | assumption | omega) only [SA, SB, SC, SP, SQ, SZ, reduceIte, reduceCtorEq, Nat.reduceAdd, Nat.reduceEqDiff, beq_self_eq_true, decide_true, decide_false, Int.reduceBEq, Int.reduceLT, Int.reduceLE, cast1, S_eta, *] <;> repeat' (refine fork_eq (fun _ => ?_) (fun _ => ?_) <;> try simp (maxSteps := 2000000) (disch := first | assumption | omega) only [SA, SB, SC, SP, SQ, SZ, reduceIte, reduceCtorEq, Nat.reduceAdd, Nat.reduceEqDiff, beq_self_eq_true, decide_true, decide_false, Int.reduceBEq, Int.reduceLT, Int.reduceLE, cast1, S_eta, *])
theorem impl_isAccount (n : Int) : Fun T 37 [i64 n] = some [.bool (inR n 0 3)] := by
  rw [Fun_k (t := tm37) rfl]; unfold tm37
  simp (maxSteps := 2000000) (disch := first | assumption | omega) only [SA, SB, SC, SP, SQ, SZ, reduceIte, reduceCtorEq, Nat.reduceAdd, Nat.reduceEqDiff, beq_self_eq_true, decide_true, decide_false, Int.reduceBEq, Int.reduceLT, Int.reduceLE, cast1, S_eta, impl_within, *] <;> repeat' (refine fork_eq (fun _ => ?_) (fun _ => ?_) <;> try simp (maxSteps := 2000000) (disch := first | assumption | omega) only [SA, SB, SC, SP, SQ, SZ, reduceIte, reduceCtorEq, Nat.reduceAdd, Nat.reduceEqDiff, beq_self_eq_true, decide_true, decide_false, Int.reduceBEq, Int.reduceLT, Int.reduceLE, cast1, S_eta, impl_within, *])
theorem spec_l2Account (n : Int) : Fun T 20 [i64 n] = some [.bool (inR n 0 3)] := by
  rw [Fun_k (t := tm20) rfl]; unfold tm20
  simp (maxSteps := 2000000) (disch := first | assumption | omega) only [SA, SB, SC, SP, SQ, SZ, reduceIte, reduceCtorEq, Nat.reduceAdd, Nat.reduceEqDiff, beq_self_eq_true, decide_true, decide_false, Int.reduceBEq, Int.reduceLT, Int.reduceLE, cast1, S_eta, spec_l1In, *] <;> repeat' (refine fork_eq (fun _ => ?_) (fun _ => ?_) <;> try simp (maxSteps := 2000000) (disch := first | assumption | omega) only [SA, SB, SC, SP, SQ, SZ, reduceIte, reduceCtorEq, Nat.reduceAdd, Nat.reduceEqDiff, beq_self_eq_true, decide_true, decide_false, Int.reduceBEq, Int.reduceLT, Int.reduceLE, cast1, S_eta, spec_l1In, *])
theorem spec_l2Code (k i f t a : Int) : Fun T 19 [i64 k, i64 i, i64 f, i64 t, i64 a] = some [i64 (cmdCode ⟨k, i, f, t, a⟩)] := by
  rw [Fun_k (t := tm19) rfl]; unfold tm19; unfold cmdCode
  simp (maxSteps := 2000000) (disch := first | assumption | omega) only [SA, SB, SC, SP, SQ, SZ, reduceIte, reduceCtorEq, Nat.reduceAdd, Nat.reduceEqDiff, beq_self_eq_true, decide_true, decide_false, Int.reduceBEq, Int.reduceLT, Int.reduceLE, cast1, S_eta, spec_l2Account, spec_l1In, *] <;> repeat' (refine fork_eq (fun _ => ?_) (fun _ => ?_) <;> try simp (maxSteps := 2000000) (disch := first | assumption | omega) only [SA, SB, SC, SP, SQ, SZ, reduceIte, reduceCtorEq, Nat.reduceAdd, Nat.reduceEqDiff, beq_self_eq_true, decide_true, decide_false, Int.reduceBEq, Int.reduceLT, Int.reduceLE, cast1, S_eta, spec_l2Account, spec_l1In, *])
theorem spec_GoodCmd (k i f t a : Int) : Fun T 18 [i64 k, i64 i, i64 f, i64 t, i64 a] = some [.bool (cmdOk ⟨k, i, f, t, a⟩)] := by
  rw [Fun_k (t := tm18) rfl]; unfold tm18; unfold cmdOk
  simp (maxSteps := 2000000) (disch := first | assumption | omega) only [SA, SB, SC, SP, SQ, SZ, reduceIte, reduceCtorEq, Nat.reduceAdd, Nat.reduceEqDiff, beq_self_eq_true, decide_true, decide_false, Int.reduceBEq, Int.reduceLT, Int.reduceLE, cast1, S_eta, spec_l2Code, S_eqs, cmdCode0, *] <;> repeat' (refine fork_eq (fun _ => ?_) (fun _ => ?_) <;> try simp (maxSteps := 2000000) (disch := first | assumption | omega) only [SA, SB, SC, SP, SQ, SZ, reduceIte, reduceCtorEq, Nat.reduceAdd, Nat.reduceEqDiff, beq_self_eq_true, decide_true, decide_false, Int.reduceBEq, Int.reduceLT, Int.reduceLE, cast1, S_eta, spec_l2Code, S_eqs, cmdCode0, *])
  all_goals (refine bool_fin ?_; simp only [Bool.and_eq_true, Bool.or_eq_true, Bool.not_eq_true', Bool.not_eq_false', Bool.and_eq_false_iff, Bool.or_eq_false_iff, Bool.false_eq_true, beq_iff_eq, beq_eq_false_iff_ne, decide_eq_true_eq, decide_eq_false_iff_not, ne_eq] at *; grind)
theorem impl_GoodCmd (k i f t a : Int) : Fun T 36 [i64 k, i64 i, i64 f, i64 t, i64 a] = some [.bool (cmdOk ⟨k, i, f, t, a⟩)] := by
  rw [Fun_k (t := tm36) rfl]; unfold tm36; unfold cmdOk
  simp (maxSteps := 2000000) (disch := first | assumption | omega) only [SA, SB, SC, SP, SQ, SZ, reduceIte, reduceCtorEq, Nat.reduceAdd, Nat.reduceEqDiff, beq_self_eq_true, decide_true, decide_false, Int.reduceBEq, Int.reduceLT, Int.reduceLE, cast1, S_eta, impl_within, impl_isAccount, S_eqs, *] <;> repeat' (refine fork_eq (fun _ => ?_) (fun _ => ?_) <;> try simp (maxSteps := 2000000) (disch := first | assumption | omega) only [SA, SB, SC, SP, SQ, SZ, reduceIte, reduceCtorEq, Nat.reduceAdd, Nat.reduceEqDiff, beq_self_eq_true, decide_true, decide_false, Int.reduceBEq, Int.reduceLT, Int.reduceLE, cast1, S_eta, impl_within, impl_isAccount, S_eqs, *])
theorem spec_l1All (xs : List Int) (lo up : Int) (hx : xs.length ≤ 1099511627776) : Fun T 22 [rL xs, i64 lo, i64 up] = some [.bool (xs.all fun x => inR x lo up)] := by
  rw [Fun_k (t := tm22) rfl]; unfold tm22
  simp (maxSteps := 2000000) (disch := first | assumption | omega) only [SA, SB, SC, SP, SQ, SZ, reduceIte, reduceCtorEq, Nat.reduceAdd, Nat.reduceEqDiff, beq_self_eq_true, decide_true, decide_false, Int.reduceBEq, Int.reduceLT, Int.reduceLE, cast1, S_eta, S_row, *]
  rw [allX 1 xs (fun x => inR x lo up) [.bool false]]
  · simp (maxSteps := 2000000) (disch := first | assumption | omega) only [SA, SB, SC, SP, SQ, SZ, reduceIte, reduceCtorEq, Nat.reduceAdd, Nat.reduceEqDiff, beq_self_eq_true, decide_true, decide_false, Int.reduceBEq, Int.reduceLT, Int.reduceLE, cast1, S_eta, *] <;> repeat' (refine fork_eq (fun _ => ?_) (fun _ => ?_) <;> try simp (maxSteps := 2000000) (disch := first | assumption | omega) only [SA, SB, SC, SP, SQ, SZ, reduceIte, reduceCtorEq, Nat.reduceAdd, Nat.reduceEqDiff, beq_self_eq_true, decide_true, decide_false, Int.reduceBEq, Int.reduceLT, Int.reduceLE, cast1, S_eta, *])
  · intro i hi hb hl hp
    simp (maxSteps := 2000000) (disch := first | assumption | omega) only [SA, SB, SC, SP, SQ, SZ, reduceIte, reduceCtorEq, Nat.reduceAdd, Nat.reduceEqDiff, beq_self_eq_true, decide_true, decide_false, Int.reduceBEq, Int.reduceLT, Int.reduceLE, cast1, S_eta, S_row, spec_l1In, *] <;> repeat' (refine fork_eq (fun _ => ?_) (fun _ => ?_) <;> try simp (maxSteps := 2000000) (disch := first | assumption | omega) only [SA, SB, SC, SP, SQ, SZ, reduceIte, reduceCtorEq, Nat.reduceAdd, Nat.reduceEqDiff, beq_self_eq_true, decide_true, decide_false, Int.reduceBEq, Int.reduceLT, Int.reduceLE, cast1, S_eta, S_row, spec_l1In, *])
  · intro i hi hb hl hp
    simp (maxSteps := 2000000) (disch := first | assumption | omega) only [SA, SB, SC, SP, SQ, SZ, reduceIte, reduceCtorEq, Nat.reduceAdd, Nat.reduceEqDiff, beq_self_eq_true, decide_true, decide_false, Int.reduceBEq, Int.reduceLT, Int.reduceLE, cast1, S_eta, S_row, spec_l1In, *] <;> repeat' (refine fork_eq (fun _ => ?_) (fun _ => ?_) <;> try simp (maxSteps := 2000000) (disch := first | assumption | omega) only [SA, SB, SC, SP, SQ, SZ, reduceIte, reduceCtorEq, Nat.reduceAdd, Nat.reduceEqDiff, beq_self_eq_true, decide_true, decide_false, Int.reduceBEq, Int.reduceLT, Int.reduceLE, cast1, S_eta, S_row, spec_l1In, *])
  · intro hl
    simp (maxSteps := 2000000) (disch := first | assumption | omega) only [SA, SB, SC, SP, SQ, SZ, reduceIte, reduceCtorEq, Nat.reduceAdd, Nat.reduceEqDiff, beq_self_eq_true, decide_true, decide_false, Int.reduceBEq, Int.reduceLT, Int.reduceLE, cast1, S_eta, *] <;> repeat' (refine fork_eq (fun _ => ?_) (fun _ => ?_) <;> try simp (maxSteps := 2000000) (disch := first | assumption | omega) only [SA, SB, SC, SP, SQ, SZ, reduceIte, reduceCtorEq, Nat.reduceAdd, Nat.reduceEqDiff, beq_self_eq_true, decide_true, decide_false, Int.reduceBEq, Int.reduceLT, Int.reduceLE, cast1, S_eta, *])
theorem spec_l3Attr (n s : Int) (xs : List Int) (hx : xs.length ≤ 1099511627776) : Fun T 21 [i64 n, i64 s, rL xs] = some [.bool (attrOk n ⟨s, xs⟩)] := by
  rw [Fun_k (t := tm21) rfl]; unfold tm21; unfold attrOk
  simp (maxSteps := 2000000) (disch := first | assumption | omega) only [SA, SB, SC, SP, SQ, SZ, reduceIte, reduceCtorEq, Nat.reduceAdd, Nat.reduceEqDiff, beq_self_eq_true, decide_true, decide_false, Int.reduceBEq, Int.reduceLT, Int.reduceLE, cast1, S_eta, spec_l1In, spec_l1All, *] <;> repeat' (refine fork_eq (fun _ => ?_) (fun _ => ?_) <;> try simp (maxSteps := 2000000) (disch := first | assumption | omega) only [SA, SB, SC, SP, SQ, SZ, reduceIte, reduceCtorEq, Nat.reduceAdd, Nat.reduceEqDiff, beq_self_eq_true, decide_true, decide_false, Int.reduceBEq, Int.reduceLT, Int.reduceLE, cast1, S_eta, spec_l1In, spec_l1All, *])
theorem impl_GoodAttr_1 (x : Int) : Fun T 41 [i64 x] = some [.bool (!inR x 0 6)] := by
  rw [Fun_k (t := tm41) rfl]; unfold tm41
  simp (maxSteps := 2000000) (disch := first | assumption | omega) only [SA, SB, SC, SP, SQ, SZ, reduceIte, reduceCtorEq, Nat.reduceAdd, Nat.reduceEqDiff, beq_self_eq_true, decide_true, decide_false, Int.reduceBEq, Int.reduceLT, Int.reduceLE, cast1, S_eta, impl_within, *] <;> repeat' (refine fork_eq (fun _ => ?_) (fun _ => ?_) <;> try simp (maxSteps := 2000000) (disch := first | assumption | omega) only [SA, SB, SC, SP, SQ, SZ, reduceIte, reduceCtorEq, Nat.reduceAdd, Nat.reduceEqDiff, beq_self_eq_true, decide_true, decide_false, Int.reduceBEq, Int.reduceLT, Int.reduceLE, cast1, S_eta, impl_within, *])
theorem ix_GoodAttr_1  (xs : List Int) (hx : xs.length ≤ 1099511627776) : Fun T 40 [rL xs] = some [i64 (ixF (fun x => !inR x 0 6) xs)] := by
  rw [Fun_k (t := tm40) rfl]; unfold tm40
  simp (maxSteps := 2000000) (disch := first | assumption | omega) only [SA, SB, SC, SP, SQ, SZ, reduceIte, reduceCtorEq, Nat.reduceAdd, Nat.reduceEqDiff, beq_self_eq_true, decide_true, decide_false, Int.reduceBEq, Int.reduceLT, Int.reduceLE, cast1, S_eta, S_row, *]
  rw [findX 1 xs (fun x => !inR x 0 6) (fun i => [i64 i])]
  · cases h : xs.any (fun x => !inR x 0 6)
    · have e : ixF (fun x => !inR x 0 6) xs = -1 := by
        have h2 := ixF_any (fun x => !inR x 0 6) xs
        rw [h] at h2
        unfold ixF at h2 ⊢
        split at h2 <;> simp_all
      rw [e]; simp (maxSteps := 2000000) (disch := first | assumption | omega) only [SA, SB, SC, SP, SQ, SZ, reduceIte, reduceCtorEq, Nat.reduceAdd, Nat.reduceEqDiff, beq_self_eq_true, decide_true, decide_false, Int.reduceBEq, Int.reduceLT, Int.reduceLE, cast1, S_eta]
    · simp (maxSteps := 2000000) (disch := first | assumption | omega) only [SA, SB, SC, SP, SQ, SZ, reduceIte, reduceCtorEq, Nat.reduceAdd, Nat.reduceEqDiff, beq_self_eq_true, decide_true, decide_false, Int.reduceBEq, Int.reduceLT, Int.reduceLE, cast1, S_eta]
  · intro i hi hb hl hp
    simp (maxSteps := 2000000) (disch := first | assumption | omega) only [SA, SB, SC, SP, SQ, SZ, reduceIte, reduceCtorEq, Nat.reduceAdd, Nat.reduceEqDiff, beq_self_eq_true, decide_true, decide_false, Int.reduceBEq, Int.reduceLT, Int.reduceLE, cast1, S_eta, S_row, impl_GoodAttr_1, *] <;> repeat' (refine fork_eq (fun _ => ?_) (fun _ => ?_) <;> try simp (maxSteps := 2000000) (disch := first | assumption | omega) only [SA, SB, SC, SP, SQ, SZ, reduceIte, reduceCtorEq, Nat.reduceAdd, Nat.reduceEqDiff, beq_self_eq_true, decide_true, decide_false, Int.reduceBEq, Int.reduceLT, Int.reduceLE, cast1, S_eta, S_row, impl_GoodAttr_1, *])
  · intro i hi hb hl hp
    simp (maxSteps := 2000000) (disch := first | assumption | omega) only [SA, SB, SC, SP, SQ, SZ, reduceIte, reduceCtorEq, Nat.reduceAdd, Nat.reduceEqDiff, beq_self_eq_true, decide_true, decide_false, Int.reduceBEq, Int.reduceLT, Int.reduceLE, cast1, S_eta, S_row, impl_GoodAttr_1, *] <;> repeat' (refine fork_eq (fun _ => ?_) (fun _ => ?_) <;> try simp (maxSteps := 2000000) (disch := first | assumption | omega) only [SA, SB, SC, SP, SQ, SZ, reduceIte, reduceCtorEq, Nat.reduceAdd, Nat.reduceEqDiff, beq_self_eq_true, decide_true, decide_false, Int.reduceBEq, Int.reduceLT, Int.reduceLE, cast1, S_eta, S_row, impl_GoodAttr_1, *])
  · intro hl
    simp (maxSteps := 2000000) (disch := first | assumption | omega) only [SA, SB, SC, SP, SQ, SZ, reduceIte, reduceCtorEq, Nat.reduceAdd, Nat.reduceEqDiff, beq_self_eq_true, decide_true, decide_false, Int.reduceBEq, Int.reduceLT, Int.reduceLE, cast1, S_eta, *] <;> repeat' (refine fork_eq (fun _ => ?_) (fun _ => ?_) <;> try simp (maxSteps := 2000000) (disch := first | assumption | omega) only [SA, SB, SC, SP, SQ, SZ, reduceIte, reduceCtorEq, Nat.reduceAdd, Nat.reduceEqDiff, beq_self_eq_true, decide_true, decide_false, Int.reduceBEq, Int.reduceLT, Int.reduceLE, cast1, S_eta, *])
theorem ct_GoodAttr_1  (xs : List Int) (hx : xs.length ≤ 1099511627776) : Fun T 39 [rL xs] = some [.bool (xs.any (fun x => !inR x 0 6))] := by
  rw [Fun_k (t := tm39) rfl]; unfold tm39
  simp (maxSteps := 2000000) (disch := first | assumption | omega) only [SA, SB, SC, SP, SQ, SZ, reduceIte, reduceCtorEq, Nat.reduceAdd, Nat.reduceEqDiff, beq_self_eq_true, decide_true, decide_false, Int.reduceBEq, Int.reduceLT, Int.reduceLE, cast1, S_eta, ix_GoodAttr_1, ixF_any, *] <;> repeat' (refine fork_eq (fun _ => ?_) (fun _ => ?_) <;> try simp (maxSteps := 2000000) (disch := first | assumption | omega) only [SA, SB, SC, SP, SQ, SZ, reduceIte, reduceCtorEq, Nat.reduceAdd, Nat.reduceEqDiff, beq_self_eq_true, decide_true, decide_false, Int.reduceBEq, Int.reduceLT, Int.reduceLE, cast1, S_eta, ix_GoodAttr_1, ixF_any, *])
theorem impl_GoodAttr (n s : Int) (xs : List Int) (hx : xs.length ≤ 1099511627776) : Fun T 38 [i64 n, i64 s, rL xs] = some [.bool (isGrp n && attrOk n ⟨s, xs⟩)] := by
  rw [Fun_k (t := tm38) rfl]; unfold tm38; unfold attrOk
  have e : xs.any (fun x => !inR x 0 6) = !xs.all fun x => inR x 0 6 := by rw [List.not_all_eq_any_not]
  simp (maxSteps := 2000000) (disch := first | assumption | omega) only [SA, SB, SC, SP, SQ, SZ, reduceIte, reduceCtorEq, Nat.reduceAdd, Nat.reduceEqDiff, beq_self_eq_true, decide_true, decide_false, Int.reduceBEq, Int.reduceLT, Int.reduceLE, cast1, S_eta, impl_IsGroup, impl_within, ct_GoodAttr_1, e, Bool.not_not, *] <;> repeat' (refine fork_eq (fun _ => ?_) (fun _ => ?_) <;> try simp (maxSteps := 2000000) (disch := first | assumption | omega) only [SA, SB, SC, SP, SQ, SZ, reduceIte, reduceCtorEq, Nat.reduceAdd, Nat.reduceEqDiff, beq_self_eq_true, decide_true, decide_false, Int.reduceBEq, Int.reduceLT, Int.reduceLE, cast1, S_eta, impl_IsGroup, impl_within, ct_GoodAttr_1, e, Bool.not_not, *])
theorem spec_l1Same (xs ys : List Int) (hx : xs.length ≤ 1099511627776) : Fun T 17 [rL xs, rL ys] = some [.bool (decide (xs = ys))] := by
  rw [Fun_k (t := tm17) rfl]; unfold tm17
  by_cases hl : ys.length = xs.length
  · simp (maxSteps := 2000000) (disch := first | assumption | omega) only [SA, SB, SC, SP, SQ, SZ, reduceIte, reduceCtorEq, Nat.reduceAdd, Nat.reduceEqDiff, beq_self_eq_true, decide_true, decide_false, Int.reduceBEq, Int.reduceLT, Int.reduceLE, cast1, S_eta, *]
    rw [scanX 1 xs.length (fun i => decide (atI xs i = atI ys i)) [.bool false], allB_eq hl.symm]
    · simp (maxSteps := 2000000) (disch := first | assumption | omega) only [SA, SB, SC, SP, SQ, SZ, reduceIte, reduceCtorEq, Nat.reduceAdd, Nat.reduceEqDiff, beq_self_eq_true, decide_true, decide_false, Int.reduceBEq, Int.reduceLT, Int.reduceLE, cast1, S_eta, *] <;> repeat' (refine fork_eq (fun _ => ?_) (fun _ => ?_) <;> try simp (maxSteps := 2000000) (disch := first | assumption | omega) only [SA, SB, SC, SP, SQ, SZ, reduceIte, reduceCtorEq, Nat.reduceAdd, Nat.reduceEqDiff, beq_self_eq_true, decide_true, decide_false, Int.reduceBEq, Int.reduceLT, Int.reduceLE, cast1, S_eta, *])
    · intro i hi hp
      have hb : InB xs (i : Int) := InB_nat.2 hi
      have hb' : InB ys (i : Int) := InB_nat.2 (by omega)
      have h2 : decide ((i : Int) < xs.length) = true := by simp; omega
      have h3 : (atI xs i == atI ys i) = true := by simpa using hp
      simp (maxSteps := 2000000) (disch := first | assumption | omega) only [SA, SB, SC, SP, SQ, SZ, reduceIte, reduceCtorEq, Nat.reduceAdd, Nat.reduceEqDiff, beq_self_eq_true, decide_true, decide_false, Int.reduceBEq, Int.reduceLT, Int.reduceLE, cast1, S_eta, S_row, *] <;> repeat' (refine fork_eq (fun _ => ?_) (fun _ => ?_) <;> try simp (maxSteps := 2000000) (disch := first | assumption | omega) only [SA, SB, SC, SP, SQ, SZ, reduceIte, reduceCtorEq, Nat.reduceAdd, Nat.reduceEqDiff, beq_self_eq_true, decide_true, decide_false, Int.reduceBEq, Int.reduceLT, Int.reduceLE, cast1, S_eta, S_row, *])
    · intro i hi hp
      have hb : InB xs (i : Int) := InB_nat.2 hi
      have hb' : InB ys (i : Int) := InB_nat.2 (by omega)
      have h2 : decide ((i : Int) < xs.length) = true := by simp; omega
      have h3 : (atI xs i == atI ys i) = false := by simpa using hp
      simp (maxSteps := 2000000) (disch := first | assumption | omega) only [SA, SB, SC, SP, SQ, SZ, reduceIte, reduceCtorEq, Nat.reduceAdd, Nat.reduceEqDiff, beq_self_eq_true, decide_true, decide_false, Int.reduceBEq, Int.reduceLT, Int.reduceLE, cast1, S_eta, S_row, *] <;> repeat' (refine fork_eq (fun _ => ?_) (fun _ => ?_) <;> try simp (maxSteps := 2000000) (disch := first | assumption | omega) only [SA, SB, SC, SP, SQ, SZ, reduceIte, reduceCtorEq, Nat.reduceAdd, Nat.reduceEqDiff, beq_self_eq_true, decide_true, decide_false, Int.reduceBEq, Int.reduceLT, Int.reduceLE, cast1, S_eta, S_row, *])
    · have h2 : decide ((xs.length : Int) < xs.length) = false := by simp
      simp (maxSteps := 2000000) (disch := first | assumption | omega) only [SA, SB, SC, SP, SQ, SZ, reduceIte, reduceCtorEq, Nat.reduceAdd, Nat.reduceEqDiff, beq_self_eq_true, decide_true, decide_false, Int.reduceBEq, Int.reduceLT, Int.reduceLE, cast1, S_eta, *] <;> repeat' (refine fork_eq (fun _ => ?_) (fun _ => ?_) <;> try simp (maxSteps := 2000000) (disch := first | assumption | omega) only [SA, SB, SC, SP, SQ, SZ, reduceIte, reduceCtorEq, Nat.reduceAdd, Nat.reduceEqDiff, beq_self_eq_true, decide_true, decide_false, Int.reduceBEq, Int.reduceLT, Int.reduceLE, cast1, S_eta, *])
  · have hl' : ((xs.length : Int) == (ys.length : Int)) = false := by simp; omega
    have e := eq_len (fun h => hl h.symm)
    simp (maxSteps := 2000000) (disch := first | assumption | omega) only [SA, SB, SC, SP, SQ, SZ, reduceIte, reduceCtorEq, Nat.reduceAdd, Nat.reduceEqDiff, beq_self_eq_true, decide_true, decide_false, Int.reduceBEq, Int.reduceLT, Int.reduceLE, cast1, S_eta, *] <;> repeat' (refine fork_eq (fun _ => ?_) (fun _ => ?_) <;> try simp (maxSteps := 2000000) (disch := first | assumption | omega) only [SA, SB, SC, SP, SQ, SZ, reduceIte, reduceCtorEq, Nat.reduceAdd, Nat.reduceEqDiff, beq_self_eq_true, decide_true, decide_false, Int.reduceBEq, Int.reduceLT, Int.reduceLE, cast1, S_eta, *])
theorem slices_Equal_int (xs ys : List Int) (hx : xs.length ≤ 1099511627776) : Fun T 44 [rL xs, rL ys] = some [.bool (decide (xs = ys))] := by
  rw [Fun_k (t := tm44) rfl]; unfold tm44
  by_cases hl : ys.length = xs.length
  · simp (maxSteps := 2000000) (disch := first | assumption | omega) only [SA, SB, SC, SP, SQ, SZ, reduceIte, reduceCtorEq, Nat.reduceAdd, Nat.reduceEqDiff, beq_self_eq_true, decide_true, decide_false, Int.reduceBEq, Int.reduceLT, Int.reduceLE, cast1, S_eta, *]
    rw [scanX 1 xs.length (fun i => decide (atI xs i = atI ys i)) [.bool false], allB_eq hl.symm]
    · simp (maxSteps := 2000000) (disch := first | assumption | omega) only [SA, SB, SC, SP, SQ, SZ, reduceIte, reduceCtorEq, Nat.reduceAdd, Nat.reduceEqDiff, beq_self_eq_true, decide_true, decide_false, Int.reduceBEq, Int.reduceLT, Int.reduceLE, cast1, S_eta, *] <;> repeat' (refine fork_eq (fun _ => ?_) (fun _ => ?_) <;> try simp (maxSteps := 2000000) (disch := first | assumption | omega) only [SA, SB, SC, SP, SQ, SZ, reduceIte, reduceCtorEq, Nat.reduceAdd, Nat.reduceEqDiff, beq_self_eq_true, decide_true, decide_false, Int.reduceBEq, Int.reduceLT, Int.reduceLE, cast1, S_eta, *])
    · intro i hi hp
      have hb : InB xs (i : Int) := InB_nat.2 hi
      have hb' : InB ys (i : Int) := InB_nat.2 (by omega)
      have h2 : decide ((i : Int) < xs.length) = true := by simp; omega
      have h3 : (atI xs i == atI ys i) = true := by simpa using hp
      simp (maxSteps := 2000000) (disch := first | assumption | omega) only [SA, SB, SC, SP, SQ, SZ, reduceIte, reduceCtorEq, Nat.reduceAdd, Nat.reduceEqDiff, beq_self_eq_true, decide_true, decide_false, Int.reduceBEq, Int.reduceLT, Int.reduceLE, cast1, S_eta, S_row, *] <;> repeat' (refine fork_eq (fun _ => ?_) (fun _ => ?_) <;> try simp (maxSteps := 2000000) (disch := first | assumption | omega) only [SA, SB, SC, SP, SQ, SZ, reduceIte, reduceCtorEq, Nat.reduceAdd, Nat.reduceEqDiff, beq_self_eq_true, decide_true, decide_false, Int.reduceBEq, Int.reduceLT, Int.reduceLE, cast1, S_eta, S_row, *])
    · intro i hi hp
      have hb : InB xs (i : Int) := InB_nat.2 hi
      have hb' : InB ys (i : Int) := InB_nat.2 (by omega)
      have h2 : decide ((i : Int) < xs.length) = true := by simp; omega
      have h3 : (atI xs i == atI ys i) = false := by simpa using hp
      simp (maxSteps := 2000000) (disch := first | assumption | omega) only [SA, SB, SC, SP, SQ, SZ, reduceIte, reduceCtorEq, Nat.reduceAdd, Nat.reduceEqDiff, beq_self_eq_true, decide_true, decide_false, Int.reduceBEq, Int.reduceLT, Int.reduceLE, cast1, S_eta, S_row, *] <;> repeat' (refine fork_eq (fun _ => ?_) (fun _ => ?_) <;> try simp (maxSteps := 2000000) (disch := first | assumption | omega) only [SA, SB, SC, SP, SQ, SZ, reduceIte, reduceCtorEq, Nat.reduceAdd, Nat.reduceEqDiff, beq_self_eq_true, decide_true, decide_false, Int.reduceBEq, Int.reduceLT, Int.reduceLE, cast1, S_eta, S_row, *])
    · have h2 : decide ((xs.length : Int) < xs.length) = false := by simp
      simp (maxSteps := 2000000) (disch := first | assumption | omega) only [SA, SB, SC, SP, SQ, SZ, reduceIte, reduceCtorEq, Nat.reduceAdd, Nat.reduceEqDiff, beq_self_eq_true, decide_true, decide_false, Int.reduceBEq, Int.reduceLT, Int.reduceLE, cast1, S_eta, *] <;> repeat' (refine fork_eq (fun _ => ?_) (fun _ => ?_) <;> try simp (maxSteps := 2000000) (disch := first | assumption | omega) only [SA, SB, SC, SP, SQ, SZ, reduceIte, reduceCtorEq, Nat.reduceAdd, Nat.reduceEqDiff, beq_self_eq_true, decide_true, decide_false, Int.reduceBEq, Int.reduceLT, Int.reduceLE, cast1, S_eta, *])
  · have hl' : ((xs.length : Int) == (ys.length : Int)) = false := by simp; omega
    have e := eq_len (fun h => hl h.symm)
    simp (maxSteps := 2000000) (disch := first | assumption | omega) only [SA, SB, SC, SP, SQ, SZ, reduceIte, reduceCtorEq, Nat.reduceAdd, Nat.reduceEqDiff, beq_self_eq_true, decide_true, decide_false, Int.reduceBEq, Int.reduceLT, Int.reduceLE, cast1, S_eta, *] <;> repeat' (refine fork_eq (fun _ => ?_) (fun _ => ?_) <;> try simp (maxSteps := 2000000) (disch := first | assumption | omega) only [SA, SB, SC, SP, SQ, SZ, reduceIte, reduceCtorEq, Nat.reduceAdd, Nat.reduceEqDiff, beq_self_eq_true, decide_true, decide_false, Int.reduceBEq, Int.reduceLT, Int.reduceLE, cast1, S_eta, *])
theorem spec_SameAttr (s s' : Int) (xs ys : List Int) (hx : xs.length ≤ 1099511627776) : Fun T 16 [i64 s, rL xs, i64 s', rL ys] = some [.bool (decide ((⟨s, xs⟩ : TAttr) = ⟨s', ys⟩))] := by
  rw [Fun_k (t := tm16) rfl]; unfold tm16
  have e : decide ((⟨s, xs⟩ : TAttr) = ⟨s', ys⟩) = (s == s' && decide (xs = ys)) := by simp [TAttr.mk.injEq, Bool.beq_eq_decide_eq]
  simp (maxSteps := 2000000) (disch := first | assumption | omega) only [SA, SB, SC, SP, SQ, SZ, reduceIte, reduceCtorEq, Nat.reduceAdd, Nat.reduceEqDiff, beq_self_eq_true, decide_true, decide_false, Int.reduceBEq, Int.reduceLT, Int.reduceLE, cast1, S_eta, spec_l1Same, e, *] <;> repeat' (refine fork_eq (fun _ => ?_) (fun _ => ?_) <;> try simp (maxSteps := 2000000) (disch := first | assumption | omega) only [SA, SB, SC, SP, SQ, SZ, reduceIte, reduceCtorEq, Nat.reduceAdd, Nat.reduceEqDiff, beq_self_eq_true, decide_true, decide_false, Int.reduceBEq, Int.reduceLT, Int.reduceLE, cast1, S_eta, spec_l1Same, e, *])
theorem impl_SameAttr (s s' : Int) (xs ys : List Int) (hx : xs.length ≤ 1099511627776) : Fun T 43 [i64 s, rL xs, i64 s', rL ys] = some [.bool (decide ((⟨s, xs⟩ : TAttr) = ⟨s', ys⟩))] := by
  rw [Fun_k (t := tm43) rfl]; unfold tm43
  have e : decide ((⟨s, xs⟩ : TAttr) = ⟨s', ys⟩) = (s == s' && decide (xs = ys)) := by simp [TAttr.mk.injEq, Bool.beq_eq_decide_eq]
  simp (maxSteps := 2000000) (disch := first | assumption | omega) only [SA, SB, SC, SP, SQ, SZ, reduceIte, reduceCtorEq, Nat.reduceAdd, Nat.reduceEqDiff, beq_self_eq_true, decide_true, decide_false, Int.reduceBEq, Int.reduceLT, Int.reduceLE, cast1, S_eta, slices_Equal_int, e, *] <;> repeat' (refine fork_eq (fun _ => ?_) (fun _ => ?_) <;> try simp (maxSteps := 2000000) (disch := first | assumption | omega) only [SA, SB, SC, SP, SQ, SZ, reduceIte, reduceCtorEq, Nat.reduceAdd, Nat.reduceEqDiff, beq_self_eq_true, decide_true, decide_false, Int.reduceBEq, Int.reduceLT, Int.reduceLE, cast1, S_eta, slices_Equal_int, e, *])
theorem spec_l3None (n : Int) (hg : isGrp n = true) : Fun T 15 [i64 n] = some [i64 (none0 n).seq, rL (none0 n).deps] := by
  rw [Fun_k (t := tm15) rfl]; unfold tm15; unfold none0
  have hn := isGrp_rng hg
  simp (maxSteps := 2000000) (disch := first | assumption | omega) only [SA, SB, SC, SP, SQ, SZ, reduceIte, reduceCtorEq, Nat.reduceAdd, Nat.reduceEqDiff, beq_self_eq_true, decide_true, decide_false, Int.reduceBEq, Int.reduceLT, Int.reduceLE, cast1, S_eta, S_make, *] <;> repeat' (refine fork_eq (fun _ => ?_) (fun _ => ?_) <;> try simp (maxSteps := 2000000) (disch := first | assumption | omega) only [SA, SB, SC, SP, SQ, SZ, reduceIte, reduceCtorEq, Nat.reduceAdd, Nat.reduceEqDiff, beq_self_eq_true, decide_true, decide_false, Int.reduceBEq, Int.reduceLT, Int.reduceLE, cast1, S_eta, S_make, *])
theorem impl_noneAttr (n : Int) (hg : isGrp n = true) : Fun T 42 [i64 n] = some [i64 (none0 n).seq, rL (none0 n).deps] := by
  rw [Fun_k (t := tm42) rfl]; unfold tm42; unfold none0
  have hn := isGrp_rng hg
  simp (maxSteps := 2000000) (disch := first | assumption | omega) only [SA, SB, SC, SP, SQ, SZ, reduceIte, reduceCtorEq, Nat.reduceAdd, Nat.reduceEqDiff, beq_self_eq_true, decide_true, decide_false, Int.reduceBEq, Int.reduceLT, Int.reduceLE, cast1, S_eta, S_make, *] <;> repeat' (refine fork_eq (fun _ => ?_) (fun _ => ?_) <;> try simp (maxSteps := 2000000) (disch := first | assumption | omega) only [SA, SB, SC, SP, SQ, SZ, reduceIte, reduceCtorEq, Nat.reduceAdd, Nat.reduceEqDiff, beq_self_eq_true, decide_true, decide_false, Int.reduceBEq, Int.reduceLT, Int.reduceLE, cast1, S_eta, S_make, *])
theorem spec_l4Row (n bal vot sta k i f t a sq : Int) (xs : List Int) (hg : isGrp n = true) (hx : xs.length ≤ 1099511627776) :
    Fun T 14 [i64 n, i64 bal, i64 vot, i64 sta, i64 k, i64 i, i64 f, i64 t, i64 a, i64 sq, rL xs] = some [.bool (rowOk n ⟨bal, vot, sta, ⟨k, i, f, t, a⟩, ⟨sq, xs⟩⟩)] := by
  rw [Fun_k (t := tm14) rfl]; unfold tm14; unfold rowOk
  simp (maxSteps := 2000000) (disch := first | assumption | omega) only [SA, SB, SC, SP, SQ, SZ, reduceIte, reduceCtorEq, Nat.reduceAdd, Nat.reduceEqDiff, beq_self_eq_true, decide_true, decide_false, Int.reduceBEq, Int.reduceLT, Int.reduceLE, cast1, S_eta, spec_l1In, S_eqs, spec_l3None, spec_SameAttr, spec_GoodCmd, spec_l3Attr, *] <;> repeat' (refine fork_eq (fun _ => ?_) (fun _ => ?_) <;> try simp (maxSteps := 2000000) (disch := first | assumption | omega) only [SA, SB, SC, SP, SQ, SZ, reduceIte, reduceCtorEq, Nat.reduceAdd, Nat.reduceEqDiff, beq_self_eq_true, decide_true, decide_false, Int.reduceBEq, Int.reduceLT, Int.reduceLE, cast1, S_eta, spec_l1In, S_eqs, spec_l3None, spec_SameAttr, spec_GoodCmd, spec_l3Attr, *])
theorem impl_goodRow (n bal vot sta k i f t a sq : Int) (xs : List Int) (hg : isGrp n = true) (hx : xs.length ≤ 1099511627776) :
    Fun T 34 [i64 n, i64 bal, i64 vot, i64 sta, i64 k, i64 i, i64 f, i64 t, i64 a, i64 sq, rL xs] = some [.bool (rowOk n ⟨bal, vot, sta, ⟨k, i, f, t, a⟩, ⟨sq, xs⟩⟩)] := by
  rw [Fun_k (t := tm34) rfl]; unfold tm34; unfold rowOk
  have h1 := @cmdZ_ok ⟨k, i, f, t, a⟩
  have h2 := none0_ok hg
  have h3 : decide ((⟨sq, xs⟩ : TAttr) = none0 n) = true → attrOk n ⟨sq, xs⟩ = true := fun h => by rw [of_decide_eq_true h]; exact h2
  simp (maxSteps := 2000000) (disch := first | assumption | omega) only [SA, SB, SC, SP, SQ, SZ, reduceIte, reduceCtorEq, Nat.reduceAdd, Nat.reduceEqDiff, beq_self_eq_true, decide_true, decide_false, Int.reduceBEq, Int.reduceLT, Int.reduceLE, cast1, S_eta, impl_within, S_eqs, impl_noneAttr, impl_SameAttr, impl_GoodCmd, impl_GoodAttr, *] <;> repeat' (refine fork_eq (fun _ => ?_) (fun _ => ?_) <;> try simp (maxSteps := 2000000) (disch := first | assumption | omega) only [SA, SB, SC, SP, SQ, SZ, reduceIte, reduceCtorEq, Nat.reduceAdd, Nat.reduceEqDiff, beq_self_eq_true, decide_true, decide_false, Int.reduceBEq, Int.reduceLT, Int.reduceLE, cast1, S_eta, impl_within, S_eqs, impl_noneAttr, impl_SameAttr, impl_GoodCmd, impl_GoodAttr, *])
  all_goals (refine bool_fin ?_; simp only [Bool.and_eq_true, Bool.or_eq_true, Bool.not_eq_true', Bool.not_eq_false', Bool.and_eq_false_iff, Bool.or_eq_false_iff, Bool.false_eq_true, beq_iff_eq, beq_eq_false_iff_ne, decide_eq_true_eq, decide_eq_false_iff_not, ne_eq] at *; grind)
theorem slices_Clone_int (xs : List Int) (hx : xs.length ≤ 10000000000) : Fun T 48 [rL xs] = some [rL xs] := by
  rw [Fun_ext (e := ex48) rfl]
  cases xs with
  | nil => rfl
  | cons x xs =>
    show Fun (entTab [(48, .tm tm48)]) 48 [rL (x :: xs)] = _
    rw [Fun_k (t := tm48) rfl]
    unfold tm48
    have hx' : (x :: xs).length ≤ 100000000000 := by omega
    have h0 : (Prim.mk 1 0).run [] = some [.rows 1 []] := rfl
    have h1 : (x :: xs).isEmpty = false := rfl
    simp (disch := first | assumption | omega) only [SA, SB, SC, SP, SQ, SZ, reduceIte, reduceCtorEq, Nat.reduceAdd, Nat.reduceEqDiff, rL_ne, rL_emp, h0, h1, S_app]
theorem impl_Attr_copied (s : Int) (xs : List Int) (hx : xs.length ≤ 10000000000) : Fun T 47 [i64 s, rL xs] = some [i64 s, rL xs] := by
  rw [Fun_k (t := tm47) rfl]; unfold tm47
  simp (maxSteps := 2000000) (disch := first | assumption | omega) only [SA, SB, SC, SP, SQ, SZ, reduceIte, reduceCtorEq, Nat.reduceAdd, Nat.reduceEqDiff, beq_self_eq_true, decide_true, decide_false, Int.reduceBEq, Int.reduceLT, Int.reduceLE, cast1, S_eta, slices_Clone_int, *] <;> repeat' (refine fork_eq (fun _ => ?_) (fun _ => ?_) <;> try simp (maxSteps := 2000000) (disch := first | assumption | omega) only [SA, SB, SC, SP, SQ, SZ, reduceIte, reduceCtorEq, Nat.reduceAdd, Nat.reduceEqDiff, beq_self_eq_true, decide_true, decide_false, Int.reduceBEq, Int.reduceLT, Int.reduceLE, cast1, S_eta, slices_Clone_int, *])
theorem spec_l1Own (xs : List Int) (hx : xs.length ≤ 10000000000) : Fun T 27 [rL xs] = some [rL xs] := by
  rw [Fun_k (t := tm27) rfl]; unfold tm27
  have h0 : (Prim.mk 1 0).run [] = some [.rows 1 []] := rfl
  simp (maxSteps := 2000000) (disch := first | assumption | omega) only [SA, SB, SC, SP, SQ, SZ, reduceIte, reduceCtorEq, Nat.reduceAdd, Nat.reduceEqDiff, beq_self_eq_true, decide_true, decide_false, Int.reduceBEq, Int.reduceLT, Int.reduceLE, cast1, S_eta, h0, S_app, *] <;> repeat' (refine fork_eq (fun _ => ?_) (fun _ => ?_) <;> try simp (maxSteps := 2000000) (disch := first | assumption | omega) only [SA, SB, SC, SP, SQ, SZ, reduceIte, reduceCtorEq, Nat.reduceAdd, Nat.reduceEqDiff, beq_self_eq_true, decide_true, decide_false, Int.reduceBEq, Int.reduceLT, Int.reduceLE, cast1, S_eta, h0, S_app, *])
theorem spec_l4OwnAttr (s : Int) (xs : List Int) (hx : xs.length ≤ 10000000000) : Fun T 26 [i64 s, rL xs] = some [i64 s, rL xs] := by
  rw [Fun_k (t := tm26) rfl]; unfold tm26
  simp (maxSteps := 2000000) (disch := first | assumption | omega) only [SA, SB, SC, SP, SQ, SZ, reduceIte, reduceCtorEq, Nat.reduceAdd, Nat.reduceEqDiff, beq_self_eq_true, decide_true, decide_false, Int.reduceBEq, Int.reduceLT, Int.reduceLE, cast1, S_eta, spec_l1Own, *] <;> repeat' (refine fork_eq (fun _ => ?_) (fun _ => ?_) <;> try simp (maxSteps := 2000000) (disch := first | assumption | omega) only [SA, SB, SC, SP, SQ, SZ, reduceIte, reduceCtorEq, Nat.reduceAdd, Nat.reduceEqDiff, beq_self_eq_true, decide_true, decide_false, Int.reduceBEq, Int.reduceLT, Int.reduceLE, cast1, S_eta, spec_l1Own, *])
theorem spec_l1Most (a b : Int) : Fun T 25 [i64 a, i64 b] = some [i64 (max a b)] := by
  rw [Fun_k (t := tm25) rfl]; unfold tm25
  by_cases h : b < a
  · have h2 : decide (b < a) = true := by simpa using h
    rw [Int.max_eq_left (by omega)]
    simp (maxSteps := 2000000) (disch := first | assumption | omega) only [SA, SB, SC, SP, SQ, SZ, reduceIte, reduceCtorEq, Nat.reduceAdd, Nat.reduceEqDiff, beq_self_eq_true, decide_true, decide_false, Int.reduceBEq, Int.reduceLT, Int.reduceLE, cast1, S_eta, h2]
  · have h2 : decide (b < a) = false := by simpa using h
    rw [Int.max_eq_right (by omega)]
    simp (maxSteps := 2000000) (disch := first | assumption | omega) only [SA, SB, SC, SP, SQ, SZ, reduceIte, reduceCtorEq, Nat.reduceAdd, Nat.reduceEqDiff, beq_self_eq_true, decide_true, decide_false, Int.reduceBEq, Int.reduceLT, Int.reduceLE, cast1, S_eta, h2]
theorem spec_l3Join (s s' : Int) (xs ys : List Int) (hl : xs.length ≤ ys.length) (hx : xs.length ≤ 10000000000) : Fun T 24 [i64 s, rL xs, i64 s', rL ys] = some [i64 (joinA ⟨s, xs⟩ ⟨s', ys⟩).seq, rL (joinA ⟨s, xs⟩ ⟨s', ys⟩).deps] := by
  rw [Fun_k (t := tm24) rfl]; unfold tm24; unfold joinA
  simp (maxSteps := 2000000) (disch := first | assumption | omega) only [SA, SB, SC, SP, SQ, SZ, reduceIte, reduceCtorEq, Nat.reduceAdd, Nat.reduceEqDiff, beq_self_eq_true, decide_true, decide_false, Int.reduceBEq, Int.reduceLT, Int.reduceLE, cast1, S_eta, spec_l1Most]
  rw [loopN xs.length (fun i => [i64 i, rL (joinD xs ys i)]) (.yield 1, [rL (joinD xs ys xs.length)]) rfl (by simp)]
  · simp (maxSteps := 2000000) (disch := first | assumption | omega) only [SA, SB, SC, SP, SQ, SZ, reduceIte, reduceCtorEq, Nat.reduceAdd, Nat.reduceEqDiff, beq_self_eq_true, decide_true, decide_false, Int.reduceBEq, Int.reduceLT, Int.reduceLE, cast1, S_eta]
  · intro i hi hlt
    have hb : InB xs (i : Int) := InB_nat.2 hi
    have hb2 : InB ys (i : Int) := InB_nat.2 (by omega)
    have hll : (joinD xs ys i).length + ([max (atI xs (i : Int)) (atI ys (i : Int))] : List Int).length ≤ 100000000000 := by rw [joinD_len]; simp only [List.length_cons, List.length_nil]; omega
    have e := joinD_succ xs ys i
    simp (maxSteps := 2000000) (disch := first | assumption | omega) only [SA, SB, SC, SP, SQ, SZ, reduceIte, reduceCtorEq, Nat.reduceAdd, Nat.reduceEqDiff, beq_self_eq_true, decide_true, decide_false, Int.reduceBEq, Int.reduceLT, Int.reduceLE, cast1, S_eta, S_row, S_mk, S_app, spec_l1Most, hlt, e]
  · intro hlt
    simp (maxSteps := 2000000) (disch := first | assumption | omega) only [SA, SB, SC, SP, SQ, SZ, reduceIte, reduceCtorEq, Nat.reduceAdd, Nat.reduceEqDiff, beq_self_eq_true, decide_true, decide_false, Int.reduceBEq, Int.reduceLT, Int.reduceLE, cast1, S_eta, hlt]
theorem impl_Attr_join (s s' : Int) (xs ys : List Int) (hl : xs.length ≤ ys.length) (hx : xs.length ≤ 10000000000) : Fun T 52 [i64 s, rL xs, i64 s', rL ys] = some [i64 (joinA ⟨s, xs⟩ ⟨s', ys⟩).seq, rL (joinA ⟨s, xs⟩ ⟨s', ys⟩).deps] := by
  rw [Fun_k (t := tm52) rfl]; unfold tm52; unfold joinA
  simp (maxSteps := 2000000) (disch := first | assumption | omega) only [SA, SB, SC, SP, SQ, SZ, reduceIte, reduceCtorEq, Nat.reduceAdd, Nat.reduceEqDiff, beq_self_eq_true, decide_true, decide_false, Int.reduceBEq, Int.reduceLT, Int.reduceLE, cast1, S_eta]
  rw [loopN xs.length (fun i => [i64 i, rL (joinD xs ys i)]) (.yield 1, [rL (joinD xs ys xs.length)]) rfl (by simp)]
  · simp (maxSteps := 2000000) (disch := first | assumption | omega) only [SA, SB, SC, SP, SQ, SZ, reduceIte, reduceCtorEq, Nat.reduceAdd, Nat.reduceEqDiff, beq_self_eq_true, decide_true, decide_false, Int.reduceBEq, Int.reduceLT, Int.reduceLE, cast1, S_eta]
  · intro i hi hlt
    have hb : InB xs (i : Int) := InB_nat.2 hi
    have hb2 : InB ys (i : Int) := InB_nat.2 (by omega)
    have hll : (joinD xs ys i).length + ([max (atI xs (i : Int)) (atI ys (i : Int))] : List Int).length ≤ 100000000000 := by rw [joinD_len]; simp only [List.length_cons, List.length_nil]; omega
    have e := joinD_succ xs ys i
    simp (maxSteps := 2000000) (disch := first | assumption | omega) only [SA, SB, SC, SP, SQ, SZ, reduceIte, reduceCtorEq, Nat.reduceAdd, Nat.reduceEqDiff, beq_self_eq_true, decide_true, decide_false, Int.reduceBEq, Int.reduceLT, Int.reduceLE, cast1, S_eta, S_row, S_mk, S_app, hlt, e]
  · intro hlt
    simp (maxSteps := 2000000) (disch := first | assumption | omega) only [SA, SB, SC, SP, SQ, SZ, reduceIte, reduceCtorEq, Nat.reduceAdd, Nat.reduceEqDiff, beq_self_eq_true, decide_true, decide_false, Int.reduceBEq, Int.reduceLT, Int.reduceLE, cast1, S_eta, hlt]
theorem impl_chooseOf_1 (st : Int) (seen : List TRow) (hl : seen.length ≤ 100) : Fun T 46 [i64 st, rL seen] = some [rL (bestN st seen seen.length).toList] := by
  rw [Fun_k (t := tm46) rfl]; unfold tm46
  simp (maxSteps := 2000000) (disch := first | assumption | omega) only [SA, SB, SC, SP, SQ, SZ, reduceIte, reduceCtorEq, Nat.reduceAdd, Nat.reduceEqDiff, beq_self_eq_true, decide_true, decide_false, Int.reduceBEq, Int.reduceLT, Int.reduceLE, cast1, S_eta]
  rw [loopN seen.length (fun i => [rL (bestN st seen i).toList, i64 i]) (.yield 1, [rL (bestN st seen seen.length).toList]) rfl (by simp)]
  · simp (maxSteps := 2000000) (disch := first | assumption | omega) only [SA, SB, SC, SP, SQ, SZ, reduceIte, reduceCtorEq, Nat.reduceAdd, Nat.reduceEqDiff, beq_self_eq_true, decide_true, decide_false, Int.reduceBEq, Int.reduceLT, Int.reduceLE, cast1, S_eta]
  · intro i hi hlt
    have hb : InB seen (i : Int) := InB_nat.2 hi
    show Er T _ (_ ++ [rL (bestN st seen i).toList, i64 i]) = some (.cont, [rL (bestStep st (bestN st seen i) (atI seen (i : Int))).toList, i64 ((i : Int) + 1)])
    unfold bestStep
    cases ho : bestN st seen i with
    | none =>
      cases hs : (atI seen (i : Int)).state == st
      · simp (maxSteps := 2000000) (disch := first | assumption | omega) only [SA, SB, SC, SP, SQ, SZ, reduceIte, reduceCtorEq, Nat.reduceAdd, Nat.reduceEqDiff, beq_self_eq_true, decide_true, decide_false, Int.reduceBEq, Int.reduceLT, Int.reduceLE, cast1, S_eta, S_row, S_one, rL_emp, hlt, hs, Option.toList, List.isEmpty_nil, Bool.false_eq_true]
      · simp (maxSteps := 2000000) (disch := first | assumption | omega) only [SA, SB, SC, SP, SQ, SZ, reduceIte, reduceCtorEq, Nat.reduceAdd, Nat.reduceEqDiff, beq_self_eq_true, decide_true, decide_false, Int.reduceBEq, Int.reduceLT, Int.reduceLE, cast1, S_eta, S_row, S_one, rL_emp, hlt, hs, Option.toList, List.isEmpty_nil]
    | some b =>
      have hb0 : InB [b] 0 := by unfold InB; simp
      have ha : atI [b] 0 = b := rfl
      cases hs : (atI seen (i : Int)).state == st
      · simp (maxSteps := 2000000) (disch := first | assumption | omega) only [SA, SB, SC, SP, SQ, SZ, reduceIte, reduceCtorEq, Nat.reduceAdd, Nat.reduceEqDiff, beq_self_eq_true, decide_true, decide_false, Int.reduceBEq, Int.reduceLT, Int.reduceLE, cast1, S_eta, S_row, S_one, rL_emp, hlt, hs, Option.toList, List.isEmpty_cons, Bool.false_eq_true]
      · cases hv : decide (b.vote < (atI seen (i : Int)).vote)
        · simp (maxSteps := 2000000) (disch := first | assumption | omega) only [SA, SB, SC, SP, SQ, SZ, reduceIte, reduceCtorEq, Nat.reduceAdd, Nat.reduceEqDiff, beq_self_eq_true, decide_true, decide_false, Int.reduceBEq, Int.reduceLT, Int.reduceLE, cast1, S_eta, S_row, S_one, rL_emp, rL_ne, hlt, hs, hv, ha, Option.toList, List.isEmpty_cons, Bool.false_eq_true]
        · simp (maxSteps := 2000000) (disch := first | assumption | omega) only [SA, SB, SC, SP, SQ, SZ, reduceIte, reduceCtorEq, Nat.reduceAdd, Nat.reduceEqDiff, beq_self_eq_true, decide_true, decide_false, Int.reduceBEq, Int.reduceLT, Int.reduceLE, cast1, S_eta, S_row, S_one, rL_emp, rL_ne, hlt, hs, hv, ha, Option.toList, List.isEmpty_cons]
  · intro hlt
    simp (maxSteps := 2000000) (disch := first | assumption | omega) only [SA, SB, SC, SP, SQ, SZ, reduceIte, reduceCtorEq, Nat.reduceAdd, Nat.reduceEqDiff, beq_self_eq_true, decide_true, decide_false, Int.reduceBEq, Int.reduceLT, Int.reduceLE, cast1, S_eta, hlt]
theorem impl_chooseOf_2 (r_ballot r_vote r_state r_cmd_kind r_cmd_id r_cmd_src r_cmd_dst r_cmd_amt r_attr_seq : Int) (r_attr_deps : (List Int)) (seen : List TRow) (hl : 0 < seen.length) (hx : r_attr_deps.length ≤ 1099511627776) : Fun T 51 [i64 r_ballot, i64 r_vote, i64 r_state, i64 r_cmd_kind, i64 r_cmd_id, i64 r_cmd_src, i64 r_cmd_dst, i64 r_cmd_amt, i64 r_attr_seq, rL r_attr_deps, rL seen] = some [.bool (!likeM seen ⟨r_ballot, r_vote, r_state, ⟨r_cmd_kind, r_cmd_id, r_cmd_src, r_cmd_dst, r_cmd_amt⟩, ⟨r_attr_seq, r_attr_deps⟩⟩)] := by
  rw [Fun_k (t := tm51) rfl]; unfold tm51; unfold likeM
  have hb : InB seen 0 := by unfold InB; omega
  have e : decide ((⟨r_ballot, r_vote, r_state, ⟨r_cmd_kind, r_cmd_id, r_cmd_src, r_cmd_dst, r_cmd_amt⟩, ⟨r_attr_seq, r_attr_deps⟩⟩ : TRow).attr = (atI seen 0).attr) = decide ((⟨r_attr_seq, r_attr_deps⟩ : TAttr) = ⟨(atI seen 0).attr.seq, (atI seen 0).attr.deps⟩) := rfl
  clear hl
  simp (maxSteps := 2000000) (disch := first | assumption | omega) only [SA, SB, SC, SP, SQ, SZ, reduceIte, reduceCtorEq, Nat.reduceAdd, Nat.reduceEqDiff, beq_self_eq_true, decide_true, decide_false, Int.reduceBEq, Int.reduceLT, Int.reduceLE, cast1, S_eta, S_row, S_eqs, impl_SameAttr, *] <;> repeat' (refine fork_eq (fun _ => ?_) (fun _ => ?_) <;> try simp (maxSteps := 2000000) (disch := first | assumption | omega) only [SA, SB, SC, SP, SQ, SZ, reduceIte, reduceCtorEq, Nat.reduceAdd, Nat.reduceEqDiff, beq_self_eq_true, decide_true, decide_false, Int.reduceBEq, Int.reduceLT, Int.reduceLE, cast1, S_eta, S_row, S_eqs, impl_SameAttr, *])
theorem ix_chooseOf_2 (seen : List TRow) (h0 : 0 < seen.length) (xs : List TRow) (hx : xs.length ≤ 1099511627776) (hq : ∀ x ∈ xs, x.attr.deps.length ≤ 1099511627776) : Fun T 50 [rL xs, rL seen] = some [i64 (ixF (fun r => !likeM seen r) xs)] := by
  rw [Fun_k (t := tm50) rfl]; unfold tm50
  simp (maxSteps := 2000000) (disch := first | assumption | omega) only [SA, SB, SC, SP, SQ, SZ, reduceIte, reduceCtorEq, Nat.reduceAdd, Nat.reduceEqDiff, beq_self_eq_true, decide_true, decide_false, Int.reduceBEq, Int.reduceLT, Int.reduceLE, cast1, S_eta, S_row, *]
  rw [findX 1 xs (fun r => !likeM seen r) (fun i => [i64 i])]
  · cases h : xs.any (fun r => !likeM seen r)
    · have e : ixF (fun r => !likeM seen r) xs = -1 := by
        have h2 := ixF_any (fun r => !likeM seen r) xs
        rw [h] at h2
        unfold ixF at h2 ⊢
        split at h2 <;> simp_all
      rw [e]; simp (maxSteps := 2000000) (disch := first | assumption | omega) only [SA, SB, SC, SP, SQ, SZ, reduceIte, reduceCtorEq, Nat.reduceAdd, Nat.reduceEqDiff, beq_self_eq_true, decide_true, decide_false, Int.reduceBEq, Int.reduceLT, Int.reduceLE, cast1, S_eta]
    · simp (maxSteps := 2000000) (disch := first | assumption | omega) only [SA, SB, SC, SP, SQ, SZ, reduceIte, reduceCtorEq, Nat.reduceAdd, Nat.reduceEqDiff, beq_self_eq_true, decide_true, decide_false, Int.reduceBEq, Int.reduceLT, Int.reduceLE, cast1, S_eta]
  · intro i hi hb hl hp
    have hq' := hq _ (at_mem hi)
    try simp only at hq' hp
    simp (maxSteps := 2000000) (disch := first | assumption | omega) only [SA, SB, SC, SP, SQ, SZ, reduceIte, reduceCtorEq, Nat.reduceAdd, Nat.reduceEqDiff, beq_self_eq_true, decide_true, decide_false, Int.reduceBEq, Int.reduceLT, Int.reduceLE, cast1, S_eta, S_row, impl_chooseOf_2, *] <;> repeat' (refine fork_eq (fun _ => ?_) (fun _ => ?_) <;> try simp (maxSteps := 2000000) (disch := first | assumption | omega) only [SA, SB, SC, SP, SQ, SZ, reduceIte, reduceCtorEq, Nat.reduceAdd, Nat.reduceEqDiff, beq_self_eq_true, decide_true, decide_false, Int.reduceBEq, Int.reduceLT, Int.reduceLE, cast1, S_eta, S_row, impl_chooseOf_2, *])
  · intro i hi hb hl hp
    have hq' := hq _ (at_mem hi)
    try simp only at hq' hp
    simp (maxSteps := 2000000) (disch := first | assumption | omega) only [SA, SB, SC, SP, SQ, SZ, reduceIte, reduceCtorEq, Nat.reduceAdd, Nat.reduceEqDiff, beq_self_eq_true, decide_true, decide_false, Int.reduceBEq, Int.reduceLT, Int.reduceLE, cast1, S_eta, S_row, impl_chooseOf_2, *] <;> repeat' (refine fork_eq (fun _ => ?_) (fun _ => ?_) <;> try simp (maxSteps := 2000000) (disch := first | assumption | omega) only [SA, SB, SC, SP, SQ, SZ, reduceIte, reduceCtorEq, Nat.reduceAdd, Nat.reduceEqDiff, beq_self_eq_true, decide_true, decide_false, Int.reduceBEq, Int.reduceLT, Int.reduceLE, cast1, S_eta, S_row, impl_chooseOf_2, *])
  · intro hl
    simp (maxSteps := 2000000) (disch := first | assumption | omega) only [SA, SB, SC, SP, SQ, SZ, reduceIte, reduceCtorEq, Nat.reduceAdd, Nat.reduceEqDiff, beq_self_eq_true, decide_true, decide_false, Int.reduceBEq, Int.reduceLT, Int.reduceLE, cast1, S_eta, *] <;> repeat' (refine fork_eq (fun _ => ?_) (fun _ => ?_) <;> try simp (maxSteps := 2000000) (disch := first | assumption | omega) only [SA, SB, SC, SP, SQ, SZ, reduceIte, reduceCtorEq, Nat.reduceAdd, Nat.reduceEqDiff, beq_self_eq_true, decide_true, decide_false, Int.reduceBEq, Int.reduceLT, Int.reduceLE, cast1, S_eta, *])
theorem ct_chooseOf_2 (seen : List TRow) (h0 : 0 < seen.length) (xs : List TRow) (hx : xs.length ≤ 1099511627776) (hq : ∀ x ∈ xs, x.attr.deps.length ≤ 1099511627776) : Fun T 49 [rL xs, rL seen] = some [.bool (xs.any (fun r => !likeM seen r))] := by
  rw [Fun_k (t := tm49) rfl]; unfold tm49
  simp (maxSteps := 2000000) (disch := first | assumption | omega) only [SA, SB, SC, SP, SQ, SZ, reduceIte, reduceCtorEq, Nat.reduceAdd, Nat.reduceEqDiff, beq_self_eq_true, decide_true, decide_false, Int.reduceBEq, Int.reduceLT, Int.reduceLE, cast1, S_eta, ix_chooseOf_2, ixF_any, *] <;> repeat' (refine fork_eq (fun _ => ?_) (fun _ => ?_) <;> try simp (maxSteps := 2000000) (disch := first | assumption | omega) only [SA, SB, SC, SP, SQ, SZ, reduceIte, reduceCtorEq, Nat.reduceAdd, Nat.reduceEqDiff, beq_self_eq_true, decide_true, decide_false, Int.reduceBEq, Int.reduceLT, Int.reduceLE, cast1, S_eta, ix_chooseOf_2, ixF_any, *])
theorem impl_isMajority (n k : Int) (hg : isGrp n = true) : Fun T 30 [i64 n, i64 k] = some [.bool (decide (n / 2 < k))] := by
  rw [Fun_k (t := tm30) rfl]; unfold tm30
  have hn := isGrp_rng hg
  simp (maxSteps := 2000000) (disch := first | assumption | omega) only [SA, SB, SC, SP, SQ, SZ, reduceIte, reduceCtorEq, Nat.reduceAdd, Nat.reduceEqDiff, beq_self_eq_true, decide_true, decide_false, Int.reduceBEq, Int.reduceLT, Int.reduceLE, cast1, S_eta]
theorem spec_Majority (n : Int) : Fun T 11 [i64 n] = some [i64 (if isGrp n then n / 2 + 1 else 0), .bool (isGrp n)] := by
  rw [Fun_k (t := tm11) rfl]; unfold tm11
  cases hg : isGrp n
  · simp (maxSteps := 2000000) (disch := first | assumption | omega) only [SA, SB, SC, SP, SQ, SZ, reduceIte, reduceCtorEq, Nat.reduceAdd, Nat.reduceEqDiff, beq_self_eq_true, decide_true, decide_false, Int.reduceBEq, Int.reduceLT, Int.reduceLE, cast1, S_eta, spec_IsGroup, hg, Bool.false_eq_true]
  · have hn := isGrp_rng hg
    simp (maxSteps := 2000000) (disch := first | assumption | omega) only [SA, SB, SC, SP, SQ, SZ, reduceIte, reduceCtorEq, Nat.reduceAdd, Nat.reduceEqDiff, beq_self_eq_true, decide_true, decide_false, Int.reduceBEq, Int.reduceLT, Int.reduceLE, cast1, S_eta, spec_IsGroup, hg]
theorem impl_ChooseOf_1 (r_ballot r_vote r_state r_cmd_kind r_cmd_id r_cmd_src r_cmd_dst r_cmd_amt r_attr_seq : Int) (r_attr_deps : (List Int)) (n : Int) (hg : isGrp n = true) (hx : r_attr_deps.length ≤ 1099511627776) : Fun T 33 [i64 r_ballot, i64 r_vote, i64 r_state, i64 r_cmd_kind, i64 r_cmd_id, i64 r_cmd_src, i64 r_cmd_dst, i64 r_cmd_amt, i64 r_attr_seq, rL r_attr_deps, i64 n] = some [.bool (!(rowOk n ⟨r_ballot, r_vote, r_state, ⟨r_cmd_kind, r_cmd_id, r_cmd_src, r_cmd_dst, r_cmd_amt⟩, ⟨r_attr_seq, r_attr_deps⟩⟩ && !(r_state == 3)))] := by
  rw [Fun_k (t := tm33) rfl]; unfold tm33
  simp (maxSteps := 2000000) (disch := first | assumption | omega) only [SA, SB, SC, SP, SQ, SZ, reduceIte, reduceCtorEq, Nat.reduceAdd, Nat.reduceEqDiff, beq_self_eq_true, decide_true, decide_false, Int.reduceBEq, Int.reduceLT, Int.reduceLE, cast1, S_eta, impl_goodRow, Bool.not_not, *] <;> repeat' (refine fork_eq (fun _ => ?_) (fun _ => ?_) <;> try simp (maxSteps := 2000000) (disch := first | assumption | omega) only [SA, SB, SC, SP, SQ, SZ, reduceIte, reduceCtorEq, Nat.reduceAdd, Nat.reduceEqDiff, beq_self_eq_true, decide_true, decide_false, Int.reduceBEq, Int.reduceLT, Int.reduceLE, cast1, S_eta, impl_goodRow, Bool.not_not, *])
theorem ix_ChooseOf_1 (n : Int) (hg : isGrp n = true) (xs : List TRow) (hx : xs.length ≤ 1099511627776) (hq : ∀ x ∈ xs, x.attr.deps.length ≤ 1099511627776) : Fun T 32 [rL xs, i64 n] = some [i64 (ixF (fun r => !(rowOk n r && !(r.state == 3))) xs)] := by
  rw [Fun_k (t := tm32) rfl]; unfold tm32
  simp (maxSteps := 2000000) (disch := first | assumption | omega) only [SA, SB, SC, SP, SQ, SZ, reduceIte, reduceCtorEq, Nat.reduceAdd, Nat.reduceEqDiff, beq_self_eq_true, decide_true, decide_false, Int.reduceBEq, Int.reduceLT, Int.reduceLE, cast1, S_eta, S_row, *]
  rw [findX 1 xs (fun r => !(rowOk n r && !(r.state == 3))) (fun i => [i64 i])]
  · cases h : xs.any (fun r => !(rowOk n r && !(r.state == 3)))
    · have e : ixF (fun r => !(rowOk n r && !(r.state == 3))) xs = -1 := by
        have h2 := ixF_any (fun r => !(rowOk n r && !(r.state == 3))) xs
        rw [h] at h2
        unfold ixF at h2 ⊢
        split at h2 <;> simp_all
      rw [e]; simp (maxSteps := 2000000) (disch := first | assumption | omega) only [SA, SB, SC, SP, SQ, SZ, reduceIte, reduceCtorEq, Nat.reduceAdd, Nat.reduceEqDiff, beq_self_eq_true, decide_true, decide_false, Int.reduceBEq, Int.reduceLT, Int.reduceLE, cast1, S_eta]
    · simp (maxSteps := 2000000) (disch := first | assumption | omega) only [SA, SB, SC, SP, SQ, SZ, reduceIte, reduceCtorEq, Nat.reduceAdd, Nat.reduceEqDiff, beq_self_eq_true, decide_true, decide_false, Int.reduceBEq, Int.reduceLT, Int.reduceLE, cast1, S_eta]
  · intro i hi hb hl hp
    have hq' := hq _ (at_mem hi)
    try simp only at hq' hp
    simp (maxSteps := 2000000) (disch := first | assumption | omega) only [SA, SB, SC, SP, SQ, SZ, reduceIte, reduceCtorEq, Nat.reduceAdd, Nat.reduceEqDiff, beq_self_eq_true, decide_true, decide_false, Int.reduceBEq, Int.reduceLT, Int.reduceLE, cast1, S_eta, S_row, impl_ChooseOf_1, *] <;> repeat' (refine fork_eq (fun _ => ?_) (fun _ => ?_) <;> try simp (maxSteps := 2000000) (disch := first | assumption | omega) only [SA, SB, SC, SP, SQ, SZ, reduceIte, reduceCtorEq, Nat.reduceAdd, Nat.reduceEqDiff, beq_self_eq_true, decide_true, decide_false, Int.reduceBEq, Int.reduceLT, Int.reduceLE, cast1, S_eta, S_row, impl_ChooseOf_1, *])
  · intro i hi hb hl hp
    have hq' := hq _ (at_mem hi)
    try simp only at hq' hp
    simp (maxSteps := 2000000) (disch := first | assumption | omega) only [SA, SB, SC, SP, SQ, SZ, reduceIte, reduceCtorEq, Nat.reduceAdd, Nat.reduceEqDiff, beq_self_eq_true, decide_true, decide_false, Int.reduceBEq, Int.reduceLT, Int.reduceLE, cast1, S_eta, S_row, impl_ChooseOf_1, *] <;> repeat' (refine fork_eq (fun _ => ?_) (fun _ => ?_) <;> try simp (maxSteps := 2000000) (disch := first | assumption | omega) only [SA, SB, SC, SP, SQ, SZ, reduceIte, reduceCtorEq, Nat.reduceAdd, Nat.reduceEqDiff, beq_self_eq_true, decide_true, decide_false, Int.reduceBEq, Int.reduceLT, Int.reduceLE, cast1, S_eta, S_row, impl_ChooseOf_1, *])
  · intro hl
    simp (maxSteps := 2000000) (disch := first | assumption | omega) only [SA, SB, SC, SP, SQ, SZ, reduceIte, reduceCtorEq, Nat.reduceAdd, Nat.reduceEqDiff, beq_self_eq_true, decide_true, decide_false, Int.reduceBEq, Int.reduceLT, Int.reduceLE, cast1, S_eta, *] <;> repeat' (refine fork_eq (fun _ => ?_) (fun _ => ?_) <;> try simp (maxSteps := 2000000) (disch := first | assumption | omega) only [SA, SB, SC, SP, SQ, SZ, reduceIte, reduceCtorEq, Nat.reduceAdd, Nat.reduceEqDiff, beq_self_eq_true, decide_true, decide_false, Int.reduceBEq, Int.reduceLT, Int.reduceLE, cast1, S_eta, *])
theorem ct_ChooseOf_1 (n : Int) (hg : isGrp n = true) (xs : List TRow) (hx : xs.length ≤ 1099511627776) (hq : ∀ x ∈ xs, x.attr.deps.length ≤ 1099511627776) : Fun T 31 [rL xs, i64 n] = some [.bool (xs.any (fun r => !(rowOk n r && !(r.state == 3))))] := by
  rw [Fun_k (t := tm31) rfl]; unfold tm31
  simp (maxSteps := 2000000) (disch := first | assumption | omega) only [SA, SB, SC, SP, SQ, SZ, reduceIte, reduceCtorEq, Nat.reduceAdd, Nat.reduceEqDiff, beq_self_eq_true, decide_true, decide_false, Int.reduceBEq, Int.reduceLT, Int.reduceLE, cast1, S_eta, ix_ChooseOf_1, ixF_any, *] <;> repeat' (refine fork_eq (fun _ => ?_) (fun _ => ?_) <;> try simp (maxSteps := 2000000) (disch := first | assumption | omega) only [SA, SB, SC, SP, SQ, SZ, reduceIte, reduceCtorEq, Nat.reduceAdd, Nat.reduceEqDiff, beq_self_eq_true, decide_true, decide_false, Int.reduceBEq, Int.reduceLT, Int.reduceLE, cast1, S_eta, ix_ChooseOf_1, ixF_any, *])
theorem impl_chooseOf (n : Int) (seen : List TRow) (hg : isGrp n = true) (h0 : 0 < seen.length) (hl : seen.length ≤ 5) (hr : ∀ r ∈ seen, rowOk n r = true) :
    Fun T 45 [i64 n, rL seen] = some [i64 (chooseM n seen).1, i64 (chooseM n seen).2.1.kind, i64 (chooseM n seen).2.1.id, i64 (chooseM n seen).2.1.src, i64 (chooseM n seen).2.1.dst, i64 (chooseM n seen).2.1.amt, i64 (chooseM n seen).2.2.seq, rL (chooseM n seen).2.2.deps] := by
  rw [Fun_k (t := tm45) rfl]; unfold tm45; unfold chooseM
  have hn := isGrp_rng hg
  have hd : ∀ r ∈ seen, r.attr.deps.length ≤ 5 := fun r hr' => by have := rowOk_deps (hr r hr') hg; omega
  have hd2 : ∀ r ∈ seen, r.attr.deps.length ≤ 1099511627776 := fun r hr' => by have := hd r hr'; omega
  have hb0 : InB seen 0 := by unfold InB; omega
  have hl2 : seen.length ≤ 100 := by omega
  have hl3 : seen.length ≤ 1099511627776 := by omega
  cases h2 : bestN 2 seen seen.length with
  | some b =>
    have hb : b ∈ seen := by
      rw [accN_best] at h2
      have h1 := accN_rng 2 seen seen.length
      split at h2
      · cases h2
      · simp only [Option.some.injEq] at h2
        subst h2
        exact at_memI (by unfold InB; omega)
    have hbl := hd _ hb
    have hb1 : InB [b] 0 := by unfold InB; simp
    have ha : atI [b] 0 = b := rfl
    simp (maxSteps := 2000000) (disch := first | assumption | omega) only [SA, SB, SC, SP, SQ, SZ, reduceIte, reduceCtorEq, Nat.reduceAdd, Nat.reduceEqDiff, beq_self_eq_true, decide_true, decide_false, Int.reduceBEq, Int.reduceLT, Int.reduceLE, cast1, S_eta, impl_chooseOf_1, h2, rL_emp, rL_ne, S_row, impl_Attr_copied, ha, Option.toList, List.isEmpty_cons]
  | none =>
    have hll : likeN seen seen.length = seen.all fun r => likeM seen r := allB_all seen _
    have e : (seen.any fun r => !likeM seen r) = !likeN seen seen.length := by rw [hll, List.not_all_eq_any_not]
    cases hk : likeN seen seen.length
    · cases h1 : bestN 1 seen seen.length with
      | none => simp (maxSteps := 2000000) (disch := first | assumption | omega) only [SA, SB, SC, SP, SQ, SZ, reduceIte, reduceCtorEq, Nat.reduceAdd, Nat.reduceEqDiff, beq_self_eq_true, decide_true, decide_false, Int.reduceBEq, Int.reduceLT, Int.reduceLE, cast1, S_eta, impl_chooseOf_1, h1, h2, rL_emp, rL_ne, S_row, ct_chooseOf_2, e, hk, impl_noneAttr, Option.toList, List.isEmpty_nil, Bool.false_eq_true]
      | some b =>
        have hb1 : InB [b] 0 := by unfold InB; simp
        have ha : atI [b] 0 = b := rfl
        simp (maxSteps := 2000000) (disch := first | assumption | omega) only [SA, SB, SC, SP, SQ, SZ, reduceIte, reduceCtorEq, Nat.reduceAdd, Nat.reduceEqDiff, beq_self_eq_true, decide_true, decide_false, Int.reduceBEq, Int.reduceLT, Int.reduceLE, cast1, S_eta, impl_chooseOf_1, h1, h2, rL_emp, rL_ne, S_row, ct_chooseOf_2, e, hk, impl_noneAttr, Option.toList, List.isEmpty_nil, List.isEmpty_cons, Bool.false_eq_true]
        rw [loopN seen.length (fun i => [i64 i, i64 (joinN n seen i).seq, rL (joinN n seen i).deps]) (.yield 1, [i64 (joinN n seen seen.length).seq, rL (joinN n seen seen.length).deps]) rfl (by simp)]
        · simp (maxSteps := 2000000) (disch := first | assumption | omega) only [SA, SB, SC, SP, SQ, SZ, reduceIte, reduceCtorEq, Nat.reduceAdd, Nat.reduceEqDiff, beq_self_eq_true, decide_true, decide_false, Int.reduceBEq, Int.reduceLT, Int.reduceLE, cast1, S_eta, S_row, rL_ne, ha]
        · intro i hi hlt
          have hb : InB seen (i : Int) := InB_nat.2 hi
          have hjl := joinN_len n seen i
          have hrd := rowOk_deps (hr _ (at_mem hi)) hg
          show _ = some (Kind.cont, [i64 ((i : Int) + 1), i64 (joinN n seen (i + 1)).seq, rL (joinN n seen (i + 1)).deps])
          rw [joinN_succ]
          cases hs : (atI seen (i : Int)).state == 1
          · simp (maxSteps := 2000000) (disch := first | assumption | omega) only [SA, SB, SC, SP, SQ, SZ, reduceIte, reduceCtorEq, Nat.reduceAdd, Nat.reduceEqDiff, beq_self_eq_true, decide_true, decide_false, Int.reduceBEq, Int.reduceLT, Int.reduceLE, cast1, S_eta, S_row, hlt, hs, Bool.false_eq_true]
          · simp (maxSteps := 2000000) (disch := first | assumption | omega) only [SA, SB, SC, SP, SQ, SZ, reduceIte, reduceCtorEq, Nat.reduceAdd, Nat.reduceEqDiff, beq_self_eq_true, decide_true, decide_false, Int.reduceBEq, Int.reduceLT, Int.reduceLE, cast1, S_eta, S_row, hlt, hs, impl_Attr_join]
        · intro hlt
          simp (maxSteps := 2000000) (disch := first | assumption | omega) only [SA, SB, SC, SP, SQ, SZ, reduceIte, reduceCtorEq, Nat.reduceAdd, Nat.reduceEqDiff, beq_self_eq_true, decide_true, decide_false, Int.reduceBEq, Int.reduceLT, Int.reduceLE, cast1, S_eta, hlt]
    · have hbl := hd _ (at_memI hb0)
      simp (maxSteps := 2000000) (disch := first | assumption | omega) only [SA, SB, SC, SP, SQ, SZ, reduceIte, reduceCtorEq, Nat.reduceAdd, Nat.reduceEqDiff, beq_self_eq_true, decide_true, decide_false, Int.reduceBEq, Int.reduceLT, Int.reduceLE, cast1, S_eta, impl_chooseOf_1, h2, rL_emp, rL_ne, S_row, ct_chooseOf_2, e, hk, impl_Attr_copied, Option.toList, List.isEmpty_nil, Bool.false_eq_true]
theorem spec_l8Choose (n : Int) (seen : List TRow) (hg : isGrp n = true) (h0 : 0 < seen.length) (hl : seen.length ≤ 5) (hr : ∀ r ∈ seen, rowOk n r = true) :
    Fun T 23 [i64 n, rL seen] = some [i64 (chooseM n seen).1, i64 (chooseM n seen).2.1.kind, i64 (chooseM n seen).2.1.id, i64 (chooseM n seen).2.1.src, i64 (chooseM n seen).2.1.dst, i64 (chooseM n seen).2.1.amt, i64 (chooseM n seen).2.2.seq, rL (chooseM n seen).2.2.deps] := by
  rw [Fun_k (t := tm23) rfl]; unfold tm23; unfold chooseM
  have hn := isGrp_rng hg
  have hd : ∀ r ∈ seen, r.attr.deps.length ≤ 5 := fun r hr' => by have := rowOk_deps (hr r hr') hg; omega
  have hb0 : InB seen 0 := by unfold InB; omega
  simp (maxSteps := 2000000) (disch := first | assumption | omega) only [SA, SB, SC, SP, SQ, SZ, reduceIte, reduceCtorEq, Nat.reduceAdd, Nat.reduceEqDiff, beq_self_eq_true, decide_true, decide_false, Int.reduceBEq, Int.reduceLT, Int.reduceLE, cast1, S_eta, spec_l3None]
  rw [loopN seen.length (fun i => [i64 (accN 2 seen i), i64 (accN 1 seen i), .bool (likeN seen i), i64 i, i64 (joinN n seen i).seq, rL (joinN n seen i).deps]) (.yield 1, [i64 (accN 2 seen seen.length), i64 (accN 1 seen seen.length), .bool (likeN seen seen.length), i64 (joinN n seen seen.length).seq, rL (joinN n seen seen.length).deps]) rfl (by simp)]
  · rw [accN_best, accN_best]
    have q1 := accN_rng 1 seen seen.length
    have q2 := accN_rng 2 seen seen.length
    generalize accN 2 seen seen.length = p2 at q2 ⊢
    generalize accN 1 seen seen.length = p1 at q1 ⊢
    by_cases c2 : p2 < 0
    · have d2 : decide (0 ≤ p2) = false := by simp; omega
      rw [if_pos c2]
      cases hk : likeN seen seen.length
      · by_cases c1 : p1 < 0
        · have d1 : decide (0 ≤ p1) = false := by simp; omega
          rw [if_pos c1]
          simp (maxSteps := 2000000) (disch := first | assumption | omega) only [SA, SB, SC, SP, SQ, SZ, reduceIte, reduceCtorEq, Nat.reduceAdd, Nat.reduceEqDiff, beq_self_eq_true, decide_true, decide_false, Int.reduceBEq, Int.reduceLT, Int.reduceLE, cast1, S_eta, d1, d2, hk, spec_l3None, Bool.false_eq_true]
        · have d1 : decide (0 ≤ p1) = true := by simp; omega
          have hb1 : InB seen p1 := by unfold InB; omega
          rw [if_neg c1]
          simp (maxSteps := 2000000) (disch := first | assumption | omega) only [SA, SB, SC, SP, SQ, SZ, reduceIte, reduceCtorEq, Nat.reduceAdd, Nat.reduceEqDiff, beq_self_eq_true, decide_true, decide_false, Int.reduceBEq, Int.reduceLT, Int.reduceLE, cast1, S_eta, d1, d2, hk, S_row, Bool.false_eq_true]
      · have hbl := hd _ (at_memI hb0)
        simp (maxSteps := 2000000) (disch := first | assumption | omega) only [SA, SB, SC, SP, SQ, SZ, reduceIte, reduceCtorEq, Nat.reduceAdd, Nat.reduceEqDiff, beq_self_eq_true, decide_true, decide_false, Int.reduceBEq, Int.reduceLT, Int.reduceLE, cast1, S_eta, d2, hk, S_row, spec_l4OwnAttr]
    · have d2 : decide (0 ≤ p2) = true := by simp; omega
      have hb2 : InB seen p2 := by unfold InB; omega
      have hbl := hd _ (at_memI hb2)
      rw [if_neg c2]
      simp (maxSteps := 2000000) (disch := first | assumption | omega) only [SA, SB, SC, SP, SQ, SZ, reduceIte, reduceCtorEq, Nat.reduceAdd, Nat.reduceEqDiff, beq_self_eq_true, decide_true, decide_false, Int.reduceBEq, Int.reduceLT, Int.reduceLE, cast1, S_eta, d2, S_row, spec_l4OwnAttr]
  · intro i hi hlt
    have hb : InB seen (i : Int) := InB_nat.2 hi
    have hjl := joinN_len n seen i
    have hrd := rowOk_deps (hr _ (at_mem hi)) hg
    have hrd2 := hd _ (at_mem hi)
    have q1 := accN_rng 1 seen i
    have q2 := accN_rng 2 seen i
    have hlk : likeN seen (i + 1) = (likeN seen i && likeM seen (atI seen (i : Int))) := rfl
    have e9 : decide ((atI seen (i : Int)).attr = (atI seen 0).attr) = decide ((⟨(atI seen (i : Int)).attr.seq, (atI seen (i : Int)).attr.deps⟩ : TAttr) = ⟨(atI seen 0).attr.seq, (atI seen 0).attr.deps⟩) := rfl
    have hcase : (atI seen (i : Int)).state = 2 ∨ (atI seen (i : Int)).state = 1 ∨ ((atI seen (i : Int)).state == 2) = false ∧ ((atI seen (i : Int)).state == 1) = false := by
      by_cases h1 : (atI seen (i : Int)).state = 2
      · exact .inl h1
      · by_cases h2 : (atI seen (i : Int)).state = 1
        · exact .inr (.inl h2)
        · exact .inr (.inr ⟨by simpa using h1, by simpa using h2⟩)
    show _ = some (Kind.cont, [i64 (accN 2 seen (i + 1)), i64 (accN 1 seen (i + 1)), .bool (likeN seen (i + 1)), i64 ((i : Int) + 1), i64 (joinN n seen (i + 1)).seq, rL (joinN n seen (i + 1)).deps])
    rw [hlk]
    rw [joinN_succ, accN_succ, accN_succ]
    unfold likeM
    generalize accN 2 seen i = p2 at q2 ⊢
    generalize accN 1 seen i = p1 at q1 ⊢
    generalize joinN n seen i = jj at hjl ⊢
    generalize likeN seen i = lk
    have hjj : jj.deps.length ≤ (atI seen (i : Int)).attr.deps.length := by omega
    have hjj2 : jj.deps.length ≤ 10000000000 := by omega
    have hrd3 : (atI seen (i : Int)).attr.deps.length ≤ 1099511627776 := by omega
    rcases hcase with h | h | ⟨h1, h2⟩
    · by_cases c2 : p2 < 0
      · have d2 : decide (p2 < 0) = true := by simpa using c2
        simp (maxSteps := 2000000) (disch := first | assumption | omega) only [SA, SB, SC, SP, SQ, SZ, reduceIte, reduceCtorEq, Nat.reduceAdd, Nat.reduceEqDiff, beq_self_eq_true, decide_true, decide_false, Int.reduceBEq, Int.reduceLT, Int.reduceLE, cast1, S_eta, S_row, S_eqs, hlt, h, d2] <;> repeat' (refine fork_eq (fun _ => ?_) (fun _ => ?_) <;> try simp (maxSteps := 2000000) (disch := first | assumption | omega) only [SA, SB, SC, SP, SQ, SZ, reduceIte, reduceCtorEq, Nat.reduceAdd, Nat.reduceEqDiff, beq_self_eq_true, decide_true, decide_false, Int.reduceBEq, Int.reduceLT, Int.reduceLE, cast1, S_eta, S_row, S_eqs, *, h, spec_SameAttr])
      · have d2 : decide (p2 < 0) = false := by simpa using c2
        have hb2 : InB seen p2 := by unfold InB; omega
        simp (maxSteps := 2000000) (disch := first | assumption | omega) only [SA, SB, SC, SP, SQ, SZ, reduceIte, reduceCtorEq, Nat.reduceAdd, Nat.reduceEqDiff, beq_self_eq_true, decide_true, decide_false, Int.reduceBEq, Int.reduceLT, Int.reduceLE, cast1, S_eta, S_row, S_eqs, hlt, h, d2] <;> repeat' (refine fork_eq (fun _ => ?_) (fun _ => ?_) <;> try simp (maxSteps := 2000000) (disch := first | assumption | omega) only [SA, SB, SC, SP, SQ, SZ, reduceIte, reduceCtorEq, Nat.reduceAdd, Nat.reduceEqDiff, beq_self_eq_true, decide_true, decide_false, Int.reduceBEq, Int.reduceLT, Int.reduceLE, cast1, S_eta, S_row, S_eqs, *, h, spec_SameAttr])
    · by_cases c1 : p1 < 0
      · have d1 : decide (p1 < 0) = true := by simpa using c1
        simp (maxSteps := 2000000) (disch := first | assumption | omega) only [SA, SB, SC, SP, SQ, SZ, reduceIte, reduceCtorEq, Nat.reduceAdd, Nat.reduceEqDiff, beq_self_eq_true, decide_true, decide_false, Int.reduceBEq, Int.reduceLT, Int.reduceLE, cast1, S_eta, S_row, S_eqs, hlt, h, d1, spec_l3Join] <;> repeat' (refine fork_eq (fun _ => ?_) (fun _ => ?_) <;> try simp (maxSteps := 2000000) (disch := first | assumption | omega) only [SA, SB, SC, SP, SQ, SZ, reduceIte, reduceCtorEq, Nat.reduceAdd, Nat.reduceEqDiff, beq_self_eq_true, decide_true, decide_false, Int.reduceBEq, Int.reduceLT, Int.reduceLE, cast1, S_eta, S_row, S_eqs, *, h, spec_SameAttr, spec_l3Join])
      · have d1 : decide (p1 < 0) = false := by simpa using c1
        have hb1 : InB seen p1 := by unfold InB; omega
        simp (maxSteps := 2000000) (disch := first | assumption | omega) only [SA, SB, SC, SP, SQ, SZ, reduceIte, reduceCtorEq, Nat.reduceAdd, Nat.reduceEqDiff, beq_self_eq_true, decide_true, decide_false, Int.reduceBEq, Int.reduceLT, Int.reduceLE, cast1, S_eta, S_row, S_eqs, hlt, h, d1, spec_l3Join] <;> repeat' (refine fork_eq (fun _ => ?_) (fun _ => ?_) <;> try simp (maxSteps := 2000000) (disch := first | assumption | omega) only [SA, SB, SC, SP, SQ, SZ, reduceIte, reduceCtorEq, Nat.reduceAdd, Nat.reduceEqDiff, beq_self_eq_true, decide_true, decide_false, Int.reduceBEq, Int.reduceLT, Int.reduceLE, cast1, S_eta, S_row, S_eqs, *, h, spec_SameAttr, spec_l3Join])
    · simp (maxSteps := 2000000) (disch := first | assumption | omega) only [SA, SB, SC, SP, SQ, SZ, reduceIte, reduceCtorEq, Nat.reduceAdd, Nat.reduceEqDiff, beq_self_eq_true, decide_true, decide_false, Int.reduceBEq, Int.reduceLT, Int.reduceLE, cast1, S_eta, S_row, S_eqs, hlt, h1, h2] <;> repeat' (refine fork_eq (fun _ => ?_) (fun _ => ?_) <;> try simp (maxSteps := 2000000) (disch := first | assumption | omega) only [SA, SB, SC, SP, SQ, SZ, reduceIte, reduceCtorEq, Nat.reduceAdd, Nat.reduceEqDiff, beq_self_eq_true, decide_true, decide_false, Int.reduceBEq, Int.reduceLT, Int.reduceLE, cast1, S_eta, S_row, S_eqs, *, spec_SameAttr])
  · intro hlt
    simp (maxSteps := 2000000) (disch := first | assumption | omega) only [SA, SB, SC, SP, SQ, SZ, reduceIte, reduceCtorEq, Nat.reduceAdd, Nat.reduceEqDiff, beq_self_eq_true, decide_true, decide_false, Int.reduceBEq, Int.reduceLT, Int.reduceLE, cast1, S_eta, hlt]
theorem spec_ChooseOf (n : Int) (seen : List TRow) (hs : smRows seen) : Fun T 10 [i64 n, rL seen] = some [i64 (chooseR n seen).1, i64 (chooseR n seen).2.1.kind, i64 (chooseR n seen).2.1.id, i64 (chooseR n seen).2.1.src, i64 (chooseR n seen).2.1.dst, i64 (chooseR n seen).2.1.amt, i64 (chooseR n seen).2.2.1.seq, rL (chooseR n seen).2.2.1.deps, .bool (chooseR n seen).2.2.2] := by
  rw [Fun_k (t := tm10) rfl]; unfold tm10; unfold chooseR
  obtain ⟨hs1, hs2⟩ := hs
  cases hg : isGrp n
  · have e : seenOk n seen = false := by unfold seenOk; rw [hg]; simp
    simp (maxSteps := 2000000) (disch := first | assumption | omega) only [SA, SB, SC, SP, SQ, SZ, reduceIte, reduceCtorEq, Nat.reduceAdd, Nat.reduceEqDiff, beq_self_eq_true, decide_true, decide_false, Int.reduceBEq, Int.reduceLT, Int.reduceLE, cast1, S_eta, spec_Majority, hg, e, S_nil, Bool.false_eq_true]
  have hn := isGrp_rng hg
  by_cases h1 : n / 2 < (seen.length : Int)
  rotate_left
  · have e : seenOk n seen = false := by unfold seenOk; simp [h1]
    have d : inR (seen.length : Int) (n / 2 + 1) n = false := by unfold inR; simp; omega
    simp (maxSteps := 2000000) (disch := first | assumption | omega) only [SA, SB, SC, SP, SQ, SZ, reduceIte, reduceCtorEq, Nat.reduceAdd, Nat.reduceEqDiff, beq_self_eq_true, decide_true, decide_false, Int.reduceBEq, Int.reduceLT, Int.reduceLE, cast1, S_eta, spec_Majority, spec_l1In, hg, e, d, S_nil, Bool.false_eq_true]
  by_cases h2 : (seen.length : Int) ≤ n
  rotate_left
  · have e : seenOk n seen = false := by unfold seenOk; simp [h2]
    have d : inR (seen.length : Int) (n / 2 + 1) n = false := by unfold inR; simp; omega
    simp (maxSteps := 2000000) (disch := first | assumption | omega) only [SA, SB, SC, SP, SQ, SZ, reduceIte, reduceCtorEq, Nat.reduceAdd, Nat.reduceEqDiff, beq_self_eq_true, decide_true, decide_false, Int.reduceBEq, Int.reduceLT, Int.reduceLE, cast1, S_eta, spec_Majority, spec_l1In, hg, e, d, S_nil, Bool.false_eq_true]
  have d : inR (seen.length : Int) (n / 2 + 1) n = true := by unfold inR; simp; omega
  simp (maxSteps := 2000000) (disch := first | assumption | omega) only [SA, SB, SC, SP, SQ, SZ, reduceIte, reduceCtorEq, Nat.reduceAdd, Nat.reduceEqDiff, beq_self_eq_true, decide_true, decide_false, Int.reduceBEq, Int.reduceLT, Int.reduceLE, cast1, S_eta, spec_Majority, spec_l1In, hg, d, Bool.false_eq_true]
  rw [allF 1 seen (fun r => rowOk n r && !(r.state == 3)) [i64 0, i64 0, i64 0, i64 0, i64 0, i64 0, i64 0, .rows 1 [], .bool false]]
  · cases ha : seen.all fun r => rowOk n r && !(r.state == 3)
    · have e : seenOk n seen = false := by unfold seenOk; rw [ha]; simp
      simp (maxSteps := 2000000) (disch := first | assumption | omega) only [SA, SB, SC, SP, SQ, SZ, reduceIte, reduceCtorEq, Nat.reduceAdd, Nat.reduceEqDiff, beq_self_eq_true, decide_true, decide_false, Int.reduceBEq, Int.reduceLT, Int.reduceLE, cast1, S_eta, e, S_nil, Bool.false_eq_true]
    · have e : seenOk n seen = true := by unfold seenOk; rw [ha, hg]; simp [h1, h2]
      obtain ⟨-, -, -, hr⟩ := seenOk_spec e
      have hr' : ∀ r ∈ seen, rowOk n r = true := fun r h => (hr r h).1
      have h0 : 0 < seen.length := by omega
      have h5 : seen.length ≤ 5 := by omega
      simp (maxSteps := 2000000) (disch := first | assumption | omega) only [SA, SB, SC, SP, SQ, SZ, reduceIte, reduceCtorEq, Nat.reduceAdd, Nat.reduceEqDiff, beq_self_eq_true, decide_true, decide_false, Int.reduceBEq, Int.reduceLT, Int.reduceLE, cast1, S_eta, e, spec_l8Choose]
  · intro i hi hb hlt hm
    have hq := hs2 _ hm
    simp (maxSteps := 2000000) (disch := first | assumption | omega) only [SA, SB, SC, SP, SQ, SZ, reduceIte, reduceCtorEq, Nat.reduceAdd, Nat.reduceEqDiff, beq_self_eq_true, decide_true, decide_false, Int.reduceBEq, Int.reduceLT, Int.reduceLE, cast1, S_eta, S_row, spec_l4Row, *] <;> repeat' (refine fork_eq (fun _ => ?_) (fun _ => ?_) <;> try simp (maxSteps := 2000000) (disch := first | assumption | omega) only [SA, SB, SC, SP, SQ, SZ, reduceIte, reduceCtorEq, Nat.reduceAdd, Nat.reduceEqDiff, beq_self_eq_true, decide_true, decide_false, Int.reduceBEq, Int.reduceLT, Int.reduceLE, cast1, S_eta, S_row, spec_l4Row, *])
  · intro hlt
    simp (maxSteps := 2000000) (disch := first | assumption | omega) only [SA, SB, SC, SP, SQ, SZ, reduceIte, reduceCtorEq, Nat.reduceAdd, Nat.reduceEqDiff, beq_self_eq_true, decide_true, decide_false, Int.reduceBEq, Int.reduceLT, Int.reduceLE, cast1, S_eta, hlt]
theorem impl_ChooseOf (n : Int) (seen : List TRow) (hs : smRows seen) : Fun T 28 [i64 n, rL seen] = some [i64 (chooseR n seen).1, i64 (chooseR n seen).2.1.kind, i64 (chooseR n seen).2.1.id, i64 (chooseR n seen).2.1.src, i64 (chooseR n seen).2.1.dst, i64 (chooseR n seen).2.1.amt, i64 (chooseR n seen).2.2.1.seq, rL (chooseR n seen).2.2.1.deps, .bool (chooseR n seen).2.2.2] := by
  rw [Fun_k (t := tm28) rfl]; unfold tm28; unfold chooseR
  obtain ⟨hs1, hs2⟩ := hs
  have hs3 : ∀ x ∈ seen, x.attr.deps.length ≤ 1099511627776 := fun x hx => by have := hs2 x hx; omega
  have hs4 : seen.length ≤ 1099511627776 := by omega
  cases hg : isGrp n
  · have e : seenOk n seen = false := by unfold seenOk; rw [hg]; simp
    simp (maxSteps := 2000000) (disch := first | assumption | omega) only [SA, SB, SC, SP, SQ, SZ, reduceIte, reduceCtorEq, Nat.reduceAdd, Nat.reduceEqDiff, beq_self_eq_true, decide_true, decide_false, Int.reduceBEq, Int.reduceLT, Int.reduceLE, cast1, S_eta, impl_IsGroup, hg, e, S_nil, Bool.false_eq_true]
  have hn := isGrp_rng hg
  by_cases h1 : n / 2 < (seen.length : Int)
  rotate_left
  · have e : seenOk n seen = false := by unfold seenOk; simp [h1]
    have d : decide (n / 2 < (seen.length : Int)) = false := by simpa using h1
    simp (maxSteps := 2000000) (disch := first | assumption | omega) only [SA, SB, SC, SP, SQ, SZ, reduceIte, reduceCtorEq, Nat.reduceAdd, Nat.reduceEqDiff, beq_self_eq_true, decide_true, decide_false, Int.reduceBEq, Int.reduceLT, Int.reduceLE, cast1, S_eta, impl_IsGroup, impl_isMajority, hg, e, d, S_nil, Bool.false_eq_true]
  have d1 : decide (n / 2 < (seen.length : Int)) = true := by simpa using h1
  by_cases h2 : (seen.length : Int) ≤ n
  rotate_left
  · have e : seenOk n seen = false := by unfold seenOk; simp [h2]
    have d : decide (n < (seen.length : Int)) = true := by simp; omega
    simp (maxSteps := 2000000) (disch := first | assumption | omega) only [SA, SB, SC, SP, SQ, SZ, reduceIte, reduceCtorEq, Nat.reduceAdd, Nat.reduceEqDiff, beq_self_eq_true, decide_true, decide_false, Int.reduceBEq, Int.reduceLT, Int.reduceLE, cast1, S_eta, impl_IsGroup, impl_isMajority, hg, e, d, d1, S_nil, Bool.false_eq_true]
  have d2 : decide (n < (seen.length : Int)) = false := by simp; omega
  have e3 : (seen.any fun r => !(rowOk n r && !(r.state == 3))) = !seen.all fun r => rowOk n r && !(r.state == 3) := by rw [List.not_all_eq_any_not]
  cases ha : seen.all fun r => rowOk n r && !(r.state == 3)
  · have e : seenOk n seen = false := by unfold seenOk; rw [ha]; simp
    simp (maxSteps := 2000000) (disch := first | assumption | omega) only [SA, SB, SC, SP, SQ, SZ, reduceIte, reduceCtorEq, Nat.reduceAdd, Nat.reduceEqDiff, beq_self_eq_true, decide_true, decide_false, Int.reduceBEq, Int.reduceLT, Int.reduceLE, cast1, S_eta, impl_IsGroup, impl_isMajority, hg, e, d1, d2, e3, ha, ct_ChooseOf_1, S_nil, Bool.false_eq_true]
  · have e : seenOk n seen = true := by unfold seenOk; rw [ha, hg]; simp [h1, h2]
    obtain ⟨-, -, -, hr⟩ := seenOk_spec e
    have hr' : ∀ r ∈ seen, rowOk n r = true := fun r h => (hr r h).1
    have h0 : 0 < seen.length := by omega
    have h5 : seen.length ≤ 5 := by omega
    simp (maxSteps := 2000000) (disch := first | assumption | omega) only [SA, SB, SC, SP, SQ, SZ, reduceIte, reduceCtorEq, Nat.reduceAdd, Nat.reduceEqDiff, beq_self_eq_true, decide_true, decide_false, Int.reduceBEq, Int.reduceLT, Int.reduceLE, cast1, S_eta, impl_IsGroup, impl_isMajority, hg, e, d1, d2, e3, ha, ct_ChooseOf_1, impl_chooseOf]
theorem law (n : Int) (seen : (List TRow)) (hw_seen : seen.length ≤ 140737488351232 ∧ ∀ y0 ∈ seen, wf_TRow y0) : Fun T 0 [i64 n, rL seen] = some [.bool true] := by
  rw [Fun_k (t := tm0) rfl]; unfold tm0
  by_cases c_seen : ((szL sz_TRow seen : Nat) : Int) ≤ 1048576
  rotate_left
  · have e : szR (1048576) (szL sz_TRow seen) = -1 := if_neg c_seen
    simp (maxSteps := 2000000) (disch := first | assumption | omega) only [SA, SB, SC, SP, SQ, SZ, reduceIte, reduceCtorEq, Nat.reduceAdd, Nat.reduceEqDiff, beq_self_eq_true, decide_true, decide_false, Int.reduceBEq, Int.reduceLT, Int.reduceLE, cast1, S_eta, lsz_LTRow, lt0, ltm1, *] <;> repeat' (refine fork_eq (fun _ => ?_) (fun _ => ?_) <;> try simp (maxSteps := 2000000) (disch := first | assumption | omega) only [SA, SB, SC, SP, SQ, SZ, reduceIte, reduceCtorEq, Nat.reduceAdd, Nat.reduceEqDiff, beq_self_eq_true, decide_true, decide_false, Int.reduceBEq, Int.reduceLT, Int.reduceLE, cast1, S_eta, lsz_LTRow, lt0, ltm1, *])
  have e_seen : szR (1048576) (szL sz_TRow seen) = 1048576 - ((szL sz_TRow seen : Nat) : Int) := if_pos c_seen
  have s1_seen : szL sz_TRow seen ≤ 1048576 := by omega
  have s2_seen : szL sz_TRow seen ≤ 1099511627776 := by omega
  have m1_seen : szL sz_TRow seen ≤ 1099511627776 := by omega
  have m2_seen : ctL ct_TRow seen ≤ 1125899906842624 := by have := ctL_le (c := ct_TRow) (f := sz_TRow) (m := 16) (by omega) ctb_TRow seen; omega
  have s3 : smRows seen := smRows_of s1_seen
  have hl := chooseR_len n seen
  have r1 : sz_TAttr (chooseR n seen).2.2.1 ≤ 1099511627776 := by rw [szu_TAttr]; omega
  have r2 : ctL (fun _ => 1) (chooseR n seen).2.2.1.deps ≤ 1125899906842624 := by rw [ctL_one]; omega
  simp (maxSteps := 2000000) (disch := first | assumption | omega) only [SA, SB, SC, SP, SQ, SZ, reduceIte, reduceCtorEq, Nat.reduceAdd, Nat.reduceEqDiff, beq_self_eq_true, decide_true, decide_false, Int.reduceBEq, Int.reduceLT, Int.reduceLE, cast1, S_eta, lsz_LTRow, lto_LTRow, spec_ChooseOf, impl_ChooseOf, leq_TCmd, leq_TAttr, leq_LTRow, lmk_LTRow, lmk_TAttr, lhd_TAttr, lt0, ltm1, *] <;> repeat' (refine fork_eq (fun _ => ?_) (fun _ => ?_) <;> try simp (maxSteps := 2000000) (disch := first | assumption | omega) only [SA, SB, SC, SP, SQ, SZ, reduceIte, reduceCtorEq, Nat.reduceAdd, Nat.reduceEqDiff, beq_self_eq_true, decide_true, decide_false, Int.reduceBEq, Int.reduceLT, Int.reduceLE, cast1, S_eta, lsz_LTRow, lto_LTRow, spec_ChooseOf, impl_ChooseOf, leq_TCmd, leq_TAttr, leq_LTRow, lmk_LTRow, lmk_TAttr, lhd_TAttr, lt0, ltm1, *])
theorem hpure : ∀ ds, WTs [.int .i64, .sl 96 [.int .i64, .int .i64, .int .i64, .int .i64, .int .i64, .int .i64, .int .i64, .int .i64, .int .i64, .sl 8 [.int .i64]]] ds → ∃ n, callN T n 0 ds = some [.bool true] := by
  intro ds h
  simp only [WTs] at h
  obtain ⟨d0, r0, rfl, w0, d1, r1, rfl, w1, rfl⟩ := h
  obtain ⟨n, rfl, hn1, hn2⟩ := WT_int w0
  obtain ⟨seen, e_seen, hw_seen⟩ := dec_LTRow [d1] (by simp only [WTs]; exact ⟨_, _, rfl, w1, rfl⟩)
  simp only [Enc.enc, List.cons.injEq, and_true] at e_seen
  subst e_seen
  exact pure_of (law n seen hw_seen)
end FnExactChooseOf
end Go.Proofs.Ytacfmplofkjonaa
