/- What the terms of FnExactServeAsk come to. -/
import Derived.Test.YtacfmplofkjonaaFnExactServeAskTab
namespace Go.Proofs.Ytacfmplofkjonaa
namespace FnExactServeAsk
open Go Go.Proofs.Ytacfmplofkjonaa.Rf
set_option linter.unusedSimpArgs false
set_option linter.unusedVariables false
set_option linter.unnecessarySimpa false
set_option maxHeartbeats 4000000
set_option maxRecDepth 10000
theorem lto_TCmd (x_kind x_id x_src x_dst x_amt : Int) : Fun T 9 [i64 x_kind, i64 x_id, i64 x_src, i64 x_dst, i64 x_amt] = some [i64 x_kind, i64 x_id, i64 x_src, i64 x_dst, i64 x_amt] := by
  rw [Fun_k (t := tm9) rfl]; unfold tm9
  simp (maxSteps := 2000000) (disch := first | assumption | omega) only [SA, SB, SC, SP, SQ, SZ, reduceIte, reduceCtorEq, Nat.reduceAdd, Nat.reduceEqDiff, beq_self_eq_true, decide_true, decide_false, Int.reduceBEq, Int.reduceLT, Int.reduceLE, S_eta, *] <;> repeat' (refine fork_eq (fun _ => ?_) (fun _ => ?_) <;> try simp (maxSteps := 2000000) (disch := first | assumption | omega) only [SA, SB, SC, SP, SQ, SZ, reduceIte, reduceCtorEq, Nat.reduceAdd, Nat.reduceEqDiff, beq_self_eq_true, decide_true, decide_false, Int.reduceBEq, Int.reduceLT, Int.reduceLE, S_eta, *])
theorem lsz_LI (xs : (List Int)) (l : Int) (h0 : 0 ≤ l) (h1 : l ≤ 1048576) (hw : xs.length ≤ 140737488351232) : Fun T 2 [rL xs, i64 l] = some [i64 (szR l (szL (fun _ => 0) xs))] := by
  rw [Fun_k (t := tm2) rfl]; unfold tm2
  have es : szL (fun _ => 0) xs = xs.length := szL_zero
  rw [es]
  by_cases c : (xs.length : Int) ≤ l
  · have e : szR l xs.length = l - xs.length := if_pos c
    have d : decide (l - (xs.length : Int) < 0) = false := by simp; omega
    simp (maxSteps := 2000000) (disch := first | assumption | omega) only [SA, SB, SC, SP, SQ, SZ, reduceIte, reduceCtorEq, Nat.reduceAdd, Nat.reduceEqDiff, beq_self_eq_true, decide_true, decide_false, Int.reduceBEq, Int.reduceLT, Int.reduceLE, S_eta, *] <;> repeat' (refine fork_eq (fun _ => ?_) (fun _ => ?_) <;> try simp (maxSteps := 2000000) (disch := first | assumption | omega) only [SA, SB, SC, SP, SQ, SZ, reduceIte, reduceCtorEq, Nat.reduceAdd, Nat.reduceEqDiff, beq_self_eq_true, decide_true, decide_false, Int.reduceBEq, Int.reduceLT, Int.reduceLE, S_eta, *])
  · have e : szR l xs.length = -1 := if_neg c
    have d : decide (l - (xs.length : Int) < 0) = true := by simp; omega
    simp (maxSteps := 2000000) (disch := first | assumption | omega) only [SA, SB, SC, SP, SQ, SZ, reduceIte, reduceCtorEq, Nat.reduceAdd, Nat.reduceEqDiff, beq_self_eq_true, decide_true, decide_false, Int.reduceBEq, Int.reduceLT, Int.reduceLE, S_eta, *] <;> repeat' (refine fork_eq (fun _ => ?_) (fun _ => ?_) <;> try simp (maxSteps := 2000000) (disch := first | assumption | omega) only [SA, SB, SC, SP, SQ, SZ, reduceIte, reduceCtorEq, Nat.reduceAdd, Nat.reduceEqDiff, beq_self_eq_true, decide_true, decide_false, Int.reduceBEq, Int.reduceLT, Int.reduceLE, S_eta, *])
theorem lto_LI (xs : (List Int)) (hs : szL (fun _ => 0) xs ≤ 1048576) : Fun T 5 [rL xs] = some [rL xs] := by
  rw [Fun_k (t := tm5) rfl]; unfold tm5
  have hl : xs.length ≤ 1048576 := Nat.le_trans szL_len hs
  simp (maxSteps := 2000000) (disch := first | assumption | omega) only [SA, SB, SC, SP, SQ, SZ, reduceIte, reduceCtorEq, Nat.reduceAdd, Nat.reduceEqDiff, beq_self_eq_true, decide_true, decide_false, Int.reduceBEq, Int.reduceLT, Int.reduceLE, S_eta, S_make, Int.toNat_natCast, *]
  rw [toLoop xs rfl]
  · simp (maxSteps := 2000000) (disch := first | assumption | omega) only [SA, SB, SC, SP, SQ, SZ, reduceIte, reduceCtorEq, Nat.reduceAdd, Nat.reduceEqDiff, beq_self_eq_true, decide_true, decide_false, Int.reduceBEq, Int.reduceLT, Int.reduceLE, S_eta, *] <;> repeat' (refine fork_eq (fun _ => ?_) (fun _ => ?_) <;> try simp (maxSteps := 2000000) (disch := first | assumption | omega) only [SA, SB, SC, SP, SQ, SZ, reduceIte, reduceCtorEq, Nat.reduceAdd, Nat.reduceEqDiff, beq_self_eq_true, decide_true, decide_false, Int.reduceBEq, Int.reduceLT, Int.reduceLE, S_eta, *])
  · intro i ys hi hb hb' hl'
    simp (maxSteps := 2000000) (disch := first | assumption | omega) only [SA, SB, SC, SP, SQ, SZ, reduceIte, reduceCtorEq, Nat.reduceAdd, Nat.reduceEqDiff, beq_self_eq_true, decide_true, decide_false, Int.reduceBEq, Int.reduceLT, Int.reduceLE, S_eta, S_row, S_set, *] <;> repeat' (refine fork_eq (fun _ => ?_) (fun _ => ?_) <;> try simp (maxSteps := 2000000) (disch := first | assumption | omega) only [SA, SB, SC, SP, SQ, SZ, reduceIte, reduceCtorEq, Nat.reduceAdd, Nat.reduceEqDiff, beq_self_eq_true, decide_true, decide_false, Int.reduceBEq, Int.reduceLT, Int.reduceLE, S_eta, S_row, S_set, *])
  · intro ys hl'
    simp (maxSteps := 2000000) (disch := first | assumption | omega) only [SA, SB, SC, SP, SQ, SZ, reduceIte, reduceCtorEq, Nat.reduceAdd, Nat.reduceEqDiff, beq_self_eq_true, decide_true, decide_false, Int.reduceBEq, Int.reduceLT, Int.reduceLE, S_eta, *] <;> repeat' (refine fork_eq (fun _ => ?_) (fun _ => ?_) <;> try simp (maxSteps := 2000000) (disch := first | assumption | omega) only [SA, SB, SC, SP, SQ, SZ, reduceIte, reduceCtorEq, Nat.reduceAdd, Nat.reduceEqDiff, beq_self_eq_true, decide_true, decide_false, Int.reduceBEq, Int.reduceLT, Int.reduceLE, S_eta, *])
theorem leq_LI (xs ys : (List Int)) (hs : szL (fun _ => 0) xs ≤ 1099511627776) : Fun T 42 [rL xs, rL ys] = some [.bool (decide (xs = ys))] := by
  rw [Fun_k (t := tm42) rfl]; unfold tm42
  have hx : xs.length ≤ 1099511627776 := Nat.le_trans szL_len hs
  by_cases hl : ys.length = xs.length
  · simp (maxSteps := 2000000) (disch := first | assumption | omega) only [SA, SB, SC, SP, SQ, SZ, reduceIte, reduceCtorEq, Nat.reduceAdd, Nat.reduceEqDiff, beq_self_eq_true, decide_true, decide_false, Int.reduceBEq, Int.reduceLT, Int.reduceLE, S_eta, *]
    rw [scanX 1 xs.length (fun i => decide (atI xs i = atI ys i)) [.bool false], allB_eq hl.symm]
    · simp (maxSteps := 2000000) (disch := first | assumption | omega) only [SA, SB, SC, SP, SQ, SZ, reduceIte, reduceCtorEq, Nat.reduceAdd, Nat.reduceEqDiff, beq_self_eq_true, decide_true, decide_false, Int.reduceBEq, Int.reduceLT, Int.reduceLE, S_eta, *] <;> repeat' (refine fork_eq (fun _ => ?_) (fun _ => ?_) <;> try simp (maxSteps := 2000000) (disch := first | assumption | omega) only [SA, SB, SC, SP, SQ, SZ, reduceIte, reduceCtorEq, Nat.reduceAdd, Nat.reduceEqDiff, beq_self_eq_true, decide_true, decide_false, Int.reduceBEq, Int.reduceLT, Int.reduceLE, S_eta, *])
    · intro i hi hp
      have hb : InB xs (i : Int) := InB_nat.2 hi
      have hb' : InB ys (i : Int) := InB_nat.2 (by omega)
      have h2 : decide ((i : Int) < xs.length) = true := by simp; omega
      have h3 : (atI xs i == atI ys i) = true := by simpa using hp
      simp (maxSteps := 2000000) (disch := first | assumption | omega) only [SA, SB, SC, SP, SQ, SZ, reduceIte, reduceCtorEq, Nat.reduceAdd, Nat.reduceEqDiff, beq_self_eq_true, decide_true, decide_false, Int.reduceBEq, Int.reduceLT, Int.reduceLE, S_eta, S_row, *] <;> repeat' (refine fork_eq (fun _ => ?_) (fun _ => ?_) <;> try simp (maxSteps := 2000000) (disch := first | assumption | omega) only [SA, SB, SC, SP, SQ, SZ, reduceIte, reduceCtorEq, Nat.reduceAdd, Nat.reduceEqDiff, beq_self_eq_true, decide_true, decide_false, Int.reduceBEq, Int.reduceLT, Int.reduceLE, S_eta, S_row, *])
    · intro i hi hp
      have hb : InB xs (i : Int) := InB_nat.2 hi
      have hb' : InB ys (i : Int) := InB_nat.2 (by omega)
      have h2 : decide ((i : Int) < xs.length) = true := by simp; omega
      have h3 : (atI xs i == atI ys i) = false := by simpa using hp
      simp (maxSteps := 2000000) (disch := first | assumption | omega) only [SA, SB, SC, SP, SQ, SZ, reduceIte, reduceCtorEq, Nat.reduceAdd, Nat.reduceEqDiff, beq_self_eq_true, decide_true, decide_false, Int.reduceBEq, Int.reduceLT, Int.reduceLE, S_eta, S_row, *] <;> repeat' (refine fork_eq (fun _ => ?_) (fun _ => ?_) <;> try simp (maxSteps := 2000000) (disch := first | assumption | omega) only [SA, SB, SC, SP, SQ, SZ, reduceIte, reduceCtorEq, Nat.reduceAdd, Nat.reduceEqDiff, beq_self_eq_true, decide_true, decide_false, Int.reduceBEq, Int.reduceLT, Int.reduceLE, S_eta, S_row, *])
    · have h2 : decide ((xs.length : Int) < xs.length) = false := by simp
      simp (maxSteps := 2000000) (disch := first | assumption | omega) only [SA, SB, SC, SP, SQ, SZ, reduceIte, reduceCtorEq, Nat.reduceAdd, Nat.reduceEqDiff, beq_self_eq_true, decide_true, decide_false, Int.reduceBEq, Int.reduceLT, Int.reduceLE, S_eta, *] <;> repeat' (refine fork_eq (fun _ => ?_) (fun _ => ?_) <;> try simp (maxSteps := 2000000) (disch := first | assumption | omega) only [SA, SB, SC, SP, SQ, SZ, reduceIte, reduceCtorEq, Nat.reduceAdd, Nat.reduceEqDiff, beq_self_eq_true, decide_true, decide_false, Int.reduceBEq, Int.reduceLT, Int.reduceLE, S_eta, *])
  · have hl' : ((xs.length : Int) == (ys.length : Int)) = false := by simp; omega
    have e := eq_len (fun h => hl h.symm)
    simp (maxSteps := 2000000) (disch := first | assumption | omega) only [SA, SB, SC, SP, SQ, SZ, reduceIte, reduceCtorEq, Nat.reduceAdd, Nat.reduceEqDiff, beq_self_eq_true, decide_true, decide_false, Int.reduceBEq, Int.reduceLT, Int.reduceLE, S_eta, *] <;> repeat' (refine fork_eq (fun _ => ?_) (fun _ => ?_) <;> try simp (maxSteps := 2000000) (disch := first | assumption | omega) only [SA, SB, SC, SP, SQ, SZ, reduceIte, reduceCtorEq, Nat.reduceAdd, Nat.reduceEqDiff, beq_self_eq_true, decide_true, decide_false, Int.reduceBEq, Int.reduceLT, Int.reduceLE, S_eta, *])
theorem lmk_LI (xs : (List Int)) (k : Int) (hk : 0 ≤ k) (hb : k + (ctL (fun _ => 1) xs : Nat) ≤ 1152921504606846976) (hl : xs.length ≤ 1099511627776) : Fun T 46 [rL xs, i64 k] = some [i64 (k + (ctL (fun _ => 1) xs : Nat)), rL (mkL (fun _ => 1) (fun _ k => k) xs k)] := by
  rw [Fun_k (t := tm46) rfl]; unfold tm46
  have hx : xs.length ≤ 1099511627776 := hl
  simp (maxSteps := 2000000) (disch := first | assumption | omega) only [SA, SB, SC, SP, SQ, SZ, reduceIte, reduceCtorEq, Nat.reduceAdd, Nat.reduceEqDiff, beq_self_eq_true, decide_true, decide_false, Int.reduceBEq, Int.reduceLT, Int.reduceLE, S_eta, *]
  rw [markLoop xs (fun _ => 1) (fun _ k => k) k rfl rfl rfl hk hb ?_ ?_ (by omega)]
  · simp (maxSteps := 2000000) (disch := first | assumption | omega) only [SA, SB, SC, SP, SQ, SZ, reduceIte, reduceCtorEq, Nat.reduceAdd, Nat.reduceEqDiff, beq_self_eq_true, decide_true, decide_false, Int.reduceBEq, Int.reduceLT, Int.reduceLE, S_eta, *] <;> repeat' (refine fork_eq (fun _ => ?_) (fun _ => ?_) <;> try simp (maxSteps := 2000000) (disch := first | assumption | omega) only [SA, SB, SC, SP, SQ, SZ, reduceIte, reduceCtorEq, Nat.reduceAdd, Nat.reduceEqDiff, beq_self_eq_true, decide_true, decide_false, Int.reduceBEq, Int.reduceLT, Int.reduceLE, S_eta, *])
  · intro i ys m hi hy hb hlt hat hm hc hlen
    have hc' : m + 1 ≤ 1152921504606846976 := hc
    simp (maxSteps := 2000000) (disch := first | assumption | omega | (simp only [S_upd]; assumption)) only [SA, SB, SC, SP, SQ, SZ, reduceIte, reduceCtorEq, Nat.reduceAdd, Nat.reduceEqDiff, beq_self_eq_true, decide_true, decide_false, Int.reduceBEq, Int.reduceLT, Int.reduceLE, S_eta, S_row, S_set, S_upd, *] <;> repeat' (refine fork_eq (fun _ => ?_) (fun _ => ?_) <;> try simp (maxSteps := 2000000) (disch := first | assumption | omega | (simp only [S_upd]; assumption)) only [SA, SB, SC, SP, SQ, SZ, reduceIte, reduceCtorEq, Nat.reduceAdd, Nat.reduceEqDiff, beq_self_eq_true, decide_true, decide_false, Int.reduceBEq, Int.reduceLT, Int.reduceLE, S_eta, S_row, S_set, S_upd, *])
    rfl
  · intro ys m hy hlt
    simp (maxSteps := 2000000) (disch := first | assumption | omega) only [SA, SB, SC, SP, SQ, SZ, reduceIte, reduceCtorEq, Nat.reduceAdd, Nat.reduceEqDiff, beq_self_eq_true, decide_true, decide_false, Int.reduceBEq, Int.reduceLT, Int.reduceLE, S_eta, *] <;> repeat' (refine fork_eq (fun _ => ?_) (fun _ => ?_) <;> try simp (maxSteps := 2000000) (disch := first | assumption | omega) only [SA, SB, SC, SP, SQ, SZ, reduceIte, reduceCtorEq, Nat.reduceAdd, Nat.reduceEqDiff, beq_self_eq_true, decide_true, decide_false, Int.reduceBEq, Int.reduceLT, Int.reduceLE, S_eta, *])
theorem lhd_LI (xs : (List Int)) (k : Int) (hk : 0 ≤ k) (hb : k + (ctL (fun _ => 1) xs : Nat) ≤ 1152921504606846976) (hl : xs.length ≤ 1099511627776) : Fun T 49 [rL (mkL (fun _ => 1) (fun _ k => k) xs k), i64 k] = some [i64 (k + (ctL (fun _ => 1) xs : Nat))] := by
  rw [Fun_k (t := tm49) rfl]; unfold tm49
  have hx : xs.length ≤ 1099511627776 := hl
  simp (maxSteps := 2000000) (disch := first | assumption | omega) only [SA, SB, SC, SP, SQ, SZ, reduceIte, reduceCtorEq, Nat.reduceAdd, Nat.reduceEqDiff, beq_self_eq_true, decide_true, decide_false, Int.reduceBEq, Int.reduceLT, Int.reduceLE, S_eta, *]
  rw [heldLoop xs (fun _ => 1) (fun _ k => k) k rfl hk hb (by omega)]
  · simp (maxSteps := 2000000) (disch := first | assumption | omega) only [SA, SB, SC, SP, SQ, SZ, reduceIte, reduceCtorEq, Nat.reduceAdd, Nat.reduceEqDiff, beq_self_eq_true, decide_true, decide_false, Int.reduceBEq, Int.reduceLT, Int.reduceLE, S_eta, *] <;> repeat' (refine fork_eq (fun _ => ?_) (fun _ => ?_) <;> try simp (maxSteps := 2000000) (disch := first | assumption | omega) only [SA, SB, SC, SP, SQ, SZ, reduceIte, reduceCtorEq, Nat.reduceAdd, Nat.reduceEqDiff, beq_self_eq_true, decide_true, decide_false, Int.reduceBEq, Int.reduceLT, Int.reduceLE, S_eta, *])
  · intro i m hi hb hy hlt hat hm hc hlen
    have hc' : m + 1 ≤ 1152921504606846976 := hc
    simp (maxSteps := 2000000) (disch := first | assumption | omega) only [SA, SB, SC, SP, SQ, SZ, reduceIte, reduceCtorEq, Nat.reduceAdd, Nat.reduceEqDiff, beq_self_eq_true, decide_true, decide_false, Int.reduceBEq, Int.reduceLT, Int.reduceLE, S_eta, S_row, *] <;> repeat' (refine fork_eq (fun _ => ?_) (fun _ => ?_) <;> try simp (maxSteps := 2000000) (disch := first | assumption | omega) only [SA, SB, SC, SP, SQ, SZ, reduceIte, reduceCtorEq, Nat.reduceAdd, Nat.reduceEqDiff, beq_self_eq_true, decide_true, decide_false, Int.reduceBEq, Int.reduceLT, Int.reduceLE, S_eta, S_row, *])
    rfl
  · intro m hy hlt
    simp (maxSteps := 2000000) (disch := first | assumption | omega) only [SA, SB, SC, SP, SQ, SZ, reduceIte, reduceCtorEq, Nat.reduceAdd, Nat.reduceEqDiff, beq_self_eq_true, decide_true, decide_false, Int.reduceBEq, Int.reduceLT, Int.reduceLE, S_eta, *] <;> repeat' (refine fork_eq (fun _ => ?_) (fun _ => ?_) <;> try simp (maxSteps := 2000000) (disch := first | assumption | omega) only [SA, SB, SC, SP, SQ, SZ, reduceIte, reduceCtorEq, Nat.reduceAdd, Nat.reduceEqDiff, beq_self_eq_true, decide_true, decide_false, Int.reduceBEq, Int.reduceLT, Int.reduceLE, S_eta, *])
theorem lto_TTold (x_code x_sum : Int) : Fun T 7 [i64 x_code, i64 x_sum] = some [i64 x_code, i64 x_sum] := by
  rw [Fun_k (t := tm7) rfl]; unfold tm7
  simp (maxSteps := 2000000) (disch := first | assumption | omega) only [SA, SB, SC, SP, SQ, SZ, reduceIte, reduceCtorEq, Nat.reduceAdd, Nat.reduceEqDiff, beq_self_eq_true, decide_true, decide_false, Int.reduceBEq, Int.reduceLT, Int.reduceLE, S_eta, *] <;> repeat' (refine fork_eq (fun _ => ?_) (fun _ => ?_) <;> try simp (maxSteps := 2000000) (disch := first | assumption | omega) only [SA, SB, SC, SP, SQ, SZ, reduceIte, reduceCtorEq, Nat.reduceAdd, Nat.reduceEqDiff, beq_self_eq_true, decide_true, decide_false, Int.reduceBEq, Int.reduceLT, Int.reduceLE, S_eta, *])
theorem leq_TTold (x_code x_sum : Int) (y_code y_sum : Int) : Fun T 44 [i64 x_code, i64 x_sum, i64 y_code, i64 y_sum] = some [.bool (decide ((⟨x_code, x_sum⟩ : TTold) = ⟨y_code, y_sum⟩))] := by
  rw [Fun_k (t := tm44) rfl]; unfold tm44
  have e : decide ((⟨x_code, x_sum⟩ : TTold) = ⟨y_code, y_sum⟩) = ((x_code == y_code) && (x_sum == y_sum)) := by
    simp only [TTold.mk.injEq, Bool.beq_eq_decide_eq, Bool.decide_and, Bool.and_assoc]
  rw [e]
  simp (maxSteps := 2000000) (disch := first | assumption | omega) only [SA, SB, SC, SP, SQ, SZ, reduceIte, reduceCtorEq, Nat.reduceAdd, Nat.reduceEqDiff, beq_self_eq_true, decide_true, decide_false, Int.reduceBEq, Int.reduceLT, Int.reduceLE, S_eta, *] <;> repeat' (refine fork_eq (fun _ => ?_) (fun _ => ?_) <;> try simp (maxSteps := 2000000) (disch := first | assumption | omega) only [SA, SB, SC, SP, SQ, SZ, reduceIte, reduceCtorEq, Nat.reduceAdd, Nat.reduceEqDiff, beq_self_eq_true, decide_true, decide_false, Int.reduceBEq, Int.reduceLT, Int.reduceLE, S_eta, *])
theorem lsz_LTTold (xs : (List TTold)) (l : Int) (h0 : 0 ≤ l) (h1 : l ≤ 1048576) (hw : xs.length ≤ 140737488351232) : Fun T 3 [rL xs, i64 l] = some [i64 (szR l (szL (fun _ => 0) xs))] := by
  rw [Fun_k (t := tm3) rfl]; unfold tm3
  have es : szL (fun _ => 0) xs = xs.length := szL_zero
  rw [es]
  by_cases c : (xs.length : Int) ≤ l
  · have e : szR l xs.length = l - xs.length := if_pos c
    have d : decide (l - (xs.length : Int) < 0) = false := by simp; omega
    simp (maxSteps := 2000000) (disch := first | assumption | omega) only [SA, SB, SC, SP, SQ, SZ, reduceIte, reduceCtorEq, Nat.reduceAdd, Nat.reduceEqDiff, beq_self_eq_true, decide_true, decide_false, Int.reduceBEq, Int.reduceLT, Int.reduceLE, S_eta, *] <;> repeat' (refine fork_eq (fun _ => ?_) (fun _ => ?_) <;> try simp (maxSteps := 2000000) (disch := first | assumption | omega) only [SA, SB, SC, SP, SQ, SZ, reduceIte, reduceCtorEq, Nat.reduceAdd, Nat.reduceEqDiff, beq_self_eq_true, decide_true, decide_false, Int.reduceBEq, Int.reduceLT, Int.reduceLE, S_eta, *])
  · have e : szR l xs.length = -1 := if_neg c
    have d : decide (l - (xs.length : Int) < 0) = true := by simp; omega
    simp (maxSteps := 2000000) (disch := first | assumption | omega) only [SA, SB, SC, SP, SQ, SZ, reduceIte, reduceCtorEq, Nat.reduceAdd, Nat.reduceEqDiff, beq_self_eq_true, decide_true, decide_false, Int.reduceBEq, Int.reduceLT, Int.reduceLE, S_eta, *] <;> repeat' (refine fork_eq (fun _ => ?_) (fun _ => ?_) <;> try simp (maxSteps := 2000000) (disch := first | assumption | omega) only [SA, SB, SC, SP, SQ, SZ, reduceIte, reduceCtorEq, Nat.reduceAdd, Nat.reduceEqDiff, beq_self_eq_true, decide_true, decide_false, Int.reduceBEq, Int.reduceLT, Int.reduceLE, S_eta, *])
theorem lto_LTTold (xs : (List TTold)) (hs : szL (fun _ => 0) xs ≤ 1048576) : Fun T 6 [rL xs] = some [rL xs] := by
  rw [Fun_k (t := tm6) rfl]; unfold tm6
  have hl : xs.length ≤ 1048576 := Nat.le_trans szL_len hs
  simp (maxSteps := 2000000) (disch := first | assumption | omega) only [SA, SB, SC, SP, SQ, SZ, reduceIte, reduceCtorEq, Nat.reduceAdd, Nat.reduceEqDiff, beq_self_eq_true, decide_true, decide_false, Int.reduceBEq, Int.reduceLT, Int.reduceLE, S_eta, S_make, Int.toNat_natCast, *]
  rw [toLoop xs rfl]
  · simp (maxSteps := 2000000) (disch := first | assumption | omega) only [SA, SB, SC, SP, SQ, SZ, reduceIte, reduceCtorEq, Nat.reduceAdd, Nat.reduceEqDiff, beq_self_eq_true, decide_true, decide_false, Int.reduceBEq, Int.reduceLT, Int.reduceLE, S_eta, *] <;> repeat' (refine fork_eq (fun _ => ?_) (fun _ => ?_) <;> try simp (maxSteps := 2000000) (disch := first | assumption | omega) only [SA, SB, SC, SP, SQ, SZ, reduceIte, reduceCtorEq, Nat.reduceAdd, Nat.reduceEqDiff, beq_self_eq_true, decide_true, decide_false, Int.reduceBEq, Int.reduceLT, Int.reduceLE, S_eta, *])
  · intro i ys hi hb hb' hl'
    simp (maxSteps := 2000000) (disch := first | assumption | omega) only [SA, SB, SC, SP, SQ, SZ, reduceIte, reduceCtorEq, Nat.reduceAdd, Nat.reduceEqDiff, beq_self_eq_true, decide_true, decide_false, Int.reduceBEq, Int.reduceLT, Int.reduceLE, S_eta, S_row, S_set, lto_TTold, *] <;> repeat' (refine fork_eq (fun _ => ?_) (fun _ => ?_) <;> try simp (maxSteps := 2000000) (disch := first | assumption | omega) only [SA, SB, SC, SP, SQ, SZ, reduceIte, reduceCtorEq, Nat.reduceAdd, Nat.reduceEqDiff, beq_self_eq_true, decide_true, decide_false, Int.reduceBEq, Int.reduceLT, Int.reduceLE, S_eta, S_row, S_set, lto_TTold, *])
  · intro ys hl'
    simp (maxSteps := 2000000) (disch := first | assumption | omega) only [SA, SB, SC, SP, SQ, SZ, reduceIte, reduceCtorEq, Nat.reduceAdd, Nat.reduceEqDiff, beq_self_eq_true, decide_true, decide_false, Int.reduceBEq, Int.reduceLT, Int.reduceLE, S_eta, *] <;> repeat' (refine fork_eq (fun _ => ?_) (fun _ => ?_) <;> try simp (maxSteps := 2000000) (disch := first | assumption | omega) only [SA, SB, SC, SP, SQ, SZ, reduceIte, reduceCtorEq, Nat.reduceAdd, Nat.reduceEqDiff, beq_self_eq_true, decide_true, decide_false, Int.reduceBEq, Int.reduceLT, Int.reduceLE, S_eta, *])
theorem leq_LTTold (xs ys : (List TTold)) (hs : szL (fun _ => 0) xs ≤ 1099511627776) : Fun T 43 [rL xs, rL ys] = some [.bool (decide (xs = ys))] := by
  rw [Fun_k (t := tm43) rfl]; unfold tm43
  have hx : xs.length ≤ 1099511627776 := Nat.le_trans szL_len hs
  by_cases hl : ys.length = xs.length
  · simp (maxSteps := 2000000) (disch := first | assumption | omega) only [SA, SB, SC, SP, SQ, SZ, reduceIte, reduceCtorEq, Nat.reduceAdd, Nat.reduceEqDiff, beq_self_eq_true, decide_true, decide_false, Int.reduceBEq, Int.reduceLT, Int.reduceLE, S_eta, *]
    rw [scanX 1 xs.length (fun i => decide (atI xs i = atI ys i)) [.bool false], allB_eq hl.symm]
    · simp (maxSteps := 2000000) (disch := first | assumption | omega) only [SA, SB, SC, SP, SQ, SZ, reduceIte, reduceCtorEq, Nat.reduceAdd, Nat.reduceEqDiff, beq_self_eq_true, decide_true, decide_false, Int.reduceBEq, Int.reduceLT, Int.reduceLE, S_eta, *] <;> repeat' (refine fork_eq (fun _ => ?_) (fun _ => ?_) <;> try simp (maxSteps := 2000000) (disch := first | assumption | omega) only [SA, SB, SC, SP, SQ, SZ, reduceIte, reduceCtorEq, Nat.reduceAdd, Nat.reduceEqDiff, beq_self_eq_true, decide_true, decide_false, Int.reduceBEq, Int.reduceLT, Int.reduceLE, S_eta, *])
    · intro i hi hp
      have hb : InB xs (i : Int) := InB_nat.2 hi
      have hb' : InB ys (i : Int) := InB_nat.2 (by omega)
      have h2 : decide ((i : Int) < xs.length) = true := by simp; omega
      simp (maxSteps := 2000000) (disch := first | assumption | omega) only [SA, SB, SC, SP, SQ, SZ, reduceIte, reduceCtorEq, Nat.reduceAdd, Nat.reduceEqDiff, beq_self_eq_true, decide_true, decide_false, Int.reduceBEq, Int.reduceLT, Int.reduceLE, S_eta, S_row, leq_TTold, *] <;> repeat' (refine fork_eq (fun _ => ?_) (fun _ => ?_) <;> try simp (maxSteps := 2000000) (disch := first | assumption | omega) only [SA, SB, SC, SP, SQ, SZ, reduceIte, reduceCtorEq, Nat.reduceAdd, Nat.reduceEqDiff, beq_self_eq_true, decide_true, decide_false, Int.reduceBEq, Int.reduceLT, Int.reduceLE, S_eta, S_row, leq_TTold, *])
    · intro i hi hp
      have hb : InB xs (i : Int) := InB_nat.2 hi
      have hb' : InB ys (i : Int) := InB_nat.2 (by omega)
      have h2 : decide ((i : Int) < xs.length) = true := by simp; omega
      simp (maxSteps := 2000000) (disch := first | assumption | omega) only [SA, SB, SC, SP, SQ, SZ, reduceIte, reduceCtorEq, Nat.reduceAdd, Nat.reduceEqDiff, beq_self_eq_true, decide_true, decide_false, Int.reduceBEq, Int.reduceLT, Int.reduceLE, S_eta, S_row, leq_TTold, *] <;> repeat' (refine fork_eq (fun _ => ?_) (fun _ => ?_) <;> try simp (maxSteps := 2000000) (disch := first | assumption | omega) only [SA, SB, SC, SP, SQ, SZ, reduceIte, reduceCtorEq, Nat.reduceAdd, Nat.reduceEqDiff, beq_self_eq_true, decide_true, decide_false, Int.reduceBEq, Int.reduceLT, Int.reduceLE, S_eta, S_row, leq_TTold, *])
    · have h2 : decide ((xs.length : Int) < xs.length) = false := by simp
      simp (maxSteps := 2000000) (disch := first | assumption | omega) only [SA, SB, SC, SP, SQ, SZ, reduceIte, reduceCtorEq, Nat.reduceAdd, Nat.reduceEqDiff, beq_self_eq_true, decide_true, decide_false, Int.reduceBEq, Int.reduceLT, Int.reduceLE, S_eta, *] <;> repeat' (refine fork_eq (fun _ => ?_) (fun _ => ?_) <;> try simp (maxSteps := 2000000) (disch := first | assumption | omega) only [SA, SB, SC, SP, SQ, SZ, reduceIte, reduceCtorEq, Nat.reduceAdd, Nat.reduceEqDiff, beq_self_eq_true, decide_true, decide_false, Int.reduceBEq, Int.reduceLT, Int.reduceLE, S_eta, *])
  · have hl' : ((xs.length : Int) == (ys.length : Int)) = false := by simp; omega
    have e := eq_len (fun h => hl h.symm)
    simp (maxSteps := 2000000) (disch := first | assumption | omega) only [SA, SB, SC, SP, SQ, SZ, reduceIte, reduceCtorEq, Nat.reduceAdd, Nat.reduceEqDiff, beq_self_eq_true, decide_true, decide_false, Int.reduceBEq, Int.reduceLT, Int.reduceLE, S_eta, *] <;> repeat' (refine fork_eq (fun _ => ?_) (fun _ => ?_) <;> try simp (maxSteps := 2000000) (disch := first | assumption | omega) only [SA, SB, SC, SP, SQ, SZ, reduceIte, reduceCtorEq, Nat.reduceAdd, Nat.reduceEqDiff, beq_self_eq_true, decide_true, decide_false, Int.reduceBEq, Int.reduceLT, Int.reduceLE, S_eta, *])
theorem lmk_LTTold (xs : (List TTold)) (k : Int) (hk : 0 ≤ k) (hb : k + (ctL ct_TTold xs : Nat) ≤ 1152921504606846976) (hl : xs.length ≤ 1099511627776) : Fun T 47 [rL xs, i64 k] = some [i64 (k + (ctL ct_TTold xs : Nat)), rL (mkL ct_TTold mk_TTold xs k)] := by
  rw [Fun_k (t := tm47) rfl]; unfold tm47
  have hx : xs.length ≤ 1099511627776 := hl
  simp (maxSteps := 2000000) (disch := first | assumption | omega) only [SA, SB, SC, SP, SQ, SZ, reduceIte, reduceCtorEq, Nat.reduceAdd, Nat.reduceEqDiff, beq_self_eq_true, decide_true, decide_false, Int.reduceBEq, Int.reduceLT, Int.reduceLE, S_eta, *]
  rw [markLoop xs ct_TTold mk_TTold k rfl rfl rfl hk hb ?_ ?_ (by omega)]
  · simp (maxSteps := 2000000) (disch := first | assumption | omega) only [SA, SB, SC, SP, SQ, SZ, reduceIte, reduceCtorEq, Nat.reduceAdd, Nat.reduceEqDiff, beq_self_eq_true, decide_true, decide_false, Int.reduceBEq, Int.reduceLT, Int.reduceLE, S_eta, *] <;> repeat' (refine fork_eq (fun _ => ?_) (fun _ => ?_) <;> try simp (maxSteps := 2000000) (disch := first | assumption | omega) only [SA, SB, SC, SP, SQ, SZ, reduceIte, reduceCtorEq, Nat.reduceAdd, Nat.reduceEqDiff, beq_self_eq_true, decide_true, decide_false, Int.reduceBEq, Int.reduceLT, Int.reduceLE, S_eta, *])
  · intro i ys m hi hy hb hlt hat hm hc hlen
    have ec : m + 1 + 1 = m + (ct_TTold (atI xs i) : Nat) := by rw [ctu_TTold]; omega
    rw [ctu_TTold] at hc
    simp (maxSteps := 2000000) (disch := first | assumption | omega | (simp only [S_upd]; assumption)) only [SA, SB, SC, SP, SQ, SZ, reduceIte, reduceCtorEq, Nat.reduceAdd, Nat.reduceEqDiff, beq_self_eq_true, decide_true, decide_false, Int.reduceBEq, Int.reduceLT, Int.reduceLE, S_eta, S_row, S_set, S_upd, *] <;> repeat' (refine fork_eq (fun _ => ?_) (fun _ => ?_) <;> try simp (maxSteps := 2000000) (disch := first | assumption | omega | (simp only [S_upd]; assumption)) only [SA, SB, SC, SP, SQ, SZ, reduceIte, reduceCtorEq, Nat.reduceAdd, Nat.reduceEqDiff, beq_self_eq_true, decide_true, decide_false, Int.reduceBEq, Int.reduceLT, Int.reduceLE, S_eta, S_row, S_set, S_upd, *])
    all_goals (simp only [mk_TTold, ec])
  · intro ys m hy hlt
    simp (maxSteps := 2000000) (disch := first | assumption | omega) only [SA, SB, SC, SP, SQ, SZ, reduceIte, reduceCtorEq, Nat.reduceAdd, Nat.reduceEqDiff, beq_self_eq_true, decide_true, decide_false, Int.reduceBEq, Int.reduceLT, Int.reduceLE, S_eta, *] <;> repeat' (refine fork_eq (fun _ => ?_) (fun _ => ?_) <;> try simp (maxSteps := 2000000) (disch := first | assumption | omega) only [SA, SB, SC, SP, SQ, SZ, reduceIte, reduceCtorEq, Nat.reduceAdd, Nat.reduceEqDiff, beq_self_eq_true, decide_true, decide_false, Int.reduceBEq, Int.reduceLT, Int.reduceLE, S_eta, *])
theorem lhd_LTTold (xs : (List TTold)) (k : Int) (hk : 0 ≤ k) (hb : k + (ctL ct_TTold xs : Nat) ≤ 1152921504606846976) (hl : xs.length ≤ 1099511627776) : Fun T 50 [rL (mkL ct_TTold mk_TTold xs k), i64 k] = some [i64 (k + (ctL ct_TTold xs : Nat))] := by
  rw [Fun_k (t := tm50) rfl]; unfold tm50
  have hx : xs.length ≤ 1099511627776 := hl
  simp (maxSteps := 2000000) (disch := first | assumption | omega) only [SA, SB, SC, SP, SQ, SZ, reduceIte, reduceCtorEq, Nat.reduceAdd, Nat.reduceEqDiff, beq_self_eq_true, decide_true, decide_false, Int.reduceBEq, Int.reduceLT, Int.reduceLE, S_eta, *]
  rw [heldLoop xs ct_TTold mk_TTold k rfl hk hb (by omega)]
  · simp (maxSteps := 2000000) (disch := first | assumption | omega) only [SA, SB, SC, SP, SQ, SZ, reduceIte, reduceCtorEq, Nat.reduceAdd, Nat.reduceEqDiff, beq_self_eq_true, decide_true, decide_false, Int.reduceBEq, Int.reduceLT, Int.reduceLE, S_eta, *] <;> repeat' (refine fork_eq (fun _ => ?_) (fun _ => ?_) <;> try simp (maxSteps := 2000000) (disch := first | assumption | omega) only [SA, SB, SC, SP, SQ, SZ, reduceIte, reduceCtorEq, Nat.reduceAdd, Nat.reduceEqDiff, beq_self_eq_true, decide_true, decide_false, Int.reduceBEq, Int.reduceLT, Int.reduceLE, S_eta, *])
  · intro i m hi hb hy hlt hat hm hc hlen
    have ec : m + 1 + 1 = m + (ct_TTold (atI xs i) : Nat) := by rw [ctu_TTold]; omega
    rw [ctu_TTold] at hc
    simp (maxSteps := 2000000) (disch := first | assumption | omega) only [SA, SB, SC, SP, SQ, SZ, reduceIte, reduceCtorEq, Nat.reduceAdd, Nat.reduceEqDiff, beq_self_eq_true, decide_true, decide_false, Int.reduceBEq, Int.reduceLT, Int.reduceLE, S_eta, S_row, mk_TTold, *] <;> repeat' (refine fork_eq (fun _ => ?_) (fun _ => ?_) <;> try simp (maxSteps := 2000000) (disch := first | assumption | omega) only [SA, SB, SC, SP, SQ, SZ, reduceIte, reduceCtorEq, Nat.reduceAdd, Nat.reduceEqDiff, beq_self_eq_true, decide_true, decide_false, Int.reduceBEq, Int.reduceLT, Int.reduceLE, S_eta, S_row, mk_TTold, *])
    all_goals (simp only [ec])
  · intro m hy hlt
    simp (maxSteps := 2000000) (disch := first | assumption | omega) only [SA, SB, SC, SP, SQ, SZ, reduceIte, reduceCtorEq, Nat.reduceAdd, Nat.reduceEqDiff, beq_self_eq_true, decide_true, decide_false, Int.reduceBEq, Int.reduceLT, Int.reduceLE, S_eta, *] <;> repeat' (refine fork_eq (fun _ => ?_) (fun _ => ?_) <;> try simp (maxSteps := 2000000) (disch := first | assumption | omega) only [SA, SB, SC, SP, SQ, SZ, reduceIte, reduceCtorEq, Nat.reduceAdd, Nat.reduceEqDiff, beq_self_eq_true, decide_true, decide_false, Int.reduceBEq, Int.reduceLT, Int.reduceLE, S_eta, *])
theorem lsz_TClerk (x_sums x_last : (List Int)) (x_told : (List TTold)) (l : Int) (h0 : 0 ≤ l) (h1 : l ≤ 1048576) (hw : wf_TClerk ⟨x_sums, x_last, x_told⟩) : Fun T 1 [rL x_sums, rL x_last, rL x_told, i64 l] = some [i64 (szR l (sz_TClerk ⟨x_sums, x_last, x_told⟩))] := by
  rw [Fun_k (t := tm1) rfl]; unfold tm1
  unfold wf_TClerk at hw
  simp only at hw
  obtain ⟨w0, w1, w2⟩ := hw
  by_cases c0 : ((szL (fun _ => 0) x_sums : Nat) : Int) ≤ l
  rotate_left
  · have e0 : szR (l) (szL (fun _ => 0) x_sums) = -1 := if_neg c0
    have d0 : decide ((-1 : Int) < 0) = true := rfl
    have e : szR l (sz_TClerk ⟨x_sums, x_last, x_told⟩) = -1 := by unfold szR sz_TClerk; simp only []; split <;> omega
    simp (maxSteps := 2000000) (disch := first | assumption | omega) only [SA, SB, SC, SP, SQ, SZ, reduceIte, reduceCtorEq, Nat.reduceAdd, Nat.reduceEqDiff, beq_self_eq_true, decide_true, decide_false, Int.reduceBEq, Int.reduceLT, Int.reduceLE, S_eta, lsz_LI, lsz_LI, lsz_LTTold, *] <;> repeat' (refine fork_eq (fun _ => ?_) (fun _ => ?_) <;> try simp (maxSteps := 2000000) (disch := first | assumption | omega) only [SA, SB, SC, SP, SQ, SZ, reduceIte, reduceCtorEq, Nat.reduceAdd, Nat.reduceEqDiff, beq_self_eq_true, decide_true, decide_false, Int.reduceBEq, Int.reduceLT, Int.reduceLE, S_eta, lsz_LI, lsz_LI, lsz_LTTold, *])
  have e0 : szR (l) (szL (fun _ => 0) x_sums) = l - (szL (fun _ => 0) x_sums : Nat) := if_pos c0
  have d0 : decide (l - ((szL (fun _ => 0) x_sums : Nat) : Int) < 0) = false := by simp; omega
  by_cases c1 : ((szL (fun _ => 0) x_last : Nat) : Int) ≤ l - ((szL (fun _ => 0) x_sums : Nat) : Int)
  rotate_left
  · have e1 : szR (l - ((szL (fun _ => 0) x_sums : Nat) : Int)) (szL (fun _ => 0) x_last) = -1 := if_neg c1
    have d1 : decide ((-1 : Int) < 0) = true := rfl
    have e : szR l (sz_TClerk ⟨x_sums, x_last, x_told⟩) = -1 := by unfold szR sz_TClerk; simp only []; split <;> omega
    simp (maxSteps := 2000000) (disch := first | assumption | omega) only [SA, SB, SC, SP, SQ, SZ, reduceIte, reduceCtorEq, Nat.reduceAdd, Nat.reduceEqDiff, beq_self_eq_true, decide_true, decide_false, Int.reduceBEq, Int.reduceLT, Int.reduceLE, S_eta, lsz_LI, lsz_LI, lsz_LTTold, *] <;> repeat' (refine fork_eq (fun _ => ?_) (fun _ => ?_) <;> try simp (maxSteps := 2000000) (disch := first | assumption | omega) only [SA, SB, SC, SP, SQ, SZ, reduceIte, reduceCtorEq, Nat.reduceAdd, Nat.reduceEqDiff, beq_self_eq_true, decide_true, decide_false, Int.reduceBEq, Int.reduceLT, Int.reduceLE, S_eta, lsz_LI, lsz_LI, lsz_LTTold, *])
  have e1 : szR (l - ((szL (fun _ => 0) x_sums : Nat) : Int)) (szL (fun _ => 0) x_last) = l - ((szL (fun _ => 0) x_sums : Nat) : Int) - (szL (fun _ => 0) x_last : Nat) := if_pos c1
  have d1 : decide (l - ((szL (fun _ => 0) x_sums : Nat) : Int) - ((szL (fun _ => 0) x_last : Nat) : Int) < 0) = false := by simp; omega
  by_cases c2 : ((szL (fun _ => 0) x_told : Nat) : Int) ≤ l - ((szL (fun _ => 0) x_sums : Nat) : Int) - ((szL (fun _ => 0) x_last : Nat) : Int)
  rotate_left
  · have e2 : szR (l - ((szL (fun _ => 0) x_sums : Nat) : Int) - ((szL (fun _ => 0) x_last : Nat) : Int)) (szL (fun _ => 0) x_told) = -1 := if_neg c2
    have d2 : decide ((-1 : Int) < 0) = true := rfl
    have e : szR l (sz_TClerk ⟨x_sums, x_last, x_told⟩) = -1 := by unfold szR sz_TClerk; simp only []; split <;> omega
    simp (maxSteps := 2000000) (disch := first | assumption | omega) only [SA, SB, SC, SP, SQ, SZ, reduceIte, reduceCtorEq, Nat.reduceAdd, Nat.reduceEqDiff, beq_self_eq_true, decide_true, decide_false, Int.reduceBEq, Int.reduceLT, Int.reduceLE, S_eta, lsz_LI, lsz_LI, lsz_LTTold, *] <;> repeat' (refine fork_eq (fun _ => ?_) (fun _ => ?_) <;> try simp (maxSteps := 2000000) (disch := first | assumption | omega) only [SA, SB, SC, SP, SQ, SZ, reduceIte, reduceCtorEq, Nat.reduceAdd, Nat.reduceEqDiff, beq_self_eq_true, decide_true, decide_false, Int.reduceBEq, Int.reduceLT, Int.reduceLE, S_eta, lsz_LI, lsz_LI, lsz_LTTold, *])
  have e2 : szR (l - ((szL (fun _ => 0) x_sums : Nat) : Int) - ((szL (fun _ => 0) x_last : Nat) : Int)) (szL (fun _ => 0) x_told) = l - ((szL (fun _ => 0) x_sums : Nat) : Int) - ((szL (fun _ => 0) x_last : Nat) : Int) - (szL (fun _ => 0) x_told : Nat) := if_pos c2
  have d2 : decide (l - ((szL (fun _ => 0) x_sums : Nat) : Int) - ((szL (fun _ => 0) x_last : Nat) : Int) - ((szL (fun _ => 0) x_told : Nat) : Int) < 0) = false := by simp; omega
  have e : szR l (sz_TClerk ⟨x_sums, x_last, x_told⟩) = l - ((szL (fun _ => 0) x_sums : Nat) : Int) - ((szL (fun _ => 0) x_last : Nat) : Int) - ((szL (fun _ => 0) x_told : Nat) : Int) := by unfold szR sz_TClerk; simp only []; split <;> omega
  simp (maxSteps := 2000000) (disch := first | assumption | omega) only [SA, SB, SC, SP, SQ, SZ, reduceIte, reduceCtorEq, Nat.reduceAdd, Nat.reduceEqDiff, beq_self_eq_true, decide_true, decide_false, Int.reduceBEq, Int.reduceLT, Int.reduceLE, S_eta, lsz_LI, lsz_LI, lsz_LTTold, *] <;> repeat' (refine fork_eq (fun _ => ?_) (fun _ => ?_) <;> try simp (maxSteps := 2000000) (disch := first | assumption | omega) only [SA, SB, SC, SP, SQ, SZ, reduceIte, reduceCtorEq, Nat.reduceAdd, Nat.reduceEqDiff, beq_self_eq_true, decide_true, decide_false, Int.reduceBEq, Int.reduceLT, Int.reduceLE, S_eta, lsz_LI, lsz_LI, lsz_LTTold, *])
theorem lto_TClerk (x_sums x_last : (List Int)) (x_told : (List TTold)) (hs : sz_TClerk ⟨x_sums, x_last, x_told⟩ ≤ 1048576) : Fun T 4 [rL x_sums, rL x_last, rL x_told] = some [rL x_sums, rL x_last, rL x_told] := by
  rw [Fun_k (t := tm4) rfl]; unfold tm4
  unfold sz_TClerk at hs
  simp only at hs
  have s0 : szL (fun _ => 0) x_sums ≤ 1048576 := by omega
  have s1 : szL (fun _ => 0) x_last ≤ 1048576 := by omega
  have s2 : szL (fun _ => 0) x_told ≤ 1048576 := by omega
  simp (maxSteps := 2000000) (disch := first | assumption | omega) only [SA, SB, SC, SP, SQ, SZ, reduceIte, reduceCtorEq, Nat.reduceAdd, Nat.reduceEqDiff, beq_self_eq_true, decide_true, decide_false, Int.reduceBEq, Int.reduceLT, Int.reduceLE, S_eta, lto_LI, lto_LTTold, *] <;> repeat' (refine fork_eq (fun _ => ?_) (fun _ => ?_) <;> try simp (maxSteps := 2000000) (disch := first | assumption | omega) only [SA, SB, SC, SP, SQ, SZ, reduceIte, reduceCtorEq, Nat.reduceAdd, Nat.reduceEqDiff, beq_self_eq_true, decide_true, decide_false, Int.reduceBEq, Int.reduceLT, Int.reduceLE, S_eta, lto_LI, lto_LTTold, *])
theorem leq_TClerk (x_sums x_last : (List Int)) (x_told : (List TTold)) (y_sums y_last : (List Int)) (y_told : (List TTold)) (hs : sz_TClerk ⟨x_sums, x_last, x_told⟩ ≤ 1099511627776) : Fun T 41 [rL x_sums, rL x_last, rL x_told, rL y_sums, rL y_last, rL y_told] = some [.bool (decide ((⟨x_sums, x_last, x_told⟩ : TClerk) = ⟨y_sums, y_last, y_told⟩))] := by
  rw [Fun_k (t := tm41) rfl]; unfold tm41
  unfold sz_TClerk at hs
  simp only at hs
  have s0 : szL (fun _ => 0) x_sums ≤ 1099511627776 := by omega
  have s1 : szL (fun _ => 0) x_last ≤ 1099511627776 := by omega
  have s2 : szL (fun _ => 0) x_told ≤ 1099511627776 := by omega
  have e : decide ((⟨x_sums, x_last, x_told⟩ : TClerk) = ⟨y_sums, y_last, y_told⟩) = (decide ((x_sums : (List Int)) = y_sums) && decide ((x_last : (List Int)) = y_last) && decide ((x_told : (List TTold)) = y_told)) := by
    simp only [TClerk.mk.injEq, Bool.beq_eq_decide_eq, Bool.decide_and, Bool.and_assoc]
  rw [e]
  simp (maxSteps := 2000000) (disch := first | assumption | omega) only [SA, SB, SC, SP, SQ, SZ, reduceIte, reduceCtorEq, Nat.reduceAdd, Nat.reduceEqDiff, beq_self_eq_true, decide_true, decide_false, Int.reduceBEq, Int.reduceLT, Int.reduceLE, S_eta, leq_LI, leq_LTTold, *] <;> repeat' (refine fork_eq (fun _ => ?_) (fun _ => ?_) <;> try simp (maxSteps := 2000000) (disch := first | assumption | omega) only [SA, SB, SC, SP, SQ, SZ, reduceIte, reduceCtorEq, Nat.reduceAdd, Nat.reduceEqDiff, beq_self_eq_true, decide_true, decide_false, Int.reduceBEq, Int.reduceLT, Int.reduceLE, S_eta, leq_LI, leq_LTTold, *])
theorem lmk_TClerk (x_sums x_last : (List Int)) (x_told : (List TTold)) (k : Int) (hk : 0 ≤ k) (hb : k + (ctL (fun _ => 1) x_sums + ctL (fun _ => 1) x_last + ctL ct_TTold x_told : Nat) ≤ 1152921504606846976) (hl0 : x_sums.length ≤ 1099511627776) (hl1 : x_last.length ≤ 1099511627776) (hl2 : x_told.length ≤ 1099511627776) : Fun T 45 [rL x_sums, rL x_last, rL x_told, i64 k] = some [i64 (k + (ctL (fun _ => 1) x_sums : Nat) + (ctL (fun _ => 1) x_last : Nat) + (ctL ct_TTold x_told : Nat)), rL (mkL (fun _ => 1) (fun _ k => k) x_sums (k)), rL (mkL (fun _ => 1) (fun _ k => k) x_last (k + (ctL (fun _ => 1) x_sums : Nat))), rL (mkL ct_TTold mk_TTold x_told (k + (ctL (fun _ => 1) x_sums : Nat) + (ctL (fun _ => 1) x_last : Nat)))] := by
  rw [Fun_k (t := tm45) rfl]; unfold tm45
  simp (maxSteps := 2000000) (disch := first | assumption | omega) only [SA, SB, SC, SP, SQ, SZ, reduceIte, reduceCtorEq, Nat.reduceAdd, Nat.reduceEqDiff, beq_self_eq_true, decide_true, decide_false, Int.reduceBEq, Int.reduceLT, Int.reduceLE, S_eta, lmk_LI, lmk_LTTold, *] <;> repeat' (refine fork_eq (fun _ => ?_) (fun _ => ?_) <;> try simp (maxSteps := 2000000) (disch := first | assumption | omega) only [SA, SB, SC, SP, SQ, SZ, reduceIte, reduceCtorEq, Nat.reduceAdd, Nat.reduceEqDiff, beq_self_eq_true, decide_true, decide_false, Int.reduceBEq, Int.reduceLT, Int.reduceLE, S_eta, lmk_LI, lmk_LTTold, *])
theorem lhd_TClerk (x_sums x_last : (List Int)) (x_told : (List TTold)) (k : Int) (hk : 0 ≤ k) (hb : k + (ctL (fun _ => 1) x_sums + ctL (fun _ => 1) x_last + ctL ct_TTold x_told : Nat) ≤ 1152921504606846976) (hl0 : x_sums.length ≤ 1099511627776) (hl1 : x_last.length ≤ 1099511627776) (hl2 : x_told.length ≤ 1099511627776) : Fun T 48 [rL (mkL (fun _ => 1) (fun _ k => k) x_sums (k)), rL (mkL (fun _ => 1) (fun _ k => k) x_last (k + (ctL (fun _ => 1) x_sums : Nat))), rL (mkL ct_TTold mk_TTold x_told (k + (ctL (fun _ => 1) x_sums : Nat) + (ctL (fun _ => 1) x_last : Nat))), i64 k] = some [i64 (k + (ctL (fun _ => 1) x_sums : Nat) + (ctL (fun _ => 1) x_last : Nat) + (ctL ct_TTold x_told : Nat))] := by
  rw [Fun_k (t := tm48) rfl]; unfold tm48
  have z1 : decide (k + (ctL (fun _ => 1) x_sums : Nat) < 0) = false := by simp; omega
  have z2 : decide (k + (ctL (fun _ => 1) x_sums : Nat) + (ctL (fun _ => 1) x_last : Nat) < 0) = false := by simp; omega
  have z3 : decide (k + (ctL (fun _ => 1) x_sums : Nat) + (ctL (fun _ => 1) x_last : Nat) + (ctL ct_TTold x_told : Nat) < 0) = false := by simp; omega
  simp (maxSteps := 2000000) (disch := first | assumption | omega) only [SA, SB, SC, SP, SQ, SZ, reduceIte, reduceCtorEq, Nat.reduceAdd, Nat.reduceEqDiff, beq_self_eq_true, decide_true, decide_false, Int.reduceBEq, Int.reduceLT, Int.reduceLE, S_eta, lhd_LI, lhd_LTTold, *] <;> repeat' (refine fork_eq (fun _ => ?_) (fun _ => ?_) <;> try simp (maxSteps := 2000000) (disch := first | assumption | omega) only [SA, SB, SC, SP, SQ, SZ, reduceIte, reduceCtorEq, Nat.reduceAdd, Nat.reduceEqDiff, beq_self_eq_true, decide_true, decide_false, Int.reduceBEq, Int.reduceLT, Int.reduceLE, S_eta, lhd_LI, lhd_LTTold, *])
theorem lto_TAsk (x_client x_no x_cmd_kind x_cmd_id x_cmd_src x_cmd_dst x_cmd_amt : Int) : Fun T 8 [i64 x_client, i64 x_no, i64 x_cmd_kind, i64 x_cmd_id, i64 x_cmd_src, i64 x_cmd_dst, i64 x_cmd_amt] = some [i64 x_client, i64 x_no, i64 x_cmd_kind, i64 x_cmd_id, i64 x_cmd_src, i64 x_cmd_dst, i64 x_cmd_amt] := by
  rw [Fun_k (t := tm8) rfl]; unfold tm8
  simp (maxSteps := 2000000) (disch := first | assumption | omega) only [SA, SB, SC, SP, SQ, SZ, reduceIte, reduceCtorEq, Nat.reduceAdd, Nat.reduceEqDiff, beq_self_eq_true, decide_true, decide_false, Int.reduceBEq, Int.reduceLT, Int.reduceLE, S_eta, lto_TCmd, *] <;> repeat' (refine fork_eq (fun _ => ?_) (fun _ => ?_) <;> try simp (maxSteps := 2000000) (disch := first | assumption | omega) only [SA, SB, SC, SP, SQ, SZ, reduceIte, reduceCtorEq, Nat.reduceAdd, Nat.reduceEqDiff, beq_self_eq_true, decide_true, decide_false, Int.reduceBEq, Int.reduceLT, Int.reduceLE, S_eta, lto_TCmd, *])
theorem impl_within (x lo up : Int) : Fun T 30 [i64 x, i64 lo, i64 up] = some [.bool (inR x lo up)] := by
  rw [Fun_k (t := tm30) rfl]; unfold tm30; unfold inR
  simp (maxSteps := 2000000) (disch := first | assumption | omega) only [SA, SB, SC, SP, SQ, SZ, reduceIte, reduceCtorEq, Nat.reduceAdd, Nat.reduceEqDiff, beq_self_eq_true, decide_true, decide_false, Int.reduceBEq, Int.reduceLT, Int.reduceLE, S_eta, *] <;> repeat' (refine fork_eq (fun _ => ?_) (fun _ => ?_) <;> try simp (maxSteps := 2000000) (disch := first | assumption | omega) only [SA, SB, SC, SP, SQ, SZ, reduceIte, reduceCtorEq, Nat.reduceAdd, Nat.reduceEqDiff, beq_self_eq_true, decide_true, decide_false, Int.reduceBEq, Int.reduceLT, Int.reduceLE, S_eta, *])
theorem spec_l1In (x lo up : Int) : Fun T 13 [i64 x, i64 lo, i64 up] = some [.bool (inR x lo up)] := by
  rw [Fun_k (t := tm13) rfl]; unfold tm13; unfold inR
  simp (maxSteps := 2000000) (disch := first | assumption | omega) only [SA, SB, SC, SP, SQ, SZ, reduceIte, reduceCtorEq, Nat.reduceAdd, Nat.reduceEqDiff, beq_self_eq_true, decide_true, decide_false, Int.reduceBEq, Int.reduceLT, Int.reduceLE, S_eta, *] <;> repeat' (refine fork_eq (fun _ => ?_) (fun _ => ?_) <;> try simp (maxSteps := 2000000) (disch := first | assumption | omega) only [SA, SB, SC, SP, SQ, SZ, reduceIte, reduceCtorEq, Nat.reduceAdd, Nat.reduceEqDiff, beq_self_eq_true, decide_true, decide_false, Int.reduceBEq, Int.reduceLT, Int.reduceLE, S_eta, *])
theorem impl_isAccount (n : Int) : Fun T 35 [i64 n] = some [.bool (inR n 0 3)] := by
  rw [Fun_k (t := tm35) rfl]; unfold tm35
  simp (maxSteps := 2000000) (disch := first | assumption | omega) only [SA, SB, SC, SP, SQ, SZ, reduceIte, reduceCtorEq, Nat.reduceAdd, Nat.reduceEqDiff, beq_self_eq_true, decide_true, decide_false, Int.reduceBEq, Int.reduceLT, Int.reduceLE, S_eta, impl_within, *] <;> repeat' (refine fork_eq (fun _ => ?_) (fun _ => ?_) <;> try simp (maxSteps := 2000000) (disch := first | assumption | omega) only [SA, SB, SC, SP, SQ, SZ, reduceIte, reduceCtorEq, Nat.reduceAdd, Nat.reduceEqDiff, beq_self_eq_true, decide_true, decide_false, Int.reduceBEq, Int.reduceLT, Int.reduceLE, S_eta, impl_within, *])
theorem spec_l2Account (n : Int) : Fun T 19 [i64 n] = some [.bool (inR n 0 3)] := by
  rw [Fun_k (t := tm19) rfl]; unfold tm19
  simp (maxSteps := 2000000) (disch := first | assumption | omega) only [SA, SB, SC, SP, SQ, SZ, reduceIte, reduceCtorEq, Nat.reduceAdd, Nat.reduceEqDiff, beq_self_eq_true, decide_true, decide_false, Int.reduceBEq, Int.reduceLT, Int.reduceLE, S_eta, spec_l1In, *] <;> repeat' (refine fork_eq (fun _ => ?_) (fun _ => ?_) <;> try simp (maxSteps := 2000000) (disch := first | assumption | omega) only [SA, SB, SC, SP, SQ, SZ, reduceIte, reduceCtorEq, Nat.reduceAdd, Nat.reduceEqDiff, beq_self_eq_true, decide_true, decide_false, Int.reduceBEq, Int.reduceLT, Int.reduceLE, S_eta, spec_l1In, *])
theorem spec_l2Code (k i f t a : Int) : Fun T 18 [i64 k, i64 i, i64 f, i64 t, i64 a] = some [i64 (cmdCode ⟨k, i, f, t, a⟩)] := by
  rw [Fun_k (t := tm18) rfl]; unfold tm18; unfold cmdCode
  simp (maxSteps := 2000000) (disch := first | assumption | omega) only [SA, SB, SC, SP, SQ, SZ, reduceIte, reduceCtorEq, Nat.reduceAdd, Nat.reduceEqDiff, beq_self_eq_true, decide_true, decide_false, Int.reduceBEq, Int.reduceLT, Int.reduceLE, S_eta, spec_l2Account, spec_l1In, *] <;> repeat' (refine fork_eq (fun _ => ?_) (fun _ => ?_) <;> try simp (maxSteps := 2000000) (disch := first | assumption | omega) only [SA, SB, SC, SP, SQ, SZ, reduceIte, reduceCtorEq, Nat.reduceAdd, Nat.reduceEqDiff, beq_self_eq_true, decide_true, decide_false, Int.reduceBEq, Int.reduceLT, Int.reduceLE, S_eta, spec_l2Account, spec_l1In, *])
theorem spec_GoodCmd (k i f t a : Int) : Fun T 17 [i64 k, i64 i, i64 f, i64 t, i64 a] = some [.bool (cmdOk ⟨k, i, f, t, a⟩)] := by
  rw [Fun_k (t := tm17) rfl]; unfold tm17; unfold cmdOk
  simp (maxSteps := 2000000) (disch := first | assumption | omega) only [SA, SB, SC, SP, SQ, SZ, reduceIte, reduceCtorEq, Nat.reduceAdd, Nat.reduceEqDiff, beq_self_eq_true, decide_true, decide_false, Int.reduceBEq, Int.reduceLT, Int.reduceLE, S_eta, spec_l2Code, S_eqs, cmdCode0, *] <;> repeat' (refine fork_eq (fun _ => ?_) (fun _ => ?_) <;> try simp (maxSteps := 2000000) (disch := first | assumption | omega) only [SA, SB, SC, SP, SQ, SZ, reduceIte, reduceCtorEq, Nat.reduceAdd, Nat.reduceEqDiff, beq_self_eq_true, decide_true, decide_false, Int.reduceBEq, Int.reduceLT, Int.reduceLE, S_eta, spec_l2Code, S_eqs, cmdCode0, *])
  all_goals (refine bool_fin ?_; simp only [Bool.and_eq_true, Bool.or_eq_true, Bool.not_eq_true', Bool.not_eq_false', Bool.and_eq_false_iff, Bool.or_eq_false_iff, Bool.false_eq_true, beq_iff_eq, beq_eq_false_iff_ne, decide_eq_true_eq, decide_eq_false_iff_not, ne_eq] at *; grind)
theorem impl_GoodCmd (k i f t a : Int) : Fun T 34 [i64 k, i64 i, i64 f, i64 t, i64 a] = some [.bool (cmdOk ⟨k, i, f, t, a⟩)] := by
  rw [Fun_k (t := tm34) rfl]; unfold tm34; unfold cmdOk
  simp (maxSteps := 2000000) (disch := first | assumption | omega) only [SA, SB, SC, SP, SQ, SZ, reduceIte, reduceCtorEq, Nat.reduceAdd, Nat.reduceEqDiff, beq_self_eq_true, decide_true, decide_false, Int.reduceBEq, Int.reduceLT, Int.reduceLE, S_eta, impl_within, impl_isAccount, S_eqs, *] <;> repeat' (refine fork_eq (fun _ => ?_) (fun _ => ?_) <;> try simp (maxSteps := 2000000) (disch := first | assumption | omega) only [SA, SB, SC, SP, SQ, SZ, reduceIte, reduceCtorEq, Nat.reduceAdd, Nat.reduceEqDiff, beq_self_eq_true, decide_true, decide_false, Int.reduceBEq, Int.reduceLT, Int.reduceLE, S_eta, impl_within, impl_isAccount, S_eqs, *])
theorem spec_l1All (xs : List Int) (lo up : Int) (hx : xs.length ≤ 1099511627776) : Fun T 14 [rL xs, i64 lo, i64 up] = some [.bool (xs.all fun x => inR x lo up)] := by
  rw [Fun_k (t := tm14) rfl]; unfold tm14
  simp (maxSteps := 2000000) (disch := first | assumption | omega) only [SA, SB, SC, SP, SQ, SZ, reduceIte, reduceCtorEq, Nat.reduceAdd, Nat.reduceEqDiff, beq_self_eq_true, decide_true, decide_false, Int.reduceBEq, Int.reduceLT, Int.reduceLE, S_eta, S_row, *]
  rw [allX 1 xs (fun x => inR x lo up) [.bool false]]
  · simp (maxSteps := 2000000) (disch := first | assumption | omega) only [SA, SB, SC, SP, SQ, SZ, reduceIte, reduceCtorEq, Nat.reduceAdd, Nat.reduceEqDiff, beq_self_eq_true, decide_true, decide_false, Int.reduceBEq, Int.reduceLT, Int.reduceLE, S_eta, *] <;> repeat' (refine fork_eq (fun _ => ?_) (fun _ => ?_) <;> try simp (maxSteps := 2000000) (disch := first | assumption | omega) only [SA, SB, SC, SP, SQ, SZ, reduceIte, reduceCtorEq, Nat.reduceAdd, Nat.reduceEqDiff, beq_self_eq_true, decide_true, decide_false, Int.reduceBEq, Int.reduceLT, Int.reduceLE, S_eta, *])
  · intro i hi hb hl hp
    simp (maxSteps := 2000000) (disch := first | assumption | omega) only [SA, SB, SC, SP, SQ, SZ, reduceIte, reduceCtorEq, Nat.reduceAdd, Nat.reduceEqDiff, beq_self_eq_true, decide_true, decide_false, Int.reduceBEq, Int.reduceLT, Int.reduceLE, S_eta, S_row, spec_l1In, *] <;> repeat' (refine fork_eq (fun _ => ?_) (fun _ => ?_) <;> try simp (maxSteps := 2000000) (disch := first | assumption | omega) only [SA, SB, SC, SP, SQ, SZ, reduceIte, reduceCtorEq, Nat.reduceAdd, Nat.reduceEqDiff, beq_self_eq_true, decide_true, decide_false, Int.reduceBEq, Int.reduceLT, Int.reduceLE, S_eta, S_row, spec_l1In, *])
  · intro i hi hb hl hp
    simp (maxSteps := 2000000) (disch := first | assumption | omega) only [SA, SB, SC, SP, SQ, SZ, reduceIte, reduceCtorEq, Nat.reduceAdd, Nat.reduceEqDiff, beq_self_eq_true, decide_true, decide_false, Int.reduceBEq, Int.reduceLT, Int.reduceLE, S_eta, S_row, spec_l1In, *] <;> repeat' (refine fork_eq (fun _ => ?_) (fun _ => ?_) <;> try simp (maxSteps := 2000000) (disch := first | assumption | omega) only [SA, SB, SC, SP, SQ, SZ, reduceIte, reduceCtorEq, Nat.reduceAdd, Nat.reduceEqDiff, beq_self_eq_true, decide_true, decide_false, Int.reduceBEq, Int.reduceLT, Int.reduceLE, S_eta, S_row, spec_l1In, *])
  · intro hl
    simp (maxSteps := 2000000) (disch := first | assumption | omega) only [SA, SB, SC, SP, SQ, SZ, reduceIte, reduceCtorEq, Nat.reduceAdd, Nat.reduceEqDiff, beq_self_eq_true, decide_true, decide_false, Int.reduceBEq, Int.reduceLT, Int.reduceLE, S_eta, *] <;> repeat' (refine fork_eq (fun _ => ?_) (fun _ => ?_) <;> try simp (maxSteps := 2000000) (disch := first | assumption | omega) only [SA, SB, SC, SP, SQ, SZ, reduceIte, reduceCtorEq, Nat.reduceAdd, Nat.reduceEqDiff, beq_self_eq_true, decide_true, decide_false, Int.reduceBEq, Int.reduceLT, Int.reduceLE, S_eta, *])
theorem slices_Clone_int (xs : List Int) (hx : xs.length ≤ 10000000000) : Fun T 37 [rL xs] = some [rL xs] := by
  rw [Fun_ext (e := ex37) rfl]
  cases xs with
  | nil => rfl
  | cons x xs =>
    show Fun (entTab [(37, .tm tm37)]) 37 [rL (x :: xs)] = _
    rw [Fun_k (t := tm37) rfl]
    unfold tm37
    have hx' : (x :: xs).length ≤ 100000000000 := by omega
    have h0 : (Prim.mk 1 0).run [] = some [.rows 1 []] := rfl
    have h1 : (x :: xs).isEmpty = false := rfl
    simp (disch := first | assumption | omega) only [SA, SB, SC, SP, SQ, SZ, reduceIte, reduceCtorEq, Nat.reduceAdd, Nat.reduceEqDiff, rL_ne, rL_emp, h0, h1, S_app]
theorem spec_l1Own (xs : List Int) (hx : xs.length ≤ 10000000000) : Fun T 22 [rL xs] = some [rL xs] := by
  rw [Fun_k (t := tm22) rfl]; unfold tm22
  have h0 : (Prim.mk 1 0).run [] = some [.rows 1 []] := rfl
  simp (maxSteps := 2000000) (disch := first | assumption | omega) only [SA, SB, SC, SP, SQ, SZ, reduceIte, reduceCtorEq, Nat.reduceAdd, Nat.reduceEqDiff, beq_self_eq_true, decide_true, decide_false, Int.reduceBEq, Int.reduceLT, Int.reduceLE, S_eta, h0, S_app, *] <;> repeat' (refine fork_eq (fun _ => ?_) (fun _ => ?_) <;> try simp (maxSteps := 2000000) (disch := first | assumption | omega) only [SA, SB, SC, SP, SQ, SZ, reduceIte, reduceCtorEq, Nat.reduceAdd, Nat.reduceEqDiff, beq_self_eq_true, decide_true, decide_false, Int.reduceBEq, Int.reduceLT, Int.reduceLE, S_eta, h0, S_app, *])
theorem spec_l15Told (x y : Int) : Fun T 15 [i64 x, i64 y] = some [.bool (toldOk ⟨x, y⟩)] := by
  rw [Fun_k (t := tm15) rfl]; unfold tm15; unfold toldOk
  simp (maxSteps := 2000000) (disch := first | assumption | omega) only [SA, SB, SC, SP, SQ, SZ, reduceIte, reduceCtorEq, Nat.reduceAdd, Nat.reduceEqDiff, beq_self_eq_true, decide_true, decide_false, Int.reduceBEq, Int.reduceLT, Int.reduceLE, S_eta, spec_l1In, *] <;> repeat' (refine fork_eq (fun _ => ?_) (fun _ => ?_) <;> try simp (maxSteps := 2000000) (disch := first | assumption | omega) only [SA, SB, SC, SP, SQ, SZ, reduceIte, reduceCtorEq, Nat.reduceAdd, Nat.reduceEqDiff, beq_self_eq_true, decide_true, decide_false, Int.reduceBEq, Int.reduceLT, Int.reduceLE, S_eta, spec_l1In, *])
theorem impl_goodTold (x y : Int) : Fun T 32 [i64 x, i64 y] = some [.bool (toldOk ⟨x, y⟩)] := by
  rw [Fun_k (t := tm32) rfl]; unfold tm32; unfold toldOk
  simp (maxSteps := 2000000) (disch := first | assumption | omega) only [SA, SB, SC, SP, SQ, SZ, reduceIte, reduceCtorEq, Nat.reduceAdd, Nat.reduceEqDiff, beq_self_eq_true, decide_true, decide_false, Int.reduceBEq, Int.reduceLT, Int.reduceLE, S_eta, impl_within, *] <;> repeat' (refine fork_eq (fun _ => ?_) (fun _ => ?_) <;> try simp (maxSteps := 2000000) (disch := first | assumption | omega) only [SA, SB, SC, SP, SQ, SZ, reduceIte, reduceCtorEq, Nat.reduceAdd, Nat.reduceEqDiff, beq_self_eq_true, decide_true, decide_false, Int.reduceBEq, Int.reduceLT, Int.reduceLE, S_eta, impl_within, *])
theorem spec_GoodSums (xs : List Int) (hx : xs.length ≤ 1099511627776) : Fun T 12 [rL xs] = some [.bool (sumsOk xs)] := by
  rw [Fun_k (t := tm12) rfl]; unfold tm12; unfold sumsOk isum
  simp (maxSteps := 2000000) (disch := first | assumption | omega) only [SA, SB, SC, SP, SQ, SZ, reduceIte, reduceCtorEq, Nat.reduceAdd, Nat.reduceEqDiff, beq_self_eq_true, decide_true, decide_false, Int.reduceBEq, Int.reduceLT, Int.reduceLE, S_eta, *]
  rw [foldAll 1 xs (fun x => inR x 0 400) (fun i (s : Int) => [i64 s, i64 i]) 0 (fun s x => s + x) [.bool false] (fun i s => 0 ≤ s ∧ s ≤ 400 * (i : Int)) (fun s => [i64 s]) rfl (by omega)]
  · simp (maxSteps := 2000000) (disch := first | assumption | omega) only [SA, SB, SC, SP, SQ, SZ, reduceIte, reduceCtorEq, Nat.reduceAdd, Nat.reduceEqDiff, beq_self_eq_true, decide_true, decide_false, Int.reduceBEq, Int.reduceLT, Int.reduceLE, S_eta, *] <;> repeat' (refine fork_eq (fun _ => ?_) (fun _ => ?_) <;> try simp (maxSteps := 2000000) (disch := first | assumption | omega) only [SA, SB, SC, SP, SQ, SZ, reduceIte, reduceCtorEq, Nat.reduceAdd, Nat.reduceEqDiff, beq_self_eq_true, decide_true, decide_false, Int.reduceBEq, Int.reduceLT, Int.reduceLE, S_eta, *])
  · intro i s hi hb hl hv
    refine ⟨?_, fun hp => by have := inR_rng hp; omega⟩
    cases hp : inR (atI xs (i : Int)) 0 400
    · simp (maxSteps := 2000000) (disch := first | assumption | omega) only [SA, SB, SC, SP, SQ, SZ, reduceIte, reduceCtorEq, Nat.reduceAdd, Nat.reduceEqDiff, beq_self_eq_true, decide_true, decide_false, Int.reduceBEq, Int.reduceLT, Int.reduceLE, S_eta, S_row, spec_l1In, *] <;> repeat' (refine fork_eq (fun _ => ?_) (fun _ => ?_) <;> try simp (maxSteps := 2000000) (disch := first | assumption | omega) only [SA, SB, SC, SP, SQ, SZ, reduceIte, reduceCtorEq, Nat.reduceAdd, Nat.reduceEqDiff, beq_self_eq_true, decide_true, decide_false, Int.reduceBEq, Int.reduceLT, Int.reduceLE, S_eta, S_row, spec_l1In, *])
    · have := inR_rng hp
      simp (maxSteps := 2000000) (disch := first | assumption | omega) only [SA, SB, SC, SP, SQ, SZ, reduceIte, reduceCtorEq, Nat.reduceAdd, Nat.reduceEqDiff, beq_self_eq_true, decide_true, decide_false, Int.reduceBEq, Int.reduceLT, Int.reduceLE, S_eta, S_row, spec_l1In, *] <;> repeat' (refine fork_eq (fun _ => ?_) (fun _ => ?_) <;> try simp (maxSteps := 2000000) (disch := first | assumption | omega) only [SA, SB, SC, SP, SQ, SZ, reduceIte, reduceCtorEq, Nat.reduceAdd, Nat.reduceEqDiff, beq_self_eq_true, decide_true, decide_false, Int.reduceBEq, Int.reduceLT, Int.reduceLE, S_eta, S_row, spec_l1In, *])
  · intro s hl hv
    simp (maxSteps := 2000000) (disch := first | assumption | omega) only [SA, SB, SC, SP, SQ, SZ, reduceIte, reduceCtorEq, Nat.reduceAdd, Nat.reduceEqDiff, beq_self_eq_true, decide_true, decide_false, Int.reduceBEq, Int.reduceLT, Int.reduceLE, S_eta, *] <;> repeat' (refine fork_eq (fun _ => ?_) (fun _ => ?_) <;> try simp (maxSteps := 2000000) (disch := first | assumption | omega) only [SA, SB, SC, SP, SQ, SZ, reduceIte, reduceCtorEq, Nat.reduceAdd, Nat.reduceEqDiff, beq_self_eq_true, decide_true, decide_false, Int.reduceBEq, Int.reduceLT, Int.reduceLE, S_eta, *])
theorem impl_GoodSums_1 (x : Int) : Fun T 29 [i64 x] = some [.bool (!inR x 0 400)] := by
  rw [Fun_k (t := tm29) rfl]; unfold tm29
  simp (maxSteps := 2000000) (disch := first | assumption | omega) only [SA, SB, SC, SP, SQ, SZ, reduceIte, reduceCtorEq, Nat.reduceAdd, Nat.reduceEqDiff, beq_self_eq_true, decide_true, decide_false, Int.reduceBEq, Int.reduceLT, Int.reduceLE, S_eta, impl_within, *] <;> repeat' (refine fork_eq (fun _ => ?_) (fun _ => ?_) <;> try simp (maxSteps := 2000000) (disch := first | assumption | omega) only [SA, SB, SC, SP, SQ, SZ, reduceIte, reduceCtorEq, Nat.reduceAdd, Nat.reduceEqDiff, beq_self_eq_true, decide_true, decide_false, Int.reduceBEq, Int.reduceLT, Int.reduceLE, S_eta, impl_within, *])
theorem ix_GoodSums_1  (xs : List Int) (hx : xs.length ≤ 1099511627776) : Fun T 28 [rL xs] = some [i64 (ixF (fun x => !inR x 0 400) xs)] := by
  rw [Fun_k (t := tm28) rfl]; unfold tm28
  simp (maxSteps := 2000000) (disch := first | assumption | omega) only [SA, SB, SC, SP, SQ, SZ, reduceIte, reduceCtorEq, Nat.reduceAdd, Nat.reduceEqDiff, beq_self_eq_true, decide_true, decide_false, Int.reduceBEq, Int.reduceLT, Int.reduceLE, S_eta, S_row, *]
  rw [findX 1 xs (fun x => !inR x 0 400) (fun i => [i64 i])]
  · cases h : xs.any (fun x => !inR x 0 400)
    · have e : ixF (fun x => !inR x 0 400) xs = -1 := by
        have h2 := ixF_any (fun x => !inR x 0 400) xs
        rw [h] at h2
        unfold ixF at h2 ⊢
        split at h2 <;> simp_all
      rw [e]; simp (maxSteps := 2000000) (disch := first | assumption | omega) only [SA, SB, SC, SP, SQ, SZ, reduceIte, reduceCtorEq, Nat.reduceAdd, Nat.reduceEqDiff, beq_self_eq_true, decide_true, decide_false, Int.reduceBEq, Int.reduceLT, Int.reduceLE, S_eta]
    · simp (maxSteps := 2000000) (disch := first | assumption | omega) only [SA, SB, SC, SP, SQ, SZ, reduceIte, reduceCtorEq, Nat.reduceAdd, Nat.reduceEqDiff, beq_self_eq_true, decide_true, decide_false, Int.reduceBEq, Int.reduceLT, Int.reduceLE, S_eta]
  · intro i hi hb hl hp
    simp (maxSteps := 2000000) (disch := first | assumption | omega) only [SA, SB, SC, SP, SQ, SZ, reduceIte, reduceCtorEq, Nat.reduceAdd, Nat.reduceEqDiff, beq_self_eq_true, decide_true, decide_false, Int.reduceBEq, Int.reduceLT, Int.reduceLE, S_eta, S_row, impl_GoodSums_1, *] <;> repeat' (refine fork_eq (fun _ => ?_) (fun _ => ?_) <;> try simp (maxSteps := 2000000) (disch := first | assumption | omega) only [SA, SB, SC, SP, SQ, SZ, reduceIte, reduceCtorEq, Nat.reduceAdd, Nat.reduceEqDiff, beq_self_eq_true, decide_true, decide_false, Int.reduceBEq, Int.reduceLT, Int.reduceLE, S_eta, S_row, impl_GoodSums_1, *])
  · intro i hi hb hl hp
    simp (maxSteps := 2000000) (disch := first | assumption | omega) only [SA, SB, SC, SP, SQ, SZ, reduceIte, reduceCtorEq, Nat.reduceAdd, Nat.reduceEqDiff, beq_self_eq_true, decide_true, decide_false, Int.reduceBEq, Int.reduceLT, Int.reduceLE, S_eta, S_row, impl_GoodSums_1, *] <;> repeat' (refine fork_eq (fun _ => ?_) (fun _ => ?_) <;> try simp (maxSteps := 2000000) (disch := first | assumption | omega) only [SA, SB, SC, SP, SQ, SZ, reduceIte, reduceCtorEq, Nat.reduceAdd, Nat.reduceEqDiff, beq_self_eq_true, decide_true, decide_false, Int.reduceBEq, Int.reduceLT, Int.reduceLE, S_eta, S_row, impl_GoodSums_1, *])
  · intro hl
    simp (maxSteps := 2000000) (disch := first | assumption | omega) only [SA, SB, SC, SP, SQ, SZ, reduceIte, reduceCtorEq, Nat.reduceAdd, Nat.reduceEqDiff, beq_self_eq_true, decide_true, decide_false, Int.reduceBEq, Int.reduceLT, Int.reduceLE, S_eta, *] <;> repeat' (refine fork_eq (fun _ => ?_) (fun _ => ?_) <;> try simp (maxSteps := 2000000) (disch := first | assumption | omega) only [SA, SB, SC, SP, SQ, SZ, reduceIte, reduceCtorEq, Nat.reduceAdd, Nat.reduceEqDiff, beq_self_eq_true, decide_true, decide_false, Int.reduceBEq, Int.reduceLT, Int.reduceLE, S_eta, *])
theorem ct_GoodSums_1  (xs : List Int) (hx : xs.length ≤ 1099511627776) : Fun T 27 [rL xs] = some [.bool (xs.any (fun x => !inR x 0 400))] := by
  rw [Fun_k (t := tm27) rfl]; unfold tm27
  simp (maxSteps := 2000000) (disch := first | assumption | omega) only [SA, SB, SC, SP, SQ, SZ, reduceIte, reduceCtorEq, Nat.reduceAdd, Nat.reduceEqDiff, beq_self_eq_true, decide_true, decide_false, Int.reduceBEq, Int.reduceLT, Int.reduceLE, S_eta, ix_GoodSums_1, ixF_any, *] <;> repeat' (refine fork_eq (fun _ => ?_) (fun _ => ?_) <;> try simp (maxSteps := 2000000) (disch := first | assumption | omega) only [SA, SB, SC, SP, SQ, SZ, reduceIte, reduceCtorEq, Nat.reduceAdd, Nat.reduceEqDiff, beq_self_eq_true, decide_true, decide_false, Int.reduceBEq, Int.reduceLT, Int.reduceLE, S_eta, ix_GoodSums_1, ixF_any, *])
theorem impl_total (xs : List Int) (hx : xs.length ≤ 1099511627776) (hq : ∀ x ∈ xs, 0 ≤ x ∧ x ≤ 400) : Fun T 31 [rL xs] = some [i64 (isum xs)] := by
  rw [Fun_k (t := tm31) rfl]; unfold tm31; unfold isum
  simp (maxSteps := 2000000) (disch := first | assumption | omega) only [SA, SB, SC, SP, SQ, SZ, reduceIte, reduceCtorEq, Nat.reduceAdd, Nat.reduceEqDiff, beq_self_eq_true, decide_true, decide_false, Int.reduceBEq, Int.reduceLT, Int.reduceLE, S_eta, *]
  rw [(foldS 1 xs (fun i (s : Int) => [i64 s, i64 i]) 0 (fun s x => s + x) (fun i s => 0 ≤ s ∧ s ≤ 400 * (i : Int)) (fun s => [i64 s]) rfl (by omega) ?_ ?_).1]
  · simp (maxSteps := 2000000) (disch := first | assumption | omega) only [SA, SB, SC, SP, SQ, SZ, reduceIte, reduceCtorEq, Nat.reduceAdd, Nat.reduceEqDiff, beq_self_eq_true, decide_true, decide_false, Int.reduceBEq, Int.reduceLT, Int.reduceLE, S_eta, *] <;> repeat' (refine fork_eq (fun _ => ?_) (fun _ => ?_) <;> try simp (maxSteps := 2000000) (disch := first | assumption | omega) only [SA, SB, SC, SP, SQ, SZ, reduceIte, reduceCtorEq, Nat.reduceAdd, Nat.reduceEqDiff, beq_self_eq_true, decide_true, decide_false, Int.reduceBEq, Int.reduceLT, Int.reduceLE, S_eta, *])
  · intro i s hi hb hl hv
    have := hq _ (at_mem hi)
    exact ⟨by simp (maxSteps := 2000000) (disch := first | assumption | omega) only [SA, SB, SC, SP, SQ, SZ, reduceIte, reduceCtorEq, Nat.reduceAdd, Nat.reduceEqDiff, beq_self_eq_true, decide_true, decide_false, Int.reduceBEq, Int.reduceLT, Int.reduceLE, S_eta, S_row, *] <;> repeat' (refine fork_eq (fun _ => ?_) (fun _ => ?_) <;> try simp (maxSteps := 2000000) (disch := first | assumption | omega) only [SA, SB, SC, SP, SQ, SZ, reduceIte, reduceCtorEq, Nat.reduceAdd, Nat.reduceEqDiff, beq_self_eq_true, decide_true, decide_false, Int.reduceBEq, Int.reduceLT, Int.reduceLE, S_eta, S_row, *]), by omega, by omega⟩
  · intro s hl hv
    simp (maxSteps := 2000000) (disch := first | assumption | omega) only [SA, SB, SC, SP, SQ, SZ, reduceIte, reduceCtorEq, Nat.reduceAdd, Nat.reduceEqDiff, beq_self_eq_true, decide_true, decide_false, Int.reduceBEq, Int.reduceLT, Int.reduceLE, S_eta, *] <;> repeat' (refine fork_eq (fun _ => ?_) (fun _ => ?_) <;> try simp (maxSteps := 2000000) (disch := first | assumption | omega) only [SA, SB, SC, SP, SQ, SZ, reduceIte, reduceCtorEq, Nat.reduceAdd, Nat.reduceEqDiff, beq_self_eq_true, decide_true, decide_false, Int.reduceBEq, Int.reduceLT, Int.reduceLE, S_eta, *])
theorem impl_GoodSums (xs : List Int) (hx : xs.length ≤ 1099511627776) : Fun T 26 [rL xs] = some [.bool (sumsOk xs)] := by
  rw [Fun_k (t := tm26) rfl]; unfold tm26; unfold sumsOk
  have e : xs.any (fun x => !inR x 0 400) = !xs.all fun x => inR x 0 400 := by rw [List.not_all_eq_any_not]
  cases h : xs.all fun x => inR x 0 400
  · simp (maxSteps := 2000000) (disch := first | assumption | omega) only [SA, SB, SC, SP, SQ, SZ, reduceIte, reduceCtorEq, Nat.reduceAdd, Nat.reduceEqDiff, beq_self_eq_true, decide_true, decide_false, Int.reduceBEq, Int.reduceLT, Int.reduceLE, S_eta, ct_GoodSums_1, e, Bool.not_not, *] <;> repeat' (refine fork_eq (fun _ => ?_) (fun _ => ?_) <;> try simp (maxSteps := 2000000) (disch := first | assumption | omega) only [SA, SB, SC, SP, SQ, SZ, reduceIte, reduceCtorEq, Nat.reduceAdd, Nat.reduceEqDiff, beq_self_eq_true, decide_true, decide_false, Int.reduceBEq, Int.reduceLT, Int.reduceLE, S_eta, ct_GoodSums_1, e, Bool.not_not, *])
  · have hq : ∀ x ∈ xs, 0 ≤ x ∧ x ≤ 400 := fun x hx => inR_rng (List.all_eq_true.1 h x hx)
    simp (maxSteps := 2000000) (disch := first | assumption | omega) only [SA, SB, SC, SP, SQ, SZ, reduceIte, reduceCtorEq, Nat.reduceAdd, Nat.reduceEqDiff, beq_self_eq_true, decide_true, decide_false, Int.reduceBEq, Int.reduceLT, Int.reduceLE, S_eta, ct_GoodSums_1, e, Bool.not_not, impl_total, *] <;> repeat' (refine fork_eq (fun _ => ?_) (fun _ => ?_) <;> try simp (maxSteps := 2000000) (disch := first | assumption | omega) only [SA, SB, SC, SP, SQ, SZ, reduceIte, reduceCtorEq, Nat.reduceAdd, Nat.reduceEqDiff, beq_self_eq_true, decide_true, decide_false, Int.reduceBEq, Int.reduceLT, Int.reduceLE, S_eta, ct_GoodSums_1, e, Bool.not_not, impl_total, *])
theorem spec_GoodClerk (sums last : List Int) (told : List TTold) (h1 : sums.length ≤ 1099511627776) (h2 : last.length ≤ 1099511627776) (h3 : told.length ≤ 1099511627776) : Fun T 11 [rL sums, rL last, rL told] = some [.bool (clerkOk ⟨sums, last, told⟩)] := by
  rw [Fun_k (t := tm11) rfl]; unfold tm11; unfold clerkOk
  cases hs : sumsOk sums
  · simp (maxSteps := 2000000) (disch := first | assumption | omega) only [SA, SB, SC, SP, SQ, SZ, reduceIte, reduceCtorEq, Nat.reduceAdd, Nat.reduceEqDiff, beq_self_eq_true, decide_true, decide_false, Int.reduceBEq, Int.reduceLT, Int.reduceLE, S_eta, spec_GoodSums, *] <;> repeat' (refine fork_eq (fun _ => ?_) (fun _ => ?_) <;> try simp (maxSteps := 2000000) (disch := first | assumption | omega) only [SA, SB, SC, SP, SQ, SZ, reduceIte, reduceCtorEq, Nat.reduceAdd, Nat.reduceEqDiff, beq_self_eq_true, decide_true, decide_false, Int.reduceBEq, Int.reduceLT, Int.reduceLE, S_eta, spec_GoodSums, *])
  cases hl : (last.length : Int) == 4
  · simp (maxSteps := 2000000) (disch := first | assumption | omega) only [SA, SB, SC, SP, SQ, SZ, reduceIte, reduceCtorEq, Nat.reduceAdd, Nat.reduceEqDiff, beq_self_eq_true, decide_true, decide_false, Int.reduceBEq, Int.reduceLT, Int.reduceLE, S_eta, spec_GoodSums, *] <;> repeat' (refine fork_eq (fun _ => ?_) (fun _ => ?_) <;> try simp (maxSteps := 2000000) (disch := first | assumption | omega) only [SA, SB, SC, SP, SQ, SZ, reduceIte, reduceCtorEq, Nat.reduceAdd, Nat.reduceEqDiff, beq_self_eq_true, decide_true, decide_false, Int.reduceBEq, Int.reduceLT, Int.reduceLE, S_eta, spec_GoodSums, *])
  cases ht : (told.length : Int) == 4
  · simp (maxSteps := 2000000) (disch := first | assumption | omega) only [SA, SB, SC, SP, SQ, SZ, reduceIte, reduceCtorEq, Nat.reduceAdd, Nat.reduceEqDiff, beq_self_eq_true, decide_true, decide_false, Int.reduceBEq, Int.reduceLT, Int.reduceLE, S_eta, spec_GoodSums, *] <;> repeat' (refine fork_eq (fun _ => ?_) (fun _ => ?_) <;> try simp (maxSteps := 2000000) (disch := first | assumption | omega) only [SA, SB, SC, SP, SQ, SZ, reduceIte, reduceCtorEq, Nat.reduceAdd, Nat.reduceEqDiff, beq_self_eq_true, decide_true, decide_false, Int.reduceBEq, Int.reduceLT, Int.reduceLE, S_eta, spec_GoodSums, *])
  cases ha : last.all fun x => inR x 0 999
  · simp (maxSteps := 2000000) (disch := first | assumption | omega) only [SA, SB, SC, SP, SQ, SZ, reduceIte, reduceCtorEq, Nat.reduceAdd, Nat.reduceEqDiff, beq_self_eq_true, decide_true, decide_false, Int.reduceBEq, Int.reduceLT, Int.reduceLE, S_eta, spec_GoodSums, spec_l1All, *] <;> repeat' (refine fork_eq (fun _ => ?_) (fun _ => ?_) <;> try simp (maxSteps := 2000000) (disch := first | assumption | omega) only [SA, SB, SC, SP, SQ, SZ, reduceIte, reduceCtorEq, Nat.reduceAdd, Nat.reduceEqDiff, beq_self_eq_true, decide_true, decide_false, Int.reduceBEq, Int.reduceLT, Int.reduceLE, S_eta, spec_GoodSums, spec_l1All, *])
  have hl' : (last.length : Int) = 4 := by simpa using hl
  have ht' : (told.length : Int) = 4 := by simpa using ht
  simp (disch := first | assumption | omega) only [SA, SB, SC, SP, SQ, SZ, reduceIte, reduceCtorEq, Nat.reduceAdd, Nat.reduceEqDiff, spec_GoodSums, spec_l1All, hs, hl, ht, ha]
  rw [scanF 1 told.length (clerkAt last told) [.bool false]]
  · simp (maxSteps := 2000000) (disch := first | assumption | omega) only [SA, SB, SC, SP, SQ, SZ, reduceIte, reduceCtorEq, Nat.reduceAdd, Nat.reduceEqDiff, beq_self_eq_true, decide_true, decide_false, Int.reduceBEq, Int.reduceLT, Int.reduceLE, S_eta, *] <;> repeat' (refine fork_eq (fun _ => ?_) (fun _ => ?_) <;> try simp (maxSteps := 2000000) (disch := first | assumption | omega) only [SA, SB, SC, SP, SQ, SZ, reduceIte, reduceCtorEq, Nat.reduceAdd, Nat.reduceEqDiff, beq_self_eq_true, decide_true, decide_false, Int.reduceBEq, Int.reduceLT, Int.reduceLE, S_eta, *])
  · intro i hi hlt
    have hb : InB told (i : Int) := InB_nat.2 hi
    have hb2 : InB last (i : Int) := InB_nat.2 (by omega)
    unfold clerkAt
    simp (disch := first | assumption | omega) only [SA, SB, SC, SP, SQ, SZ, reduceIte, reduceCtorEq, Nat.reduceAdd, Nat.reduceEqDiff, S_row, S_eta, spec_l15Told, hlt, hb, hb2] <;> repeat' (refine fork_eq (fun _ => ?_) (fun _ => ?_) <;> try simp (maxSteps := 2000000) (disch := first | assumption | omega) only [SA, SB, SC, SP, SQ, SZ, reduceIte, reduceCtorEq, Nat.reduceAdd, Nat.reduceEqDiff, beq_self_eq_true, decide_true, decide_false, Int.reduceBEq, Int.reduceLT, Int.reduceLE, S_eta, S_row, spec_l15Told, *])
  · intro hlt
    clear hl' ht'
    simp (maxSteps := 2000000) (disch := first | assumption | omega) only [SA, SB, SC, SP, SQ, SZ, reduceIte, reduceCtorEq, Nat.reduceAdd, Nat.reduceEqDiff, beq_self_eq_true, decide_true, decide_false, Int.reduceBEq, Int.reduceLT, Int.reduceLE, S_eta, *] <;> repeat' (refine fork_eq (fun _ => ?_) (fun _ => ?_) <;> try simp (maxSteps := 2000000) (disch := first | assumption | omega) only [SA, SB, SC, SP, SQ, SZ, reduceIte, reduceCtorEq, Nat.reduceAdd, Nat.reduceEqDiff, beq_self_eq_true, decide_true, decide_false, Int.reduceBEq, Int.reduceLT, Int.reduceLE, S_eta, *])
theorem impl_GoodClerk (sums last : List Int) (told : List TTold) (h1 : sums.length ≤ 1099511627776) (h2 : last.length ≤ 1099511627776) (h3 : told.length ≤ 1099511627776) : Fun T 25 [rL sums, rL last, rL told] = some [.bool (clerkOk ⟨sums, last, told⟩)] := by
  rw [Fun_k (t := tm25) rfl]; unfold tm25; unfold clerkOk
  cases hs : sumsOk sums
  · simp (maxSteps := 2000000) (disch := first | assumption | omega) only [SA, SB, SC, SP, SQ, SZ, reduceIte, reduceCtorEq, Nat.reduceAdd, Nat.reduceEqDiff, beq_self_eq_true, decide_true, decide_false, Int.reduceBEq, Int.reduceLT, Int.reduceLE, S_eta, impl_GoodSums, *] <;> repeat' (refine fork_eq (fun _ => ?_) (fun _ => ?_) <;> try simp (maxSteps := 2000000) (disch := first | assumption | omega) only [SA, SB, SC, SP, SQ, SZ, reduceIte, reduceCtorEq, Nat.reduceAdd, Nat.reduceEqDiff, beq_self_eq_true, decide_true, decide_false, Int.reduceBEq, Int.reduceLT, Int.reduceLE, S_eta, impl_GoodSums, *])
  cases hl : (last.length : Int) == 4
  · simp (maxSteps := 2000000) (disch := first | assumption | omega) only [SA, SB, SC, SP, SQ, SZ, reduceIte, reduceCtorEq, Nat.reduceAdd, Nat.reduceEqDiff, beq_self_eq_true, decide_true, decide_false, Int.reduceBEq, Int.reduceLT, Int.reduceLE, S_eta, impl_GoodSums, *] <;> repeat' (refine fork_eq (fun _ => ?_) (fun _ => ?_) <;> try simp (maxSteps := 2000000) (disch := first | assumption | omega) only [SA, SB, SC, SP, SQ, SZ, reduceIte, reduceCtorEq, Nat.reduceAdd, Nat.reduceEqDiff, beq_self_eq_true, decide_true, decide_false, Int.reduceBEq, Int.reduceLT, Int.reduceLE, S_eta, impl_GoodSums, *])
  cases ht : (told.length : Int) == 4
  · simp (maxSteps := 2000000) (disch := first | assumption | omega) only [SA, SB, SC, SP, SQ, SZ, reduceIte, reduceCtorEq, Nat.reduceAdd, Nat.reduceEqDiff, beq_self_eq_true, decide_true, decide_false, Int.reduceBEq, Int.reduceLT, Int.reduceLE, S_eta, impl_GoodSums, *] <;> repeat' (refine fork_eq (fun _ => ?_) (fun _ => ?_) <;> try simp (maxSteps := 2000000) (disch := first | assumption | omega) only [SA, SB, SC, SP, SQ, SZ, reduceIte, reduceCtorEq, Nat.reduceAdd, Nat.reduceEqDiff, beq_self_eq_true, decide_true, decide_false, Int.reduceBEq, Int.reduceLT, Int.reduceLE, S_eta, impl_GoodSums, *])
  have hl' : (last.length : Int) = 4 := by simpa using hl
  have ht' : (told.length : Int) = 4 := by simpa using ht
  simp (disch := first | assumption | omega) only [SA, SB, SC, SP, SQ, SZ, reduceIte, reduceCtorEq, Nat.reduceAdd, Nat.reduceEqDiff, impl_GoodSums, hs, hl, ht]
  rw [scanF 1 last.length (fun i => inR (atI last (i : Int)) 0 999 && clerkAt last told i) [.bool false], allB_and, allB_all last (fun x => inR x 0 999)]
  · have e : last.length = told.length := by omega
    rw [e]
    cases last.all fun x => inR x 0 999 <;> cases allB (clerkAt last told) told.length <;> simp (maxSteps := 2000000) (disch := first | assumption | omega) only [SA, SB, SC, SP, SQ, SZ, reduceIte, reduceCtorEq, Nat.reduceAdd, Nat.reduceEqDiff, beq_self_eq_true, decide_true, decide_false, Int.reduceBEq, Int.reduceLT, Int.reduceLE, S_eta, *]
  · intro i hi hlt
    have hb : InB last (i : Int) := InB_nat.2 hi
    have hb2 : InB told (i : Int) := InB_nat.2 (by omega)
    unfold clerkAt
    simp (disch := first | assumption | omega) only [SA, SB, SC, SP, SQ, SZ, reduceIte, reduceCtorEq, Nat.reduceAdd, Nat.reduceEqDiff, S_row, S_eta, impl_within, impl_goodTold, hlt, hb, hb2] <;> repeat' (refine fork_eq (fun _ => ?_) (fun _ => ?_) <;> try simp (maxSteps := 2000000) (disch := first | assumption | omega) only [SA, SB, SC, SP, SQ, SZ, reduceIte, reduceCtorEq, Nat.reduceAdd, Nat.reduceEqDiff, beq_self_eq_true, decide_true, decide_false, Int.reduceBEq, Int.reduceLT, Int.reduceLE, S_eta, S_row, impl_within, impl_goodTold, *])
  · intro hlt
    clear hl' ht'
    simp (maxSteps := 2000000) (disch := first | assumption | omega) only [SA, SB, SC, SP, SQ, SZ, reduceIte, reduceCtorEq, Nat.reduceAdd, Nat.reduceEqDiff, beq_self_eq_true, decide_true, decide_false, Int.reduceBEq, Int.reduceLT, Int.reduceLE, S_eta, *] <;> repeat' (refine fork_eq (fun _ => ?_) (fun _ => ?_) <;> try simp (maxSteps := 2000000) (disch := first | assumption | omega) only [SA, SB, SC, SP, SQ, SZ, reduceIte, reduceCtorEq, Nat.reduceAdd, Nat.reduceEqDiff, beq_self_eq_true, decide_true, decide_false, Int.reduceBEq, Int.reduceLT, Int.reduceLE, S_eta, *])
theorem spec_l15Ask (a_client a_no a_cmd_kind a_cmd_id a_cmd_src a_cmd_dst a_cmd_amt : Int) : Fun T 16 [i64 a_client, i64 a_no, i64 a_cmd_kind, i64 a_cmd_id, i64 a_cmd_src, i64 a_cmd_dst, i64 a_cmd_amt] = some [.bool (askOk ⟨a_client, a_no, ⟨a_cmd_kind, a_cmd_id, a_cmd_src, a_cmd_dst, a_cmd_amt⟩⟩)] := by
  rw [Fun_k (t := tm16) rfl]; unfold tm16; unfold askOk
  simp (maxSteps := 2000000) (disch := first | assumption | omega) only [SA, SB, SC, SP, SQ, SZ, reduceIte, reduceCtorEq, Nat.reduceAdd, Nat.reduceEqDiff, beq_self_eq_true, decide_true, decide_false, Int.reduceBEq, Int.reduceLT, Int.reduceLE, S_eta, spec_l1In, spec_GoodCmd, *] <;> repeat' (refine fork_eq (fun _ => ?_) (fun _ => ?_) <;> try simp (maxSteps := 2000000) (disch := first | assumption | omega) only [SA, SB, SC, SP, SQ, SZ, reduceIte, reduceCtorEq, Nat.reduceAdd, Nat.reduceEqDiff, beq_self_eq_true, decide_true, decide_false, Int.reduceBEq, Int.reduceLT, Int.reduceLE, S_eta, spec_l1In, spec_GoodCmd, *])
theorem impl_goodAsk (a_client a_no a_cmd_kind a_cmd_id a_cmd_src a_cmd_dst a_cmd_amt : Int) : Fun T 33 [i64 a_client, i64 a_no, i64 a_cmd_kind, i64 a_cmd_id, i64 a_cmd_src, i64 a_cmd_dst, i64 a_cmd_amt] = some [.bool (askOk ⟨a_client, a_no, ⟨a_cmd_kind, a_cmd_id, a_cmd_src, a_cmd_dst, a_cmd_amt⟩⟩)] := by
  rw [Fun_k (t := tm33) rfl]; unfold tm33; unfold askOk
  simp (maxSteps := 2000000) (disch := first | assumption | omega) only [SA, SB, SC, SP, SQ, SZ, reduceIte, reduceCtorEq, Nat.reduceAdd, Nat.reduceEqDiff, beq_self_eq_true, decide_true, decide_false, Int.reduceBEq, Int.reduceLT, Int.reduceLE, S_eta, impl_within, impl_GoodCmd, *] <;> repeat' (refine fork_eq (fun _ => ?_) (fun _ => ?_) <;> try simp (maxSteps := 2000000) (disch := first | assumption | omega) only [SA, SB, SC, SP, SQ, SZ, reduceIte, reduceCtorEq, Nat.reduceAdd, Nat.reduceEqDiff, beq_self_eq_true, decide_true, decide_false, Int.reduceBEq, Int.reduceLT, Int.reduceLE, S_eta, impl_within, impl_GoodCmd, *])
theorem slices_Clone_Told (xs : List TTold) (hx : xs.length ≤ 10000000000) : Fun T 38 [rL xs] = some [rL xs] := by
  rw [Fun_ext (e := ex38) rfl]
  cases xs with
  | nil => rfl
  | cons x xs =>
    show Fun (entTab [(38, .tm tm38)]) 38 [rL (x :: xs)] = _
    rw [Fun_k (t := tm38) rfl]
    unfold tm38
    have hx' : (x :: xs).length ≤ 100000000000 := by omega
    have h0 : (Prim.mk 2 0).run [] = some [.rows 2 []] := rfl
    have h1 : (x :: xs).isEmpty = false := rfl
    simp (disch := first | assumption | omega) only [SA, SB, SC, SP, SQ, SZ, reduceIte, reduceCtorEq, Nat.reduceAdd, Nat.reduceEqDiff, rL_ne, rL_emp, h0, h1, S_app]
theorem impl_Clerk_copied (sums last : List Int) (told : List TTold) (h1 : sums.length ≤ 10000000000) (h2 : last.length ≤ 10000000000) (h3 : told.length ≤ 10000000000) : Fun T 36 [rL sums, rL last, rL told] = some [rL sums, rL last, rL told] := by
  rw [Fun_k (t := tm36) rfl]; unfold tm36
  simp (maxSteps := 2000000) (disch := first | assumption | omega) only [SA, SB, SC, SP, SQ, SZ, reduceIte, reduceCtorEq, Nat.reduceAdd, Nat.reduceEqDiff, beq_self_eq_true, decide_true, decide_false, Int.reduceBEq, Int.reduceLT, Int.reduceLE, S_eta, slices_Clone_int, slices_Clone_Told, *] <;> repeat' (refine fork_eq (fun _ => ?_) (fun _ => ?_) <;> try simp (maxSteps := 2000000) (disch := first | assumption | omega) only [SA, SB, SC, SP, SQ, SZ, reduceIte, reduceCtorEq, Nat.reduceAdd, Nat.reduceEqDiff, beq_self_eq_true, decide_true, decide_false, Int.reduceBEq, Int.reduceLT, Int.reduceLE, S_eta, slices_Clone_int, slices_Clone_Told, *])
theorem spec_l15Own (sums last : List Int) (told : List TTold) (h1 : sums.length ≤ 10000000000) (h2 : last.length ≤ 10000000000) (h3 : told.length ≤ 10000000000) : Fun T 21 [rL sums, rL last, rL told] = some [rL sums, rL last, rL told] := by
  rw [Fun_k (t := tm21) rfl]; unfold tm21
  have h0 : (Prim.mk 2 0).run [] = some [.rows 2 []] := rfl
  simp (maxSteps := 2000000) (disch := first | assumption | omega) only [SA, SB, SC, SP, SQ, SZ, reduceIte, reduceCtorEq, Nat.reduceAdd, Nat.reduceEqDiff, beq_self_eq_true, decide_true, decide_false, Int.reduceBEq, Int.reduceLT, Int.reduceLE, S_eta, spec_l1Own, h0, S_app, *] <;> repeat' (refine fork_eq (fun _ => ?_) (fun _ => ?_) <;> try simp (maxSteps := 2000000) (disch := first | assumption | omega) only [SA, SB, SC, SP, SQ, SZ, reduceIte, reduceCtorEq, Nat.reduceAdd, Nat.reduceEqDiff, beq_self_eq_true, decide_true, decide_false, Int.reduceBEq, Int.reduceLT, Int.reduceLE, S_eta, spec_l1Own, h0, S_app, *])
theorem spec_l11Apply (s : List Int) (k i f t a : Int) (hc : cmdOk ⟨k, i, f, t, a⟩ = true) (hl : (s.length : Int) = 4) (hq : ∀ x ∈ s, 0 ≤ x ∧ x ≤ 100000000) : Fun T 23 [rL s, i64 k, i64 i, i64 f, i64 t, i64 a] = some [rL (applyM s ⟨k, i, f, t, a⟩).1, i64 (applyM s ⟨k, i, f, t, a⟩).2.code, i64 (applyM s ⟨k, i, f, t, a⟩).2.sum] := by
  rw [Fun_k (t := tm23) rfl]; unfold tm23; unfold applyM
  obtain ⟨hk, hm, hr⟩ := cmdOk_acc hc
  simp only at hk hm hr
  have hl' : s.length ≤ 10000000000 := by omega
  rcases hk with rfl | rfl | rfl
  · simp (maxSteps := 2000000) (disch := first | assumption | omega) only [SA, SB, SC, SP, SQ, SZ, reduceIte, reduceCtorEq, Nat.reduceAdd, Nat.reduceEqDiff, beq_self_eq_true, decide_true, decide_false, Int.reduceBEq, Int.reduceLT, Int.reduceLE, S_eta, spec_l1Own, *] <;> repeat' (refine fork_eq (fun _ => ?_) (fun _ => ?_) <;> try simp (maxSteps := 2000000) (disch := first | assumption | omega) only [SA, SB, SC, SP, SQ, SZ, reduceIte, reduceCtorEq, Nat.reduceAdd, Nat.reduceEqDiff, beq_self_eq_true, decide_true, decide_false, Int.reduceBEq, Int.reduceLT, Int.reduceLE, S_eta, spec_l1Own, *])
  · obtain ⟨⟨f1, f2⟩, ⟨t1, t2⟩, hne, a1, a2⟩ := hm rfl
    have hbf : InB s f := by unfold InB; omega
    have hbt : InB s t := by unfold InB; omega
    have hqf := hq _ (at_memI hbf)
    have hbt2 : InB (setI s f (atI s f - a)) t := by unfold InB; rw [setI_len]; omega
    by_cases hlt : atI s f < a
    · simp (maxSteps := 2000000) (disch := first | assumption | omega) only [SA, SB, SC, SP, SQ, SZ, reduceIte, reduceCtorEq, Nat.reduceAdd, Nat.reduceEqDiff, beq_self_eq_true, decide_true, decide_false, Int.reduceBEq, Int.reduceLT, Int.reduceLE, S_eta, spec_l1Own, S_row, *] <;> repeat' (refine fork_eq (fun _ => ?_) (fun _ => ?_) <;> try simp (maxSteps := 2000000) (disch := first | assumption | omega) only [SA, SB, SC, SP, SQ, SZ, reduceIte, reduceCtorEq, Nat.reduceAdd, Nat.reduceEqDiff, beq_self_eq_true, decide_true, decide_false, Int.reduceBEq, Int.reduceLT, Int.reduceLE, S_eta, spec_l1Own, S_row, *])
    · have e : atI (setI s f (atI s f - a)) t = atI s t := atI_ne f1 t1 hne
      have hqt := hq _ (at_memI hbt)
      simp (maxSteps := 2000000) (disch := first | assumption | omega | (simp only [S_upd]; assumption)) only [SA, SB, SC, SP, SQ, SZ, reduceIte, reduceCtorEq, Nat.reduceAdd, Nat.reduceEqDiff, beq_self_eq_true, decide_true, decide_false, Int.reduceBEq, Int.reduceLT, Int.reduceLE, S_eta, spec_l1Own, S_row, S_set, S_upd, *] <;> repeat' (refine fork_eq (fun _ => ?_) (fun _ => ?_) <;> try simp (maxSteps := 2000000) (disch := first | assumption | omega | (simp only [S_upd]; assumption)) only [SA, SB, SC, SP, SQ, SZ, reduceIte, reduceCtorEq, Nat.reduceAdd, Nat.reduceEqDiff, beq_self_eq_true, decide_true, decide_false, Int.reduceBEq, Int.reduceLT, Int.reduceLE, S_eta, spec_l1Own, S_row, S_set, S_upd, *])
  · obtain ⟨f1, f2⟩ := hr rfl
    have hbf : InB s f := by unfold InB; omega
    simp (maxSteps := 2000000) (disch := first | assumption | omega) only [SA, SB, SC, SP, SQ, SZ, reduceIte, reduceCtorEq, Nat.reduceAdd, Nat.reduceEqDiff, beq_self_eq_true, decide_true, decide_false, Int.reduceBEq, Int.reduceLT, Int.reduceLE, S_eta, spec_l1Own, S_row, *] <;> repeat' (refine fork_eq (fun _ => ?_) (fun _ => ?_) <;> try simp (maxSteps := 2000000) (disch := first | assumption | omega) only [SA, SB, SC, SP, SQ, SZ, reduceIte, reduceCtorEq, Nat.reduceAdd, Nat.reduceEqDiff, beq_self_eq_true, decide_true, decide_false, Int.reduceBEq, Int.reduceLT, Int.reduceLE, S_eta, spec_l1Own, S_row, *])
theorem impl_apply (s : List Int) (k i f t a : Int) (hc : cmdOk ⟨k, i, f, t, a⟩ = true) (hl : (s.length : Int) = 4) (hq : ∀ x ∈ s, 0 ≤ x ∧ x ≤ 100000000) : Fun T 40 [rL s, i64 k, i64 i, i64 f, i64 t, i64 a] = some [i64 (applyM s ⟨k, i, f, t, a⟩).2.code, i64 (applyM s ⟨k, i, f, t, a⟩).2.sum, rL (applyM s ⟨k, i, f, t, a⟩).1] := by
  rw [Fun_k (t := tm40) rfl]; unfold tm40; unfold applyM
  obtain ⟨hk, hm, hr⟩ := cmdOk_acc hc
  simp only at hk hm hr
  rcases hk with rfl | rfl | rfl
  · simp (maxSteps := 2000000) (disch := first | assumption | omega) only [SA, SB, SC, SP, SQ, SZ, reduceIte, reduceCtorEq, Nat.reduceAdd, Nat.reduceEqDiff, beq_self_eq_true, decide_true, decide_false, Int.reduceBEq, Int.reduceLT, Int.reduceLE, S_eta, *] <;> repeat' (refine fork_eq (fun _ => ?_) (fun _ => ?_) <;> try simp (maxSteps := 2000000) (disch := first | assumption | omega) only [SA, SB, SC, SP, SQ, SZ, reduceIte, reduceCtorEq, Nat.reduceAdd, Nat.reduceEqDiff, beq_self_eq_true, decide_true, decide_false, Int.reduceBEq, Int.reduceLT, Int.reduceLE, S_eta, *])
  · obtain ⟨⟨f1, f2⟩, ⟨t1, t2⟩, hne, a1, a2⟩ := hm rfl
    have hbf : InB s f := by unfold InB; omega
    have hbt : InB s t := by unfold InB; omega
    have hqf := hq _ (at_memI hbf)
    by_cases hlt : atI s f < a
    · simp (maxSteps := 2000000) (disch := first | assumption | omega) only [SA, SB, SC, SP, SQ, SZ, reduceIte, reduceCtorEq, Nat.reduceAdd, Nat.reduceEqDiff, beq_self_eq_true, decide_true, decide_false, Int.reduceBEq, Int.reduceLT, Int.reduceLE, S_eta, S_row, *] <;> repeat' (refine fork_eq (fun _ => ?_) (fun _ => ?_) <;> try simp (maxSteps := 2000000) (disch := first | assumption | omega) only [SA, SB, SC, SP, SQ, SZ, reduceIte, reduceCtorEq, Nat.reduceAdd, Nat.reduceEqDiff, beq_self_eq_true, decide_true, decide_false, Int.reduceBEq, Int.reduceLT, Int.reduceLE, S_eta, S_row, *])
    · have e : atI (setI s f (atI s f - a)) t = atI s t := atI_ne f1 t1 hne
      have hqt := hq _ (at_memI hbt)
      simp (maxSteps := 2000000) (disch := first | assumption | omega | (simp only [S_upd]; assumption)) only [SA, SB, SC, SP, SQ, SZ, reduceIte, reduceCtorEq, Nat.reduceAdd, Nat.reduceEqDiff, beq_self_eq_true, decide_true, decide_false, Int.reduceBEq, Int.reduceLT, Int.reduceLE, S_eta, S_row, S_set, S_upd, *] <;> repeat' (refine fork_eq (fun _ => ?_) (fun _ => ?_) <;> try simp (maxSteps := 2000000) (disch := first | assumption | omega | (simp only [S_upd]; assumption)) only [SA, SB, SC, SP, SQ, SZ, reduceIte, reduceCtorEq, Nat.reduceAdd, Nat.reduceEqDiff, beq_self_eq_true, decide_true, decide_false, Int.reduceBEq, Int.reduceLT, Int.reduceLE, S_eta, S_row, S_set, S_upd, *])
  · obtain ⟨f1, f2⟩ := hr rfl
    have hbf : InB s f := by unfold InB; omega
    simp (maxSteps := 2000000) (disch := first | assumption | omega) only [SA, SB, SC, SP, SQ, SZ, reduceIte, reduceCtorEq, Nat.reduceAdd, Nat.reduceEqDiff, beq_self_eq_true, decide_true, decide_false, Int.reduceBEq, Int.reduceLT, Int.reduceLE, S_eta, S_row, *] <;> repeat' (refine fork_eq (fun _ => ?_) (fun _ => ?_) <;> try simp (maxSteps := 2000000) (disch := first | assumption | omega) only [SA, SB, SC, SP, SQ, SZ, reduceIte, reduceCtorEq, Nat.reduceAdd, Nat.reduceEqDiff, beq_self_eq_true, decide_true, decide_false, Int.reduceBEq, Int.reduceLT, Int.reduceLE, S_eta, S_row, *])
theorem spec_l15Serve (sums last : List Int) (told : List TTold) (a_client a_no a_cmd_kind a_cmd_id a_cmd_src a_cmd_dst a_cmd_amt : Int) (ha : askOk ⟨a_client, a_no, ⟨a_cmd_kind, a_cmd_id, a_cmd_src, a_cmd_dst, a_cmd_amt⟩⟩ = true) (h1 : (sums.length : Int) = 4) (h2 : (last.length : Int) = 4) (h3 : (told.length : Int) = 4) (hq : ∀ x ∈ sums, 0 ≤ x ∧ x ≤ 100000000) (hq2 : ∀ x ∈ last, 0 ≤ x ∧ x ≤ 999) :
    Fun T 20 [rL sums, rL last, rL told, i64 a_client, i64 a_no, i64 a_cmd_kind, i64 a_cmd_id, i64 a_cmd_src, i64 a_cmd_dst, i64 a_cmd_amt] = some [rL (serveM ⟨sums, last, told⟩ ⟨a_client, a_no, ⟨a_cmd_kind, a_cmd_id, a_cmd_src, a_cmd_dst, a_cmd_amt⟩⟩).1.sums, rL (serveM ⟨sums, last, told⟩ ⟨a_client, a_no, ⟨a_cmd_kind, a_cmd_id, a_cmd_src, a_cmd_dst, a_cmd_amt⟩⟩).1.last, rL (serveM ⟨sums, last, told⟩ ⟨a_client, a_no, ⟨a_cmd_kind, a_cmd_id, a_cmd_src, a_cmd_dst, a_cmd_amt⟩⟩).1.told, i64 (serveM ⟨sums, last, told⟩ ⟨a_client, a_no, ⟨a_cmd_kind, a_cmd_id, a_cmd_src, a_cmd_dst, a_cmd_amt⟩⟩).2.1.code, i64 (serveM ⟨sums, last, told⟩ ⟨a_client, a_no, ⟨a_cmd_kind, a_cmd_id, a_cmd_src, a_cmd_dst, a_cmd_amt⟩⟩).2.1.sum, i64 (serveM ⟨sums, last, told⟩ ⟨a_client, a_no, ⟨a_cmd_kind, a_cmd_id, a_cmd_src, a_cmd_dst, a_cmd_amt⟩⟩).2.2] := by
  rw [Fun_k (t := tm20) rfl]; unfold tm20; unfold serveM
  obtain ⟨⟨c1, c2⟩, ⟨n1, n2⟩, hc⟩ := askOk_spec ha
  simp only at c1 c2 n1 n2 hc
  have hb1 : InB last a_client := by unfold InB; omega
  have hb2 : InB told a_client := by unfold InB; omega
  have hql := hq2 _ (at_memI hb1)
  have l1 : sums.length ≤ 10000000000 := by omega
  have l2 : last.length ≤ 10000000000 := by omega
  have l3 : told.length ≤ 10000000000 := by omega
  simp (maxSteps := 2000000) (disch := first | assumption | omega | (simp only [S_upd]; assumption)) only [SA, SB, SC, SP, SQ, SZ, reduceIte, reduceCtorEq, Nat.reduceAdd, Nat.reduceEqDiff, beq_self_eq_true, decide_true, decide_false, Int.reduceBEq, Int.reduceLT, Int.reduceLE, S_eta, spec_l15Own, S_row, S_set, S_upd, spec_l11Apply, *] <;> repeat' (refine fork_eq (fun _ => ?_) (fun _ => ?_) <;> try simp (maxSteps := 2000000) (disch := first | assumption | omega | (simp only [S_upd]; assumption)) only [SA, SB, SC, SP, SQ, SZ, reduceIte, reduceCtorEq, Nat.reduceAdd, Nat.reduceEqDiff, beq_self_eq_true, decide_true, decide_false, Int.reduceBEq, Int.reduceLT, Int.reduceLE, S_eta, spec_l15Own, S_row, S_set, S_upd, spec_l11Apply, *])
theorem impl_Clerk_serve (sums last : List Int) (told : List TTold) (a_client a_no a_cmd_kind a_cmd_id a_cmd_src a_cmd_dst a_cmd_amt : Int) (ha : askOk ⟨a_client, a_no, ⟨a_cmd_kind, a_cmd_id, a_cmd_src, a_cmd_dst, a_cmd_amt⟩⟩ = true) (h1 : (sums.length : Int) = 4) (h2 : (last.length : Int) = 4) (h3 : (told.length : Int) = 4) (hq : ∀ x ∈ sums, 0 ≤ x ∧ x ≤ 100000000) (hq2 : ∀ x ∈ last, 0 ≤ x ∧ x ≤ 999) :
    Fun T 39 [i64 a_client, i64 a_no, i64 a_cmd_kind, i64 a_cmd_id, i64 a_cmd_src, i64 a_cmd_dst, i64 a_cmd_amt, rL sums, rL last, rL told] = some [i64 (serveM ⟨sums, last, told⟩ ⟨a_client, a_no, ⟨a_cmd_kind, a_cmd_id, a_cmd_src, a_cmd_dst, a_cmd_amt⟩⟩).2.1.code, i64 (serveM ⟨sums, last, told⟩ ⟨a_client, a_no, ⟨a_cmd_kind, a_cmd_id, a_cmd_src, a_cmd_dst, a_cmd_amt⟩⟩).2.1.sum, i64 (serveM ⟨sums, last, told⟩ ⟨a_client, a_no, ⟨a_cmd_kind, a_cmd_id, a_cmd_src, a_cmd_dst, a_cmd_amt⟩⟩).2.2, rL (serveM ⟨sums, last, told⟩ ⟨a_client, a_no, ⟨a_cmd_kind, a_cmd_id, a_cmd_src, a_cmd_dst, a_cmd_amt⟩⟩).1.sums, rL (serveM ⟨sums, last, told⟩ ⟨a_client, a_no, ⟨a_cmd_kind, a_cmd_id, a_cmd_src, a_cmd_dst, a_cmd_amt⟩⟩).1.last, rL (serveM ⟨sums, last, told⟩ ⟨a_client, a_no, ⟨a_cmd_kind, a_cmd_id, a_cmd_src, a_cmd_dst, a_cmd_amt⟩⟩).1.told] := by
  rw [Fun_k (t := tm39) rfl]; unfold tm39; unfold serveM
  obtain ⟨⟨c1, c2⟩, ⟨n1, n2⟩, hc⟩ := askOk_spec ha
  simp only at c1 c2 n1 n2 hc
  have hb1 : InB last a_client := by unfold InB; omega
  have hb2 : InB told a_client := by unfold InB; omega
  have hql := hq2 _ (at_memI hb1)
  simp (maxSteps := 2000000) (disch := first | assumption | omega | (simp only [S_upd]; assumption)) only [SA, SB, SC, SP, SQ, SZ, reduceIte, reduceCtorEq, Nat.reduceAdd, Nat.reduceEqDiff, beq_self_eq_true, decide_true, decide_false, Int.reduceBEq, Int.reduceLT, Int.reduceLE, S_eta, S_row, S_set, S_upd, impl_apply, *] <;> repeat' (refine fork_eq (fun _ => ?_) (fun _ => ?_) <;> try simp (maxSteps := 2000000) (disch := first | assumption | omega | (simp only [S_upd]; assumption)) only [SA, SB, SC, SP, SQ, SZ, reduceIte, reduceCtorEq, Nat.reduceAdd, Nat.reduceEqDiff, beq_self_eq_true, decide_true, decide_false, Int.reduceBEq, Int.reduceLT, Int.reduceLE, S_eta, S_row, S_set, S_upd, impl_apply, *])
theorem spec_ServeAsk (sums last : List Int) (told : List TTold) (a_client a_no a_cmd_kind a_cmd_id a_cmd_src a_cmd_dst a_cmd_amt : Int) (h1 : sums.length ≤ 10000000000) (h2 : last.length ≤ 10000000000) (h3 : told.length ≤ 10000000000) :
    Fun T 10 [rL sums, rL last, rL told, i64 a_client, i64 a_no, i64 a_cmd_kind, i64 a_cmd_id, i64 a_cmd_src, i64 a_cmd_dst, i64 a_cmd_amt] = some [rL (serveR ⟨sums, last, told⟩ ⟨a_client, a_no, ⟨a_cmd_kind, a_cmd_id, a_cmd_src, a_cmd_dst, a_cmd_amt⟩⟩).1.sums, rL (serveR ⟨sums, last, told⟩ ⟨a_client, a_no, ⟨a_cmd_kind, a_cmd_id, a_cmd_src, a_cmd_dst, a_cmd_amt⟩⟩).1.last, rL (serveR ⟨sums, last, told⟩ ⟨a_client, a_no, ⟨a_cmd_kind, a_cmd_id, a_cmd_src, a_cmd_dst, a_cmd_amt⟩⟩).1.told, i64 (serveR ⟨sums, last, told⟩ ⟨a_client, a_no, ⟨a_cmd_kind, a_cmd_id, a_cmd_src, a_cmd_dst, a_cmd_amt⟩⟩).2.1.code, i64 (serveR ⟨sums, last, told⟩ ⟨a_client, a_no, ⟨a_cmd_kind, a_cmd_id, a_cmd_src, a_cmd_dst, a_cmd_amt⟩⟩).2.1.sum, i64 (serveR ⟨sums, last, told⟩ ⟨a_client, a_no, ⟨a_cmd_kind, a_cmd_id, a_cmd_src, a_cmd_dst, a_cmd_amt⟩⟩).2.2.1, .bool (serveR ⟨sums, last, told⟩ ⟨a_client, a_no, ⟨a_cmd_kind, a_cmd_id, a_cmd_src, a_cmd_dst, a_cmd_amt⟩⟩).2.2.2] := by
  rw [Fun_k (t := tm10) rfl]; unfold tm10; unfold serveR
  have l1 : sums.length ≤ 1099511627776 := by omega
  have l2 : last.length ≤ 1099511627776 := by omega
  have l3 : told.length ≤ 1099511627776 := by omega
  cases hc : clerkOk ⟨sums, last, told⟩
  · simp (maxSteps := 2000000) (disch := first | assumption | omega) only [SA, SB, SC, SP, SQ, SZ, reduceIte, reduceCtorEq, Nat.reduceAdd, Nat.reduceEqDiff, beq_self_eq_true, decide_true, decide_false, Int.reduceBEq, Int.reduceLT, Int.reduceLE, S_eta, spec_GoodClerk, S_nil, *] <;> repeat' (refine fork_eq (fun _ => ?_) (fun _ => ?_) <;> try simp (maxSteps := 2000000) (disch := first | assumption | omega) only [SA, SB, SC, SP, SQ, SZ, reduceIte, reduceCtorEq, Nat.reduceAdd, Nat.reduceEqDiff, beq_self_eq_true, decide_true, decide_false, Int.reduceBEq, Int.reduceLT, Int.reduceLE, S_eta, spec_GoodClerk, S_nil, *])
  cases ha : askOk ⟨a_client, a_no, ⟨a_cmd_kind, a_cmd_id, a_cmd_src, a_cmd_dst, a_cmd_amt⟩⟩
  · simp (maxSteps := 2000000) (disch := first | assumption | omega) only [SA, SB, SC, SP, SQ, SZ, reduceIte, reduceCtorEq, Nat.reduceAdd, Nat.reduceEqDiff, beq_self_eq_true, decide_true, decide_false, Int.reduceBEq, Int.reduceLT, Int.reduceLE, S_eta, spec_GoodClerk, spec_l15Ask, S_nil, *] <;> repeat' (refine fork_eq (fun _ => ?_) (fun _ => ?_) <;> try simp (maxSteps := 2000000) (disch := first | assumption | omega) only [SA, SB, SC, SP, SQ, SZ, reduceIte, reduceCtorEq, Nat.reduceAdd, Nat.reduceEqDiff, beq_self_eq_true, decide_true, decide_false, Int.reduceBEq, Int.reduceLT, Int.reduceLE, S_eta, spec_GoodClerk, spec_l15Ask, S_nil, *])
  obtain ⟨k1, k2, k3, k4⟩ := clerkOk_spec hc
  obtain ⟨k5, k6⟩ := sumsOk_spec k1
  simp only at k2 k3 k4 k5 k6
  have hq : ∀ x ∈ sums, 0 ≤ x ∧ x ≤ 100000000 := fun x hx => by have := k6 x hx; omega
  simp (disch := first | assumption | omega) only [SA, SB, SC, SP, SQ, SZ, reduceIte, reduceCtorEq, Nat.reduceAdd, Nat.reduceEqDiff, spec_GoodClerk, spec_l15Ask, spec_l15Serve, hc, ha]
theorem impl_ServeAsk (sums last : List Int) (told : List TTold) (a_client a_no a_cmd_kind a_cmd_id a_cmd_src a_cmd_dst a_cmd_amt : Int) (h1 : sums.length ≤ 10000000000) (h2 : last.length ≤ 10000000000) (h3 : told.length ≤ 10000000000) :
    Fun T 24 [rL sums, rL last, rL told, i64 a_client, i64 a_no, i64 a_cmd_kind, i64 a_cmd_id, i64 a_cmd_src, i64 a_cmd_dst, i64 a_cmd_amt] = some [rL (serveR ⟨sums, last, told⟩ ⟨a_client, a_no, ⟨a_cmd_kind, a_cmd_id, a_cmd_src, a_cmd_dst, a_cmd_amt⟩⟩).1.sums, rL (serveR ⟨sums, last, told⟩ ⟨a_client, a_no, ⟨a_cmd_kind, a_cmd_id, a_cmd_src, a_cmd_dst, a_cmd_amt⟩⟩).1.last, rL (serveR ⟨sums, last, told⟩ ⟨a_client, a_no, ⟨a_cmd_kind, a_cmd_id, a_cmd_src, a_cmd_dst, a_cmd_amt⟩⟩).1.told, i64 (serveR ⟨sums, last, told⟩ ⟨a_client, a_no, ⟨a_cmd_kind, a_cmd_id, a_cmd_src, a_cmd_dst, a_cmd_amt⟩⟩).2.1.code, i64 (serveR ⟨sums, last, told⟩ ⟨a_client, a_no, ⟨a_cmd_kind, a_cmd_id, a_cmd_src, a_cmd_dst, a_cmd_amt⟩⟩).2.1.sum, i64 (serveR ⟨sums, last, told⟩ ⟨a_client, a_no, ⟨a_cmd_kind, a_cmd_id, a_cmd_src, a_cmd_dst, a_cmd_amt⟩⟩).2.2.1, .bool (serveR ⟨sums, last, told⟩ ⟨a_client, a_no, ⟨a_cmd_kind, a_cmd_id, a_cmd_src, a_cmd_dst, a_cmd_amt⟩⟩).2.2.2] := by
  rw [Fun_k (t := tm24) rfl]; unfold tm24; unfold serveR
  have l1 : sums.length ≤ 1099511627776 := by omega
  have l2 : last.length ≤ 1099511627776 := by omega
  have l3 : told.length ≤ 1099511627776 := by omega
  cases hc : clerkOk ⟨sums, last, told⟩
  · simp (maxSteps := 2000000) (disch := first | assumption | omega) only [SA, SB, SC, SP, SQ, SZ, reduceIte, reduceCtorEq, Nat.reduceAdd, Nat.reduceEqDiff, beq_self_eq_true, decide_true, decide_false, Int.reduceBEq, Int.reduceLT, Int.reduceLE, S_eta, impl_GoodClerk, S_nil, *] <;> repeat' (refine fork_eq (fun _ => ?_) (fun _ => ?_) <;> try simp (maxSteps := 2000000) (disch := first | assumption | omega) only [SA, SB, SC, SP, SQ, SZ, reduceIte, reduceCtorEq, Nat.reduceAdd, Nat.reduceEqDiff, beq_self_eq_true, decide_true, decide_false, Int.reduceBEq, Int.reduceLT, Int.reduceLE, S_eta, impl_GoodClerk, S_nil, *])
  cases ha : askOk ⟨a_client, a_no, ⟨a_cmd_kind, a_cmd_id, a_cmd_src, a_cmd_dst, a_cmd_amt⟩⟩
  · simp (maxSteps := 2000000) (disch := first | assumption | omega) only [SA, SB, SC, SP, SQ, SZ, reduceIte, reduceCtorEq, Nat.reduceAdd, Nat.reduceEqDiff, beq_self_eq_true, decide_true, decide_false, Int.reduceBEq, Int.reduceLT, Int.reduceLE, S_eta, impl_GoodClerk, impl_goodAsk, S_nil, *] <;> repeat' (refine fork_eq (fun _ => ?_) (fun _ => ?_) <;> try simp (maxSteps := 2000000) (disch := first | assumption | omega) only [SA, SB, SC, SP, SQ, SZ, reduceIte, reduceCtorEq, Nat.reduceAdd, Nat.reduceEqDiff, beq_self_eq_true, decide_true, decide_false, Int.reduceBEq, Int.reduceLT, Int.reduceLE, S_eta, impl_GoodClerk, impl_goodAsk, S_nil, *])
  obtain ⟨k1, k2, k3, k4⟩ := clerkOk_spec hc
  obtain ⟨k5, k6⟩ := sumsOk_spec k1
  simp only at k2 k3 k4 k5 k6
  have hq : ∀ x ∈ sums, 0 ≤ x ∧ x ≤ 100000000 := fun x hx => by have := k6 x hx; omega
  simp (disch := first | assumption | omega) only [SA, SB, SC, SP, SQ, SZ, reduceIte, reduceCtorEq, Nat.reduceAdd, Nat.reduceEqDiff, impl_GoodClerk, impl_goodAsk, impl_Clerk_copied, impl_Clerk_serve, hc, ha]
theorem law (c_sums c_last : (List Int)) (c_told : (List TTold)) (a_client a_no a_cmd_kind a_cmd_id a_cmd_src a_cmd_dst a_cmd_amt : Int) (hw_c : wf_TClerk ⟨c_sums, c_last, c_told⟩) : Fun T 0 [rL c_sums, rL c_last, rL c_told, i64 a_client, i64 a_no, i64 a_cmd_kind, i64 a_cmd_id, i64 a_cmd_src, i64 a_cmd_dst, i64 a_cmd_amt] = some [.bool true] := by
  rw [Fun_k (t := tm0) rfl]; unfold tm0
  by_cases c_c : ((sz_TClerk ⟨c_sums, c_last, c_told⟩ : Nat) : Int) ≤ 1048576
  rotate_left
  · have e : szR (1048576) (sz_TClerk ⟨c_sums, c_last, c_told⟩) = -1 := if_neg c_c
    simp (maxSteps := 2000000) (disch := first | assumption | omega) only [SA, SB, SC, SP, SQ, SZ, reduceIte, reduceCtorEq, Nat.reduceAdd, Nat.reduceEqDiff, beq_self_eq_true, decide_true, decide_false, Int.reduceBEq, Int.reduceLT, Int.reduceLE, S_eta, lsz_TClerk, lt0, ltm1, *] <;> repeat' (refine fork_eq (fun _ => ?_) (fun _ => ?_) <;> try simp (maxSteps := 2000000) (disch := first | assumption | omega) only [SA, SB, SC, SP, SQ, SZ, reduceIte, reduceCtorEq, Nat.reduceAdd, Nat.reduceEqDiff, beq_self_eq_true, decide_true, decide_false, Int.reduceBEq, Int.reduceLT, Int.reduceLE, S_eta, lsz_TClerk, lt0, ltm1, *])
  have e_c : szR (1048576) (sz_TClerk ⟨c_sums, c_last, c_told⟩) = 1048576 - ((sz_TClerk ⟨c_sums, c_last, c_told⟩ : Nat) : Int) := if_pos c_c
  have s1_c : sz_TClerk ⟨c_sums, c_last, c_told⟩ ≤ 1048576 := by omega
  have s2_c : sz_TClerk ⟨c_sums, c_last, c_told⟩ ≤ 1099511627776 := by omega
  have szu_c := s1_c
  rw [szu_TClerk] at szu_c
  simp only at szu_c
  have m1_c_sums : c_sums.length ≤ 1099511627776 := by omega
  have m2_c_sums : ctL (fun _ => 1) c_sums ≤ 1125899906842624 := by have := ctL_le (c := (fun _ => 1)) (f := (fun _ => 0)) (m := 16) (by omega) (fun _ => by simp) c_sums; simp only [szL_zero] at *; omega
  have m1_c_last : c_last.length ≤ 1099511627776 := by omega
  have m2_c_last : ctL (fun _ => 1) c_last ≤ 1125899906842624 := by have := ctL_le (c := (fun _ => 1)) (f := (fun _ => 0)) (m := 16) (by omega) (fun _ => by simp) c_last; simp only [szL_zero] at *; omega
  have m1_c_told : c_told.length ≤ 1099511627776 := by omega
  have m2_c_told : ctL ct_TTold c_told ≤ 1125899906842624 := by have := ctL_le (c := ct_TTold) (f := (fun _ => 0)) (m := 16) (by omega) ctb_TTold c_told; simp only [szL_zero] at *; omega
  have hl := serveR_len ⟨c_sums, c_last, c_told⟩ ⟨a_client, a_no, ⟨a_cmd_kind, a_cmd_id, a_cmd_src, a_cmd_dst, a_cmd_amt⟩⟩
  have r1 : sz_TClerk (serveR ⟨c_sums, c_last, c_told⟩ ⟨a_client, a_no, ⟨a_cmd_kind, a_cmd_id, a_cmd_src, a_cmd_dst, a_cmd_amt⟩⟩).1 ≤ 1099511627776 := by rw [szu_TClerk]; omega
  have r2 : ctL (fun _ => 1) (serveR ⟨c_sums, c_last, c_told⟩ ⟨a_client, a_no, ⟨a_cmd_kind, a_cmd_id, a_cmd_src, a_cmd_dst, a_cmd_amt⟩⟩).1.sums ≤ 1125899906842624 := by rw [ctL_one]; omega
  have r3 : ctL (fun _ => 1) (serveR ⟨c_sums, c_last, c_told⟩ ⟨a_client, a_no, ⟨a_cmd_kind, a_cmd_id, a_cmd_src, a_cmd_dst, a_cmd_amt⟩⟩).1.last ≤ 1125899906842624 := by rw [ctL_one]; omega
  have r4 : ctL ct_TTold (serveR ⟨c_sums, c_last, c_told⟩ ⟨a_client, a_no, ⟨a_cmd_kind, a_cmd_id, a_cmd_src, a_cmd_dst, a_cmd_amt⟩⟩).1.told ≤ 1125899906842624 := by
    have := ctL_le (c := ct_TTold) (f := fun _ => 0) (m := 16) (by omega) ctb_TTold (serveR ⟨c_sums, c_last, c_told⟩ ⟨a_client, a_no, ⟨a_cmd_kind, a_cmd_id, a_cmd_src, a_cmd_dst, a_cmd_amt⟩⟩).1.told
    rw [szL_zero] at this
    omega
  simp (maxSteps := 2000000) (disch := first | assumption | omega) only [SA, SB, SC, SP, SQ, SZ, reduceIte, reduceCtorEq, Nat.reduceAdd, Nat.reduceEqDiff, beq_self_eq_true, decide_true, decide_false, Int.reduceBEq, Int.reduceLT, Int.reduceLE, S_eta, lsz_TClerk, lto_TClerk, lto_TAsk, spec_ServeAsk, impl_ServeAsk, leq_TClerk, leq_TTold, lmk_TClerk, lhd_TClerk, lt0, ltm1, *] <;> repeat' (refine fork_eq (fun _ => ?_) (fun _ => ?_) <;> try simp (maxSteps := 2000000) (disch := first | assumption | omega) only [SA, SB, SC, SP, SQ, SZ, reduceIte, reduceCtorEq, Nat.reduceAdd, Nat.reduceEqDiff, beq_self_eq_true, decide_true, decide_false, Int.reduceBEq, Int.reduceLT, Int.reduceLE, S_eta, lsz_TClerk, lto_TClerk, lto_TAsk, spec_ServeAsk, impl_ServeAsk, leq_TClerk, leq_TTold, lmk_TClerk, lhd_TClerk, lt0, ltm1, *])
theorem hpure : ∀ ds, WTs [.sl 8 [.int .i64], .sl 8 [.int .i64], .sl 16 [.int .i64, .int .i64], .int .i64, .int .i64, .int .i64, .int .i64, .int .i64, .int .i64, .int .i64] ds → ∃ n, callN T n 0 ds = some [.bool true] := by
  intro ds h
  simp only [WTs] at h
  obtain ⟨d0, r0, rfl, w0, d1, r1, rfl, w1, d2, r2, rfl, w2, d3, r3, rfl, w3, d4, r4, rfl, w4, d5, r5, rfl, w5, d6, r6, rfl, w6, d7, r7, rfl, w7, d8, r8, rfl, w8, d9, r9, rfl, w9, rfl⟩ := h
  obtain ⟨c, e_c, hw_c⟩ := dec_TClerk [d0, d1, d2] (by simp only [WTs]; exact ⟨_, _, rfl, w0, _, _, rfl, w1, _, _, rfl, w2, rfl⟩)
  simp only [Enc.enc, List.cons.injEq, and_true] at e_c
  obtain ⟨rfl, rfl, rfl⟩ := e_c
  obtain ⟨a_client, rfl, ha_client1, ha_client2⟩ := WT_int w3
  obtain ⟨a_no, rfl, ha_no1, ha_no2⟩ := WT_int w4
  obtain ⟨a_cmd_kind, rfl, ha_cmd_kind1, ha_cmd_kind2⟩ := WT_int w5
  obtain ⟨a_cmd_id, rfl, ha_cmd_id1, ha_cmd_id2⟩ := WT_int w6
  obtain ⟨a_cmd_src, rfl, ha_cmd_src1, ha_cmd_src2⟩ := WT_int w7
  obtain ⟨a_cmd_dst, rfl, ha_cmd_dst1, ha_cmd_dst2⟩ := WT_int w8
  obtain ⟨a_cmd_amt, rfl, ha_cmd_amt1, ha_cmd_amt2⟩ := WT_int w9
  exact pure_of (law (c.sums) (c.last) (c.told) a_client a_no a_cmd_kind a_cmd_id a_cmd_src a_cmd_dst a_cmd_amt hw_c)
end FnExactServeAsk
end Go.Proofs.Ytacfmplofkjonaa
