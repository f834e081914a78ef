/- What the terms of FnExactPlayAsks come to. -/
import Derived.Test.YtjoebpmeeampfaaFnExactPlayAsksTab
namespace Go.Proofs.Ytjoebpmeeampfaa
namespace FnExactPlayAsks
open Go Go.Proofs.Ytjoebpmeeampfaa.Rf
open Nat (reduceAdd reduceEqDiff)
open Int (reduceLT reduceLE)
set_option linter.unusedSimpArgs false
set_option linter.unusedVariables false
set_option linter.unnecessarySimpa false
set_option maxHeartbeats 4000000
set_option maxRecDepth 10000
theorem lto_TCmd (x_kind x_id x_src x_dst x_amt : Int) : Fun T 4 [i64 x_kind, i64 x_id, i64 x_src, i64 x_dst, i64 x_amt] = some [i64 x_kind, i64 x_id, i64 x_src, i64 x_dst, i64 x_amt] := by
 rw [Fun_k (t := tm4) rfl]; unfold tm4
 (refine fork_in ?_; repeat' (refine fork_eq (fun _ => ?_) (fun _ => ?_) <;> try simp (disch := first | assumption | omega) only [S0, reduceIte, reduceCtorEq, reduceAdd, reduceEqDiff, Int.reduceBEq, reduceLT, reduceLE, *]))
theorem leq_TCmd (x_kind x_id x_src x_dst x_amt : Int) (y_kind y_id y_src y_dst y_amt : Int) : Fun T 40 [i64 x_kind, i64 x_id, i64 x_src, i64 x_dst, i64 x_amt, i64 y_kind, i64 y_id, i64 y_src, i64 y_dst, i64 y_amt] = some [.bool (decide ((⟨x_kind, x_id, x_src, x_dst, x_amt⟩ : TCmd) = ⟨y_kind, y_id, y_src, y_dst, y_amt⟩))] := by
 rw [Fun_k (t := tm40) rfl]; unfold tm40
 have e : decide ((⟨x_kind, x_id, x_src, x_dst, x_amt⟩ : TCmd) = ⟨y_kind, y_id, y_src, y_dst, y_amt⟩) = ((x_kind == y_kind) && (x_id == y_id) && (x_src == y_src) && (x_dst == y_dst) && (x_amt == y_amt)) := by
  simp only [TCmd.mk.injEq, Bool.beq_eq_decide_eq, Bool.decide_and, Bool.and_assoc]
 rw [e]
 (refine fork_in ?_; repeat' (refine fork_eq (fun _ => ?_) (fun _ => ?_) <;> try simp (disch := first | assumption | omega) only [S0, reduceIte, reduceCtorEq, reduceAdd, reduceEqDiff, Int.reduceBEq, reduceLT, reduceLE, *]))
theorem leq_LI (xs ys : (List Int)) (hs : szL (fun _ => 0) xs ≤ 1099511627776) : Fun T 35 [rL xs, rL ys] = some [.bool (decide (xs = ys))] := by
 rw [Fun_k (t := tm35) rfl]; unfold tm35
 have hx : xs.length ≤ 1099511627776 := Nat.le_trans szL_len hs
 by_cases hl : ys.length = xs.length
 ·simp (disch := first | assumption | omega) only [S0, reduceIte, reduceCtorEq, reduceAdd, reduceEqDiff, Int.reduceBEq, reduceLT, reduceLE, *]
  rw [scanX 1 xs.length (fun i => decide (atI xs i = atI ys i)) [.bool false], allB_eq hl.symm]
  ·(refine fork_in ?_; repeat' (refine fork_eq (fun _ => ?_) (fun _ => ?_) <;> try simp (disch := first | assumption | omega) only [S0, reduceIte, reduceCtorEq, reduceAdd, reduceEqDiff, Int.reduceBEq, reduceLT, reduceLE, *]))
  ·intro i hi hp
   have hb : InB xs (i : Int) := InB_nat.2 hi
   have hb' : InB ys (i : Int) := InB_nat.2 (by omega)
   have h2 : decide ((i : Int) < xs.length) = true := by simp; omega
   have h3 : (atI xs i == atI ys i) = true := by simpa using hp
   (refine fork_in ?_; repeat' (refine fork_eq (fun _ => ?_) (fun _ => ?_) <;> try simp (disch := first | assumption | omega) only [S0, reduceIte, reduceCtorEq, reduceAdd, reduceEqDiff, Int.reduceBEq, reduceLT, reduceLE, S_row, *]))
  ·intro i hi hp
   have hb : InB xs (i : Int) := InB_nat.2 hi
   have hb' : InB ys (i : Int) := InB_nat.2 (by omega)
   have h2 : decide ((i : Int) < xs.length) = true := by simp; omega
   have h3 : (atI xs i == atI ys i) = false := by simpa using hp
   (refine fork_in ?_; repeat' (refine fork_eq (fun _ => ?_) (fun _ => ?_) <;> try simp (disch := first | assumption | omega) only [S0, reduceIte, reduceCtorEq, reduceAdd, reduceEqDiff, Int.reduceBEq, reduceLT, reduceLE, S_row, *]))
  ·have h2 : decide ((xs.length : Int) < xs.length) = false := by simp
   (refine fork_in ?_; repeat' (refine fork_eq (fun _ => ?_) (fun _ => ?_) <;> try simp (disch := first | assumption | omega) only [S0, reduceIte, reduceCtorEq, reduceAdd, reduceEqDiff, Int.reduceBEq, reduceLT, reduceLE, *]))
 ·have hl' : ((xs.length : Int) == (ys.length : Int)) = false := by simp; omega
  have e := eq_len (fun h => hl h.symm)
  (refine fork_in ?_; repeat' (refine fork_eq (fun _ => ?_) (fun _ => ?_) <;> try simp (disch := first | assumption | omega) only [S0, reduceIte, reduceCtorEq, reduceAdd, reduceEqDiff, Int.reduceBEq, reduceLT, reduceLE, *]))
theorem lmk_LI (xs : (List Int)) (k : Int) (hk : 0 ≤ k) (hb : k + (ctL (fun _ => 1) xs : Nat) ≤ 1152921504606846976) (hl : xs.length ≤ 1099511627776) : Fun T 43 [rL xs, i64 k] = some [i64 (k + (ctL (fun _ => 1) xs : Nat)), rL (mkL (fun _ => 1) (fun _ k => k) xs k)] := by
 rw [Fun_k (t := tm43) rfl]; unfold tm43
 have hx : xs.length ≤ 1099511627776 := hl
 simp (disch := first | assumption | omega) only [S0, reduceIte, reduceCtorEq, reduceAdd, reduceEqDiff, Int.reduceBEq, reduceLT, reduceLE, *]
 rw [markLoop xs (fun _ => 1) (fun _ k => k) k rfl rfl rfl hk hb ?_ ?_ (by omega)]
 ·(refine fork_in ?_; repeat' (refine fork_eq (fun _ => ?_) (fun _ => ?_) <;> try simp (disch := first | assumption | omega) only [S0, reduceIte, reduceCtorEq, reduceAdd, reduceEqDiff, Int.reduceBEq, reduceLT, reduceLE, *]))
 ·intro i ys m hi hy hb hlt hat hm hc hlen
  have hc' : m + 1 ≤ 1152921504606846976 := hc
  (refine fork_in ?_; repeat' (refine fork_eq (fun _ => ?_) (fun _ => ?_) <;> try simp (disch := first | assumption | omega | (simp only [S_upd]; assumption)) only [S0, reduceIte, reduceCtorEq, reduceAdd, reduceEqDiff, Int.reduceBEq, reduceLT, reduceLE, S_row, S_set, S_upd, *]))
  rfl
 ·intro ys m hy hlt
  (refine fork_in ?_; repeat' (refine fork_eq (fun _ => ?_) (fun _ => ?_) <;> try simp (disch := first | assumption | omega) only [S0, reduceIte, reduceCtorEq, reduceAdd, reduceEqDiff, Int.reduceBEq, reduceLT, reduceLE, *]))
theorem lhd_LI (xs : (List Int)) (k : Int) (hk : 0 ≤ k) (hb : k + (ctL (fun _ => 1) xs : Nat) ≤ 1152921504606846976) (hl : xs.length ≤ 1099511627776) : Fun T 46 [rL (mkL (fun _ => 1) (fun _ k => k) xs k), i64 k] = some [i64 (k + (ctL (fun _ => 1) xs : Nat))] := by
 rw [Fun_k (t := tm46) rfl]; unfold tm46
 have hx : xs.length ≤ 1099511627776 := hl
 simp (disch := first | assumption | omega) only [S0, reduceIte, reduceCtorEq, reduceAdd, reduceEqDiff, Int.reduceBEq, reduceLT, reduceLE, *]
 rw [heldLoop xs (fun _ => 1) (fun _ k => k) k rfl hk hb (by omega)]
 ·(refine fork_in ?_; repeat' (refine fork_eq (fun _ => ?_) (fun _ => ?_) <;> try simp (disch := first | assumption | omega) only [S0, reduceIte, reduceCtorEq, reduceAdd, reduceEqDiff, Int.reduceBEq, reduceLT, reduceLE, *]))
 ·intro i m hi hb hy hlt hat hm hc hlen
  have hc' : m + 1 ≤ 1152921504606846976 := hc
  (refine fork_in ?_; repeat' (refine fork_eq (fun _ => ?_) (fun _ => ?_) <;> try simp (disch := first | assumption | omega) only [S0, reduceIte, reduceCtorEq, reduceAdd, reduceEqDiff, Int.reduceBEq, reduceLT, reduceLE, S_row, *]))
  rfl
 ·intro m hy hlt
  (refine fork_in ?_; repeat' (refine fork_eq (fun _ => ?_) (fun _ => ?_) <;> try simp (disch := first | assumption | omega) only [S0, reduceIte, reduceCtorEq, reduceAdd, reduceEqDiff, Int.reduceBEq, reduceLT, reduceLE, *]))
theorem leq_TTold (x_code x_sum : Int) (y_code y_sum : Int) : Fun T 37 [i64 x_code, i64 x_sum, i64 y_code, i64 y_sum] = some [.bool (decide ((⟨x_code, x_sum⟩ : TTold) = ⟨y_code, y_sum⟩))] := by
 rw [Fun_k (t := tm37) rfl]; unfold tm37
 have e : decide ((⟨x_code, x_sum⟩ : TTold) = ⟨y_code, y_sum⟩) = ((x_code == y_code) && (x_sum == y_sum)) := by
  simp only [TTold.mk.injEq, Bool.beq_eq_decide_eq, Bool.decide_and, Bool.and_assoc]
 rw [e]
 (refine fork_in ?_; repeat' (refine fork_eq (fun _ => ?_) (fun _ => ?_) <;> try simp (disch := first | assumption | omega) only [S0, reduceIte, reduceCtorEq, reduceAdd, reduceEqDiff, Int.reduceBEq, reduceLT, reduceLE, *]))
theorem leq_LTTold (xs ys : (List TTold)) (hs : szL (fun _ => 0) xs ≤ 1099511627776) : Fun T 36 [rL xs, rL ys] = some [.bool (decide (xs = ys))] := by
 rw [Fun_k (t := tm36) rfl]; unfold tm36
 have hx : xs.length ≤ 1099511627776 := Nat.le_trans szL_len hs
 by_cases hl : ys.length = xs.length
 ·simp (disch := first | assumption | omega) only [S0, reduceIte, reduceCtorEq, reduceAdd, reduceEqDiff, Int.reduceBEq, reduceLT, reduceLE, *]
  rw [scanX 1 xs.length (fun i => decide (atI xs i = atI ys i)) [.bool false], allB_eq hl.symm]
  ·(refine fork_in ?_; repeat' (refine fork_eq (fun _ => ?_) (fun _ => ?_) <;> try simp (disch := first | assumption | omega) only [S0, reduceIte, reduceCtorEq, reduceAdd, reduceEqDiff, Int.reduceBEq, reduceLT, reduceLE, *]))
  ·intro i hi hp
   have hb : InB xs (i : Int) := InB_nat.2 hi
   have hb' : InB ys (i : Int) := InB_nat.2 (by omega)
   have h2 : decide ((i : Int) < xs.length) = true := by simp; omega
   (refine fork_in ?_; repeat' (refine fork_eq (fun _ => ?_) (fun _ => ?_) <;> try simp (disch := first | assumption | omega) only [S0, reduceIte, reduceCtorEq, reduceAdd, reduceEqDiff, Int.reduceBEq, reduceLT, reduceLE, S_row, leq_TTold, *]))
  ·intro i hi hp
   have hb : InB xs (i : Int) := InB_nat.2 hi
   have hb' : InB ys (i : Int) := InB_nat.2 (by omega)
   have h2 : decide ((i : Int) < xs.length) = true := by simp; omega
   (refine fork_in ?_; repeat' (refine fork_eq (fun _ => ?_) (fun _ => ?_) <;> try simp (disch := first | assumption | omega) only [S0, reduceIte, reduceCtorEq, reduceAdd, reduceEqDiff, Int.reduceBEq, reduceLT, reduceLE, S_row, leq_TTold, *]))
  ·have h2 : decide ((xs.length : Int) < xs.length) = false := by simp
   (refine fork_in ?_; repeat' (refine fork_eq (fun _ => ?_) (fun _ => ?_) <;> try simp (disch := first | assumption | omega) only [S0, reduceIte, reduceCtorEq, reduceAdd, reduceEqDiff, Int.reduceBEq, reduceLT, reduceLE, *]))
 ·have hl' : ((xs.length : Int) == (ys.length : Int)) = false := by simp; omega
  have e := eq_len (fun h => hl h.symm)
  (refine fork_in ?_; repeat' (refine fork_eq (fun _ => ?_) (fun _ => ?_) <;> try simp (disch := first | assumption | omega) only [S0, reduceIte, reduceCtorEq, reduceAdd, reduceEqDiff, Int.reduceBEq, reduceLT, reduceLE, *]))
theorem lmk_LTTold (xs : (List TTold)) (k : Int) (hk : 0 ≤ k) (hb : k + (ctL ct_TTold xs : Nat) ≤ 1152921504606846976) (hl : xs.length ≤ 1099511627776) : Fun T 44 [rL xs, i64 k] = some [i64 (k + (ctL ct_TTold xs : Nat)), rL (mkL ct_TTold mk_TTold xs k)] := by
 rw [Fun_k (t := tm44) rfl]; unfold tm44
 have hx : xs.length ≤ 1099511627776 := hl
 simp (disch := first | assumption | omega) only [S0, reduceIte, reduceCtorEq, reduceAdd, reduceEqDiff, Int.reduceBEq, reduceLT, reduceLE, *]
 rw [markLoop xs ct_TTold mk_TTold k rfl rfl rfl hk hb ?_ ?_ (by omega)]
 ·(refine fork_in ?_; repeat' (refine fork_eq (fun _ => ?_) (fun _ => ?_) <;> try simp (disch := first | assumption | omega) only [S0, reduceIte, reduceCtorEq, reduceAdd, reduceEqDiff, Int.reduceBEq, reduceLT, reduceLE, *]))
 ·intro i ys m hi hy hb hlt hat hm hc hlen
  have ec : m + 1 + 1 = m + (ct_TTold (atI xs i) : Nat) := by rw [ctu_TTold]; omega
  rw [ctu_TTold] at hc
  (refine fork_in ?_; repeat' (refine fork_eq (fun _ => ?_) (fun _ => ?_) <;> try simp (disch := first | assumption | omega | (simp only [S_upd]; assumption)) only [S0, reduceIte, reduceCtorEq, reduceAdd, reduceEqDiff, Int.reduceBEq, reduceLT, reduceLE, S_row, S_set, S_upd, *]))
  all_goals (try simp only [mk_TTold, ec])
 ·intro ys m hy hlt
  (refine fork_in ?_; repeat' (refine fork_eq (fun _ => ?_) (fun _ => ?_) <;> try simp (disch := first | assumption | omega) only [S0, reduceIte, reduceCtorEq, reduceAdd, reduceEqDiff, Int.reduceBEq, reduceLT, reduceLE, *]))
theorem lhd_LTTold (xs : (List TTold)) (k : Int) (hk : 0 ≤ k) (hb : k + (ctL ct_TTold xs : Nat) ≤ 1152921504606846976) (hl : xs.length ≤ 1099511627776) : Fun T 47 [rL (mkL ct_TTold mk_TTold xs k), i64 k] = some [i64 (k + (ctL ct_TTold xs : Nat))] := by
 rw [Fun_k (t := tm47) rfl]; unfold tm47
 have hx : xs.length ≤ 1099511627776 := hl
 simp (disch := first | assumption | omega) only [S0, reduceIte, reduceCtorEq, reduceAdd, reduceEqDiff, Int.reduceBEq, reduceLT, reduceLE, *]
 rw [heldLoop xs ct_TTold mk_TTold k rfl hk hb (by omega)]
 ·(refine fork_in ?_; repeat' (refine fork_eq (fun _ => ?_) (fun _ => ?_) <;> try simp (disch := first | assumption | omega) only [S0, reduceIte, reduceCtorEq, reduceAdd, reduceEqDiff, Int.reduceBEq, reduceLT, reduceLE, *]))
 ·intro i m hi hb hy hlt hat hm hc hlen
  have ec : m + 1 + 1 = m + (ct_TTold (atI xs i) : Nat) := by rw [ctu_TTold]; omega
  rw [ctu_TTold] at hc
  (refine fork_in ?_; repeat' (refine fork_eq (fun _ => ?_) (fun _ => ?_) <;> try simp (disch := first | assumption | omega) only [S0, reduceIte, reduceCtorEq, reduceAdd, reduceEqDiff, Int.reduceBEq, reduceLT, reduceLE, S_row, mk_TTold, lt0, *]))
  all_goals (try simp only [ec])
 ·intro m hy hlt
  (refine fork_in ?_; repeat' (refine fork_eq (fun _ => ?_) (fun _ => ?_) <;> try simp (disch := first | assumption | omega) only [S0, reduceIte, reduceCtorEq, reduceAdd, reduceEqDiff, Int.reduceBEq, reduceLT, reduceLE, *]))
theorem leq_TClerk (x_sums x_last : (List Int)) (x_told : (List TTold)) (y_sums y_last : (List Int)) (y_told : (List TTold)) (hs : sz_TClerk ⟨x_sums, x_last, x_told⟩ ≤ 1099511627776) : Fun T 34 [rL x_sums, rL x_last, rL x_told, rL y_sums, rL y_last, rL y_told] = some [.bool (decide ((⟨x_sums, x_last, x_told⟩ : TClerk) = ⟨y_sums, y_last, y_told⟩))] := by
 rw [Fun_k (t := tm34) rfl]; unfold tm34
 unfold sz_TClerk at hs
 simp only at hs
 have s0 : szL (fun _ => 0) x_sums ≤ 1099511627776 := by omega
 have s1 : szL (fun _ => 0) x_last ≤ 1099511627776 := by omega
 have s2 : szL (fun _ => 0) x_told ≤ 1099511627776 := by omega
 have e : decide ((⟨x_sums, x_last, x_told⟩ : TClerk) = ⟨y_sums, y_last, y_told⟩) = (decide ((x_sums : (List Int)) = y_sums) && decide ((x_last : (List Int)) = y_last) && decide ((x_told : (List TTold)) = y_told)) := by
  simp only [TClerk.mk.injEq, Bool.beq_eq_decide_eq, Bool.decide_and, Bool.and_assoc]
 rw [e]
 (refine fork_in ?_; repeat' (refine fork_eq (fun _ => ?_) (fun _ => ?_) <;> try simp (disch := first | assumption | omega) only [S0, reduceIte, reduceCtorEq, reduceAdd, reduceEqDiff, Int.reduceBEq, reduceLT, reduceLE, leq_LI, leq_LTTold, *]))
theorem lmk_TClerk (x_sums x_last : (List Int)) (x_told : (List TTold)) (k : Int) (hk : 0 ≤ k) (hb : k + (ctL (fun _ => 1) x_sums + ctL (fun _ => 1) x_last + ctL ct_TTold x_told : Nat) ≤ 1152921504606846976) (hl0 : x_sums.length ≤ 1099511627776) (hl1 : x_last.length ≤ 1099511627776) (hl2 : x_told.length ≤ 1099511627776) : Fun T 42 [rL x_sums, rL x_last, rL x_told, i64 k] = some [i64 (k + (ctL (fun _ => 1) x_sums : Nat) + (ctL (fun _ => 1) x_last : Nat) + (ctL ct_TTold x_told : Nat)), rL (mkL (fun _ => 1) (fun _ k => k) x_sums (k)), rL (mkL (fun _ => 1) (fun _ k => k) x_last (k + (ctL (fun _ => 1) x_sums : Nat))), rL (mkL ct_TTold mk_TTold x_told (k + (ctL (fun _ => 1) x_sums : Nat) + (ctL (fun _ => 1) x_last : Nat)))] := by
 rw [Fun_k (t := tm42) rfl]; unfold tm42
 (refine fork_in ?_; repeat' (refine fork_eq (fun _ => ?_) (fun _ => ?_) <;> try simp (disch := first | assumption | omega) only [S0, reduceIte, reduceCtorEq, reduceAdd, reduceEqDiff, Int.reduceBEq, reduceLT, reduceLE, lmk_LI, lmk_LTTold, *]))
theorem lhd_TClerk (x_sums x_last : (List Int)) (x_told : (List TTold)) (k : Int) (hk : 0 ≤ k) (hb : k + (ctL (fun _ => 1) x_sums + ctL (fun _ => 1) x_last + ctL ct_TTold x_told : Nat) ≤ 1152921504606846976) (hl0 : x_sums.length ≤ 1099511627776) (hl1 : x_last.length ≤ 1099511627776) (hl2 : x_told.length ≤ 1099511627776) : Fun T 45 [rL (mkL (fun _ => 1) (fun _ k => k) x_sums (k)), rL (mkL (fun _ => 1) (fun _ k => k) x_last (k + (ctL (fun _ => 1) x_sums : Nat))), rL (mkL ct_TTold mk_TTold x_told (k + (ctL (fun _ => 1) x_sums : Nat) + (ctL (fun _ => 1) x_last : Nat))), i64 k] = some [i64 (k + (ctL (fun _ => 1) x_sums : Nat) + (ctL (fun _ => 1) x_last : Nat) + (ctL ct_TTold x_told : Nat))] := by
 rw [Fun_k (t := tm45) rfl]; unfold tm45
 have z1 : decide (k + (ctL (fun _ => 1) x_sums : Nat) < 0) = false := by simp; omega
 have z2 : decide (k + (ctL (fun _ => 1) x_sums : Nat) + (ctL (fun _ => 1) x_last : Nat) < 0) = false := by simp; omega
 have z3 : decide (k + (ctL (fun _ => 1) x_sums : Nat) + (ctL (fun _ => 1) x_last : Nat) + (ctL ct_TTold x_told : Nat) < 0) = false := by simp; omega
 (refine fork_in ?_; repeat' (refine fork_eq (fun _ => ?_) (fun _ => ?_) <;> try simp (disch := first | assumption | omega) only [S0, reduceIte, reduceCtorEq, reduceAdd, reduceEqDiff, Int.reduceBEq, reduceLT, reduceLE, lhd_LI, lhd_LTTold, *]))
theorem lto_TAsk (x_client x_no x_cmd_kind x_cmd_id x_cmd_src x_cmd_dst x_cmd_amt : Int) : Fun T 3 [i64 x_client, i64 x_no, i64 x_cmd_kind, i64 x_cmd_id, i64 x_cmd_src, i64 x_cmd_dst, i64 x_cmd_amt] = some [i64 x_client, i64 x_no, i64 x_cmd_kind, i64 x_cmd_id, i64 x_cmd_src, i64 x_cmd_dst, i64 x_cmd_amt] := by
 rw [Fun_k (t := tm3) rfl]; unfold tm3
 (refine fork_in ?_; repeat' (refine fork_eq (fun _ => ?_) (fun _ => ?_) <;> try simp (disch := first | assumption | omega) only [S0, reduceIte, reduceCtorEq, reduceAdd, reduceEqDiff, Int.reduceBEq, reduceLT, reduceLE, lto_TCmd, *]))
theorem leq_TAsk (x_client x_no x_cmd_kind x_cmd_id x_cmd_src x_cmd_dst x_cmd_amt : Int) (y_client y_no y_cmd_kind y_cmd_id y_cmd_src y_cmd_dst y_cmd_amt : Int) : Fun T 39 [i64 x_client, i64 x_no, i64 x_cmd_kind, i64 x_cmd_id, i64 x_cmd_src, i64 x_cmd_dst, i64 x_cmd_amt, i64 y_client, i64 y_no, i64 y_cmd_kind, i64 y_cmd_id, i64 y_cmd_src, i64 y_cmd_dst, i64 y_cmd_amt] = some [.bool (decide ((⟨x_client, x_no, ⟨x_cmd_kind, x_cmd_id, x_cmd_src, x_cmd_dst, x_cmd_amt⟩⟩ : TAsk) = ⟨y_client, y_no, ⟨y_cmd_kind, y_cmd_id, y_cmd_src, y_cmd_dst, y_cmd_amt⟩⟩))] := by
 rw [Fun_k (t := tm39) rfl]; unfold tm39
 have e : decide ((⟨x_client, x_no, ⟨x_cmd_kind, x_cmd_id, x_cmd_src, x_cmd_dst, x_cmd_amt⟩⟩ : TAsk) = ⟨y_client, y_no, ⟨y_cmd_kind, y_cmd_id, y_cmd_src, y_cmd_dst, y_cmd_amt⟩⟩) = ((x_client == y_client) && (x_no == y_no) && decide ((⟨x_cmd_kind, x_cmd_id, x_cmd_src, x_cmd_dst, x_cmd_amt⟩ : TCmd) = ⟨y_cmd_kind, y_cmd_id, y_cmd_src, y_cmd_dst, y_cmd_amt⟩)) := by
  simp only [TAsk.mk.injEq, Bool.beq_eq_decide_eq, Bool.decide_and, Bool.and_assoc]
 rw [e]
 (refine fork_in ?_; repeat' (refine fork_eq (fun _ => ?_) (fun _ => ?_) <;> try simp (disch := first | assumption | omega) only [S0, reduceIte, reduceCtorEq, reduceAdd, reduceEqDiff, Int.reduceBEq, reduceLT, reduceLE, leq_TCmd, *]))
theorem lsz_LTAsk (xs : (List TAsk)) (l : Int) (h0 : 0 ≤ l) (h1 : l ≤ 1048576) (hw : xs.length ≤ 140737488351232) : Fun T 1 [rL xs, i64 l] = some [i64 (szR l (szL (fun _ => 0) xs))] := by
 rw [Fun_k (t := tm1) rfl]; unfold tm1
 have es : szL (fun _ => 0) xs = xs.length := szL_zero
 rw [es]
 by_cases c : (xs.length : Int) ≤ l
 ·have e : szR l xs.length = l - xs.length := if_pos c
  have d : decide (l - (xs.length : Int) < 0) = false := by simp; omega
  (refine fork_in ?_; repeat' (refine fork_eq (fun _ => ?_) (fun _ => ?_) <;> try simp (disch := first | assumption | omega) only [S0, reduceIte, reduceCtorEq, reduceAdd, reduceEqDiff, Int.reduceBEq, reduceLT, reduceLE, *]))
 ·have e : szR l xs.length = -1 := if_neg c
  have d : decide (l - (xs.length : Int) < 0) = true := by simp; omega
  (refine fork_in ?_; repeat' (refine fork_eq (fun _ => ?_) (fun _ => ?_) <;> try simp (disch := first | assumption | omega) only [S0, reduceIte, reduceCtorEq, reduceAdd, reduceEqDiff, Int.reduceBEq, reduceLT, reduceLE, *]))
theorem lto_LTAsk (xs : (List TAsk)) (hs : szL (fun _ => 0) xs ≤ 1048576) : Fun T 2 [rL xs] = some [rL xs] := by
 rw [Fun_k (t := tm2) rfl]; unfold tm2
 have hl : xs.length ≤ 1048576 := Nat.le_trans szL_len hs
 have zz : rL (List.replicate xs.length (default : TAsked)) = rL (List.replicate xs.length (default : TAsk)) := by unfold rL; simp only [List.map_replicate]; rfl
 simp (disch := first | assumption | omega) only [S0, reduceIte, reduceCtorEq, reduceAdd, reduceEqDiff, Int.reduceBEq, reduceLT, reduceLE, S_make, Int.toNat_natCast, *]
 rw [toLoop xs rfl]
 ·(refine fork_in ?_; repeat' (refine fork_eq (fun _ => ?_) (fun _ => ?_) <;> try simp (disch := first | assumption | omega) only [S0, reduceIte, reduceCtorEq, reduceAdd, reduceEqDiff, Int.reduceBEq, reduceLT, reduceLE, *]))
 ·intro i ys hi hb hb' hl'
  (refine fork_in ?_; repeat' (refine fork_eq (fun _ => ?_) (fun _ => ?_) <;> try simp (disch := first | assumption | omega) only [S0, reduceIte, reduceCtorEq, reduceAdd, reduceEqDiff, Int.reduceBEq, reduceLT, reduceLE, S_row, S_set, lto_TAsk, *]))
 ·intro ys hl'
  (refine fork_in ?_; repeat' (refine fork_eq (fun _ => ?_) (fun _ => ?_) <;> try simp (disch := first | assumption | omega) only [S0, reduceIte, reduceCtorEq, reduceAdd, reduceEqDiff, Int.reduceBEq, reduceLT, reduceLE, *]))
theorem leq_LTAsk (xs ys : (List TAsk)) (hs : szL (fun _ => 0) xs ≤ 1099511627776) : Fun T 38 [rL xs, rL ys] = some [.bool (decide (xs = ys))] := by
 rw [Fun_k (t := tm38) rfl]; unfold tm38
 have hx : xs.length ≤ 1099511627776 := Nat.le_trans szL_len hs
 by_cases hl : ys.length = xs.length
 ·simp (disch := first | assumption | omega) only [S0, reduceIte, reduceCtorEq, reduceAdd, reduceEqDiff, Int.reduceBEq, reduceLT, reduceLE, *]
  rw [scanX 1 xs.length (fun i => decide (atI xs i = atI ys i)) [.bool false], allB_eq hl.symm]
  ·(refine fork_in ?_; repeat' (refine fork_eq (fun _ => ?_) (fun _ => ?_) <;> try simp (disch := first | assumption | omega) only [S0, reduceIte, reduceCtorEq, reduceAdd, reduceEqDiff, Int.reduceBEq, reduceLT, reduceLE, *]))
  ·intro i hi hp
   have hb : InB xs (i : Int) := InB_nat.2 hi
   have hb' : InB ys (i : Int) := InB_nat.2 (by omega)
   have h2 : decide ((i : Int) < xs.length) = true := by simp; omega
   (refine fork_in ?_; repeat' (refine fork_eq (fun _ => ?_) (fun _ => ?_) <;> try simp (disch := first | assumption | omega) only [S0, reduceIte, reduceCtorEq, reduceAdd, reduceEqDiff, Int.reduceBEq, reduceLT, reduceLE, S_row, leq_TAsk, *]))
  ·intro i hi hp
   have hb : InB xs (i : Int) := InB_nat.2 hi
   have hb' : InB ys (i : Int) := InB_nat.2 (by omega)
   have h2 : decide ((i : Int) < xs.length) = true := by simp; omega
   (refine fork_in ?_; repeat' (refine fork_eq (fun _ => ?_) (fun _ => ?_) <;> try simp (disch := first | assumption | omega) only [S0, reduceIte, reduceCtorEq, reduceAdd, reduceEqDiff, Int.reduceBEq, reduceLT, reduceLE, S_row, leq_TAsk, *]))
  ·have h2 : decide ((xs.length : Int) < xs.length) = false := by simp
   (refine fork_in ?_; repeat' (refine fork_eq (fun _ => ?_) (fun _ => ?_) <;> try simp (disch := first | assumption | omega) only [S0, reduceIte, reduceCtorEq, reduceAdd, reduceEqDiff, Int.reduceBEq, reduceLT, reduceLE, *]))
 ·have hl' : ((xs.length : Int) == (ys.length : Int)) = false := by simp; omega
  have e := eq_len (fun h => hl h.symm)
  (refine fork_in ?_; repeat' (refine fork_eq (fun _ => ?_) (fun _ => ?_) <;> try simp (disch := first | assumption | omega) only [S0, reduceIte, reduceCtorEq, reduceAdd, reduceEqDiff, Int.reduceBEq, reduceLT, reduceLE, *]))
theorem lmk_LTAsk (xs : (List TAsk)) (k : Int) (hk : 0 ≤ k) (hb : k + (ctL ct_TAsk xs : Nat) ≤ 1152921504606846976) (hl : xs.length ≤ 1099511627776) : Fun T 41 [rL xs, i64 k] = some [i64 (k + (ctL ct_TAsk xs : Nat)), rL (mkL ct_TAsk mk_TAsk xs k)] := by
 rw [Fun_k (t := tm41) rfl]; unfold tm41
 have hx : xs.length ≤ 1099511627776 := hl
 simp (disch := first | assumption | omega) only [S0, reduceIte, reduceCtorEq, reduceAdd, reduceEqDiff, Int.reduceBEq, reduceLT, reduceLE, *]
 rw [markLoop xs ct_TAsk mk_TAsk k rfl rfl rfl hk hb ?_ ?_ (by omega)]
 ·(refine fork_in ?_; repeat' (refine fork_eq (fun _ => ?_) (fun _ => ?_) <;> try simp (disch := first | assumption | omega) only [S0, reduceIte, reduceCtorEq, reduceAdd, reduceEqDiff, Int.reduceBEq, reduceLT, reduceLE, *]))
 ·intro i ys m hi hy hb hlt hat hm hc hlen
  have ec : m + 1 + 1 + 1 + 1 + 1 + 1 + 1 = m + (ct_TAsk (atI xs i) : Nat) := by rw [ctu_TAsk]; omega
  rw [ctu_TAsk] at hc
  (refine fork_in ?_; repeat' (refine fork_eq (fun _ => ?_) (fun _ => ?_) <;> try simp (disch := first | assumption | omega | (simp only [S_upd]; assumption)) only [S0, reduceIte, reduceCtorEq, reduceAdd, reduceEqDiff, Int.reduceBEq, reduceLT, reduceLE, S_row, S_set, S_upd, *]))
  all_goals (try simp only [mk_TAsk, ec])
 ·intro ys m hy hlt
  (refine fork_in ?_; repeat' (refine fork_eq (fun _ => ?_) (fun _ => ?_) <;> try simp (disch := first | assumption | omega) only [S0, reduceIte, reduceCtorEq, reduceAdd, reduceEqDiff, Int.reduceBEq, reduceLT, reduceLE, *]))
theorem impl_within (x lo up : Int) : Fun T 24 [i64 x, i64 lo, i64 up] = some [.bool (inR x lo up)] := by
 rw [Fun_k (t := tm24) rfl]; unfold tm24; unfold inR
 (refine fork_in ?_; repeat' (refine fork_eq (fun _ => ?_) (fun _ => ?_) <;> try simp (disch := first | assumption | omega) only [S0, reduceIte, reduceCtorEq, reduceAdd, reduceEqDiff, Int.reduceBEq, reduceLT, reduceLE, *]))
theorem spec_l1In (x lo up : Int) : Fun T 8 [i64 x, i64 lo, i64 up] = some [.bool (inR x lo up)] := by
 rw [Fun_k (t := tm8) rfl]; unfold tm8; unfold inR
 (refine fork_in ?_; repeat' (refine fork_eq (fun _ => ?_) (fun _ => ?_) <;> try simp (disch := first | assumption | omega) only [S0, reduceIte, reduceCtorEq, reduceAdd, reduceEqDiff, Int.reduceBEq, reduceLT, reduceLE, *]))
theorem impl_isAccount (n : Int) : Fun T 26 [i64 n] = some [.bool (inR n 0 3)] := by
 rw [Fun_k (t := tm26) rfl]; unfold tm26
 (refine fork_in ?_; repeat' (refine fork_eq (fun _ => ?_) (fun _ => ?_) <;> try simp (disch := first | assumption | omega) only [S0, reduceIte, reduceCtorEq, reduceAdd, reduceEqDiff, Int.reduceBEq, reduceLT, reduceLE, impl_within, *]))
theorem spec_l2Account (n : Int) : Fun T 11 [i64 n] = some [.bool (inR n 0 3)] := by
 rw [Fun_k (t := tm11) rfl]; unfold tm11
 (refine fork_in ?_; repeat' (refine fork_eq (fun _ => ?_) (fun _ => ?_) <;> try simp (disch := first | assumption | omega) only [S0, reduceIte, reduceCtorEq, reduceAdd, reduceEqDiff, Int.reduceBEq, reduceLT, reduceLE, spec_l1In, *]))
theorem spec_l2Code (k i f t a : Int) : Fun T 10 [i64 k, i64 i, i64 f, i64 t, i64 a] = some [i64 (cmdCode ⟨k, i, f, t, a⟩)] := by
 rw [Fun_k (t := tm10) rfl]; unfold tm10; unfold cmdCode
 (refine fork_in ?_; repeat' (refine fork_eq (fun _ => ?_) (fun _ => ?_) <;> try simp (disch := first | assumption | omega) only [S0, reduceIte, reduceCtorEq, reduceAdd, reduceEqDiff, Int.reduceBEq, reduceLT, reduceLE, spec_l2Account, spec_l1In, *]))
theorem spec_GoodCmd (k i f t a : Int) : Fun T 9 [i64 k, i64 i, i64 f, i64 t, i64 a] = some [.bool (cmdOk ⟨k, i, f, t, a⟩)] := by
 rw [Fun_k (t := tm9) rfl]; unfold tm9; unfold cmdOk
 (refine fork_in ?_; repeat' (refine fork_eq (fun _ => ?_) (fun _ => ?_) <;> try simp (disch := first | assumption | omega) only [S0, reduceIte, reduceCtorEq, reduceAdd, reduceEqDiff, Int.reduceBEq, reduceLT, reduceLE, spec_l2Code, S_eqs, cmdCode0, *]))
 all_goals (refine bool_fin ?_; simp only [Bool.and_eq_true, Bool.or_eq_true, Bool.not_eq_true', Bool.not_eq_false', Bool.and_eq_false_iff, Bool.or_eq_false_iff, Bool.false_eq_true, beq_iff_eq, beq_eq_false_iff_ne, decide_eq_true_eq, decide_eq_false_iff_not, ne_eq] at *; grind)
theorem impl_GoodCmd (k i f t a : Int) : Fun T 25 [i64 k, i64 i, i64 f, i64 t, i64 a] = some [.bool (cmdOk ⟨k, i, f, t, a⟩)] := by
 rw [Fun_k (t := tm25) rfl]; unfold tm25; unfold cmdOk
 (refine fork_in ?_; repeat' (refine fork_eq (fun _ => ?_) (fun _ => ?_) <;> try simp (disch := first | assumption | omega) only [S0, reduceIte, reduceCtorEq, reduceAdd, reduceEqDiff, Int.reduceBEq, reduceLT, reduceLE, impl_within, impl_isAccount, S_eqs, *]))
theorem spec_l1Own (xs : List Int) (hx : xs.length ≤ 10000000000) : Fun T 17 [rL xs] = some [rL xs] := by
 rw [Fun_k (t := tm17) rfl]; unfold tm17
 have h0 : (Prim.mk 1 0).run [] = some [.rows 1 []] := rfl
 (refine fork_in ?_; repeat' (refine fork_eq (fun _ => ?_) (fun _ => ?_) <;> try simp (disch := first | assumption | omega) only [S0, reduceIte, reduceCtorEq, reduceAdd, reduceEqDiff, Int.reduceBEq, reduceLT, reduceLE, h0, S_app, *]))
theorem spec_l15Ask (a_client a_no a_cmd_kind a_cmd_id a_cmd_src a_cmd_dst a_cmd_amt : Int) : Fun T 7 [i64 a_client, i64 a_no, i64 a_cmd_kind, i64 a_cmd_id, i64 a_cmd_src, i64 a_cmd_dst, i64 a_cmd_amt] = some [.bool (askOk ⟨a_client, a_no, ⟨a_cmd_kind, a_cmd_id, a_cmd_src, a_cmd_dst, a_cmd_amt⟩⟩)] := by
 rw [Fun_k (t := tm7) rfl]; unfold tm7; unfold askOk
 (refine fork_in ?_; repeat' (refine fork_eq (fun _ => ?_) (fun _ => ?_) <;> try simp (disch := first | assumption | omega) only [S0, reduceIte, reduceCtorEq, reduceAdd, reduceEqDiff, Int.reduceBEq, reduceLT, reduceLE, spec_l1In, spec_GoodCmd, *]))
theorem impl_goodAsk (a_client a_no a_cmd_kind a_cmd_id a_cmd_src a_cmd_dst a_cmd_amt : Int) : Fun T 23 [i64 a_client, i64 a_no, i64 a_cmd_kind, i64 a_cmd_id, i64 a_cmd_src, i64 a_cmd_dst, i64 a_cmd_amt] = some [.bool (askOk ⟨a_client, a_no, ⟨a_cmd_kind, a_cmd_id, a_cmd_src, a_cmd_dst, a_cmd_amt⟩⟩)] := by
 rw [Fun_k (t := tm23) rfl]; unfold tm23; unfold askOk
 (refine fork_in ?_; repeat' (refine fork_eq (fun _ => ?_) (fun _ => ?_) <;> try simp (disch := first | assumption | omega) only [S0, reduceIte, reduceCtorEq, reduceAdd, reduceEqDiff, Int.reduceBEq, reduceLT, reduceLE, impl_within, impl_GoodCmd, *]))
theorem spec_l15Own (sums last : List Int) (told : List TTold) (h1 : sums.length ≤ 10000000000) (h2 : last.length ≤ 10000000000) (h3 : told.length ≤ 10000000000) : Fun T 16 [rL sums, rL last, rL told] = some [rL sums, rL last, rL told] := by
 rw [Fun_k (t := tm16) rfl]; unfold tm16
 have h0 : (Prim.mk 2 0).run [] = some [.rows 2 []] := rfl
 (refine fork_in ?_; repeat' (refine fork_eq (fun _ => ?_) (fun _ => ?_) <;> try simp (disch := first | assumption | omega) only [S0, reduceIte, reduceCtorEq, reduceAdd, reduceEqDiff, Int.reduceBEq, reduceLT, reduceLE, spec_l1Own, h0, S_app, *]))
theorem spec_l11Apply (s : List Int) (k i f t a : Int) (hc : cmdOk ⟨k, i, f, t, a⟩ = true) (hl : (s.length : Int) = 4) (hq : ∀ x ∈ s, 0 ≤ x ∧ x ≤ 100000000) : Fun T 18 [rL s, i64 k, i64 i, i64 f, i64 t, i64 a] = some [rL (applyM s ⟨k, i, f, t, a⟩).1, i64 (applyM s ⟨k, i, f, t, a⟩).2.code, i64 (applyM s ⟨k, i, f, t, a⟩).2.sum] := by
 rw [Fun_k (t := tm18) rfl]; unfold tm18; unfold applyM
 obtain ⟨hk, hm, hr⟩ := cmdOk_acc hc
 simp only at hk hm hr
 have hl' : s.length ≤ 10000000000 := by omega
 rcases hk with rfl | rfl | rfl
 ·(refine fork_in ?_; repeat' (refine fork_eq (fun _ => ?_) (fun _ => ?_) <;> try simp (disch := first | assumption | omega) only [S0, reduceIte, reduceCtorEq, reduceAdd, reduceEqDiff, Int.reduceBEq, reduceLT, reduceLE, spec_l1Own, *]))
 ·obtain ⟨⟨f1, f2⟩, ⟨t1, t2⟩, hne, a1, a2⟩ := hm rfl
  have hbf : InB s f := by unfold InB; omega
  have hbt : InB s t := by unfold InB; omega
  have hqf := hq _ (at_memI hbf)
  have hbt2 : InB (setI s f (atI s f - a)) t := by unfold InB; rw [setI_len]; omega
  by_cases hlt : atI s f < a
  ·(refine fork_in ?_; repeat' (refine fork_eq (fun _ => ?_) (fun _ => ?_) <;> try simp (disch := first | assumption | omega) only [S0, reduceIte, reduceCtorEq, reduceAdd, reduceEqDiff, Int.reduceBEq, reduceLT, reduceLE, spec_l1Own, S_row, *]))
  ·have e : atI (setI s f (atI s f - a)) t = atI s t := atI_ne f1 t1 hne
   have hqt := hq _ (at_memI hbt)
   (refine fork_in ?_; repeat' (refine fork_eq (fun _ => ?_) (fun _ => ?_) <;> try simp (disch := first | assumption | omega | (simp only [S_upd]; assumption)) only [S0, reduceIte, reduceCtorEq, reduceAdd, reduceEqDiff, Int.reduceBEq, reduceLT, reduceLE, spec_l1Own, S_row, S_set, S_upd, *]))
 ·obtain ⟨f1, f2⟩ := hr rfl
  have hbf : InB s f := by unfold InB; omega
  (refine fork_in ?_; repeat' (refine fork_eq (fun _ => ?_) (fun _ => ?_) <;> try simp (disch := first | assumption | omega) only [S0, reduceIte, reduceCtorEq, reduceAdd, reduceEqDiff, Int.reduceBEq, reduceLT, reduceLE, spec_l1Own, S_row, *]))
theorem impl_apply (s : List Int) (k i f t a : Int) (hc : cmdOk ⟨k, i, f, t, a⟩ = true) (hl : (s.length : Int) = 4) (hq : ∀ x ∈ s, 0 ≤ x ∧ x ≤ 100000000) : Fun T 33 [rL s, i64 k, i64 i, i64 f, i64 t, i64 a] = some [i64 (applyM s ⟨k, i, f, t, a⟩).2.code, i64 (applyM s ⟨k, i, f, t, a⟩).2.sum, rL (applyM s ⟨k, i, f, t, a⟩).1] := by
 rw [Fun_k (t := tm33) rfl]; unfold tm33; unfold applyM
 obtain ⟨hk, hm, hr⟩ := cmdOk_acc hc
 simp only at hk hm hr
 rcases hk with rfl | rfl | rfl
 ·(refine fork_in ?_; repeat' (refine fork_eq (fun _ => ?_) (fun _ => ?_) <;> try simp (disch := first | assumption | omega) only [S0, reduceIte, reduceCtorEq, reduceAdd, reduceEqDiff, Int.reduceBEq, reduceLT, reduceLE, *]))
 ·obtain ⟨⟨f1, f2⟩, ⟨t1, t2⟩, hne, a1, a2⟩ := hm rfl
  have hbf : InB s f := by unfold InB; omega
  have hbt : InB s t := by unfold InB; omega
  have hqf := hq _ (at_memI hbf)
  by_cases hlt : atI s f < a
  ·(refine fork_in ?_; repeat' (refine fork_eq (fun _ => ?_) (fun _ => ?_) <;> try simp (disch := first | assumption | omega) only [S0, reduceIte, reduceCtorEq, reduceAdd, reduceEqDiff, Int.reduceBEq, reduceLT, reduceLE, S_row, *]))
  ·have e : atI (setI s f (atI s f - a)) t = atI s t := atI_ne f1 t1 hne
   have hqt := hq _ (at_memI hbt)
   (refine fork_in ?_; repeat' (refine fork_eq (fun _ => ?_) (fun _ => ?_) <;> try simp (disch := first | assumption | omega | (simp only [S_upd]; assumption)) only [S0, reduceIte, reduceCtorEq, reduceAdd, reduceEqDiff, Int.reduceBEq, reduceLT, reduceLE, S_row, S_set, S_upd, *]))
 ·obtain ⟨f1, f2⟩ := hr rfl
  have hbf : InB s f := by unfold InB; omega
  (refine fork_in ?_; repeat' (refine fork_eq (fun _ => ?_) (fun _ => ?_) <;> try simp (disch := first | assumption | omega) only [S0, reduceIte, reduceCtorEq, reduceAdd, reduceEqDiff, Int.reduceBEq, reduceLT, reduceLE, S_row, *]))
theorem spec_l15Serve (sums last : List Int) (told : List TTold) (a_client a_no a_cmd_kind a_cmd_id a_cmd_src a_cmd_dst a_cmd_amt : Int) (ha : askOk ⟨a_client, a_no, ⟨a_cmd_kind, a_cmd_id, a_cmd_src, a_cmd_dst, a_cmd_amt⟩⟩ = true) (h1 : (sums.length : Int) = 4) (h2 : (last.length : Int) = 4) (h3 : (told.length : Int) = 4) (hq : ∀ x ∈ sums, 0 ≤ x ∧ x ≤ 100000000) (hq2 : ∀ x ∈ last, 0 ≤ x ∧ x ≤ 999) :
  Fun T 15 [rL sums, rL last, rL told, i64 a_client, i64 a_no, i64 a_cmd_kind, i64 a_cmd_id, i64 a_cmd_src, i64 a_cmd_dst, i64 a_cmd_amt] = some [rL (serveM ⟨sums, last, told⟩ ⟨a_client, a_no, ⟨a_cmd_kind, a_cmd_id, a_cmd_src, a_cmd_dst, a_cmd_amt⟩⟩).1.sums, rL (serveM ⟨sums, last, told⟩ ⟨a_client, a_no, ⟨a_cmd_kind, a_cmd_id, a_cmd_src, a_cmd_dst, a_cmd_amt⟩⟩).1.last, rL (serveM ⟨sums, last, told⟩ ⟨a_client, a_no, ⟨a_cmd_kind, a_cmd_id, a_cmd_src, a_cmd_dst, a_cmd_amt⟩⟩).1.told, i64 (serveM ⟨sums, last, told⟩ ⟨a_client, a_no, ⟨a_cmd_kind, a_cmd_id, a_cmd_src, a_cmd_dst, a_cmd_amt⟩⟩).2.1.code, i64 (serveM ⟨sums, last, told⟩ ⟨a_client, a_no, ⟨a_cmd_kind, a_cmd_id, a_cmd_src, a_cmd_dst, a_cmd_amt⟩⟩).2.1.sum, i64 (serveM ⟨sums, last, told⟩ ⟨a_client, a_no, ⟨a_cmd_kind, a_cmd_id, a_cmd_src, a_cmd_dst, a_cmd_amt⟩⟩).2.2] := by
 rw [Fun_k (t := tm15) rfl]; unfold tm15; unfold serveM
 obtain ⟨⟨c1, c2⟩, ⟨n1, n2⟩, hc⟩ := askOk_spec ha
 simp only at c1 c2 n1 n2 hc
 have hb1 : InB last a_client := by unfold InB; omega
 have hb2 : InB told a_client := by unfold InB; omega
 have hql := hq2 _ (at_memI hb1)
 have l1 : sums.length ≤ 10000000000 := by omega
 have l2 : last.length ≤ 10000000000 := by omega
 have l3 : told.length ≤ 10000000000 := by omega
 (refine fork_in ?_; repeat' (refine fork_eq (fun _ => ?_) (fun _ => ?_) <;> try simp (disch := first | assumption | omega | (simp only [S_upd]; assumption)) only [S0, reduceIte, reduceCtorEq, reduceAdd, reduceEqDiff, Int.reduceBEq, reduceLT, reduceLE, spec_l15Own, S_row, S_set, S_upd, spec_l11Apply, *]))
theorem impl_Clerk_serve (sums last : List Int) (told : List TTold) (a_client a_no a_cmd_kind a_cmd_id a_cmd_src a_cmd_dst a_cmd_amt : Int) (ha : askOk ⟨a_client, a_no, ⟨a_cmd_kind, a_cmd_id, a_cmd_src, a_cmd_dst, a_cmd_amt⟩⟩ = true) (h1 : (sums.length : Int) = 4) (h2 : (last.length : Int) = 4) (h3 : (told.length : Int) = 4) (hq : ∀ x ∈ sums, 0 ≤ x ∧ x ≤ 100000000) (hq2 : ∀ x ∈ last, 0 ≤ x ∧ x ≤ 999) :
  Fun T 32 [i64 a_client, i64 a_no, i64 a_cmd_kind, i64 a_cmd_id, i64 a_cmd_src, i64 a_cmd_dst, i64 a_cmd_amt, rL sums, rL last, rL told] = some [i64 (serveM ⟨sums, last, told⟩ ⟨a_client, a_no, ⟨a_cmd_kind, a_cmd_id, a_cmd_src, a_cmd_dst, a_cmd_amt⟩⟩).2.1.code, i64 (serveM ⟨sums, last, told⟩ ⟨a_client, a_no, ⟨a_cmd_kind, a_cmd_id, a_cmd_src, a_cmd_dst, a_cmd_amt⟩⟩).2.1.sum, i64 (serveM ⟨sums, last, told⟩ ⟨a_client, a_no, ⟨a_cmd_kind, a_cmd_id, a_cmd_src, a_cmd_dst, a_cmd_amt⟩⟩).2.2, rL (serveM ⟨sums, last, told⟩ ⟨a_client, a_no, ⟨a_cmd_kind, a_cmd_id, a_cmd_src, a_cmd_dst, a_cmd_amt⟩⟩).1.sums, rL (serveM ⟨sums, last, told⟩ ⟨a_client, a_no, ⟨a_cmd_kind, a_cmd_id, a_cmd_src, a_cmd_dst, a_cmd_amt⟩⟩).1.last, rL (serveM ⟨sums, last, told⟩ ⟨a_client, a_no, ⟨a_cmd_kind, a_cmd_id, a_cmd_src, a_cmd_dst, a_cmd_amt⟩⟩).1.told] := by
 rw [Fun_k (t := tm32) rfl]; unfold tm32; unfold serveM
 obtain ⟨⟨c1, c2⟩, ⟨n1, n2⟩, hc⟩ := askOk_spec ha
 simp only at c1 c2 n1 n2 hc
 have hb1 : InB last a_client := by unfold InB; omega
 have hb2 : InB told a_client := by unfold InB; omega
 have hql := hq2 _ (at_memI hb1)
 (refine fork_in ?_; repeat' (refine fork_eq (fun _ => ?_) (fun _ => ?_) <;> try simp (disch := first | assumption | omega | (simp only [S_upd]; assumption)) only [S0, reduceIte, reduceCtorEq, reduceAdd, reduceEqDiff, Int.reduceBEq, reduceLT, reduceLE, S_row, S_set, S_upd, impl_apply, *]))
theorem spec_NewClerk : Fun T 13 [] = some [rL clerk0.sums, rL clerk0.last, rL clerk0.told] := Fun_some.2 ⟨12, by kernel_rfl⟩
theorem impl_NewClerk : Fun T 27 [] = some [rL clerk0.sums, rL clerk0.last, rL clerk0.told] := Fun_some.2 ⟨12, by kernel_rfl⟩
theorem spec_l15Asks (l : List TAsk) (hl : l.length ≤ 10000000000) : Fun T 6 [rL l] = some [.bool (asksOk l)] := by
 rw [Fun_k (t := tm6) rfl]; unfold tm6; unfold asksOk
 simp (disch := first | assumption | omega) only [S0, reduceIte, reduceCtorEq, reduceAdd, reduceEqDiff, Int.reduceBEq, reduceLT, reduceLE]
 rw [allF 1 l askOk [.bool false]]
 ·(refine fork_in ?_; repeat' (refine fork_eq (fun _ => ?_) (fun _ => ?_) <;> try simp (disch := first | assumption | omega) only [S0, reduceIte, reduceCtorEq, reduceAdd, reduceEqDiff, Int.reduceBEq, reduceLT, reduceLE, *]))
 ·intro i hi hb hlt hm
  (refine fork_in ?_; repeat' (refine fork_eq (fun _ => ?_) (fun _ => ?_) <;> try simp (disch := first | assumption | omega) only [S0, reduceIte, reduceCtorEq, reduceAdd, reduceEqDiff, Int.reduceBEq, reduceLT, reduceLE, S_row, spec_l15Ask, *]))
 ·intro hlt
  (refine fork_in ?_; repeat' (refine fork_eq (fun _ => ?_) (fun _ => ?_) <;> try simp (disch := first | assumption | omega) only [S0, reduceIte, reduceCtorEq, reduceAdd, reduceEqDiff, Int.reduceBEq, reduceLT, reduceLE, *]))
theorem impl_PlayAsks_1 (a_client a_no a_cmd_kind a_cmd_id a_cmd_src a_cmd_dst a_cmd_amt : Int) : Fun T 22 [i64 a_client, i64 a_no, i64 a_cmd_kind, i64 a_cmd_id, i64 a_cmd_src, i64 a_cmd_dst, i64 a_cmd_amt] = some [.bool (!askOk ⟨a_client, a_no, ⟨a_cmd_kind, a_cmd_id, a_cmd_src, a_cmd_dst, a_cmd_amt⟩⟩)] := by
 rw [Fun_k (t := tm22) rfl]; unfold tm22
 (refine fork_in ?_; repeat' (refine fork_eq (fun _ => ?_) (fun _ => ?_) <;> try simp (disch := first | assumption | omega) only [S0, reduceIte, reduceCtorEq, reduceAdd, reduceEqDiff, Int.reduceBEq, reduceLT, reduceLE, impl_goodAsk, *]))
theorem ix_PlayAsks_1  (xs : List TAsk) (hx : xs.length ≤ 1099511627776) : Fun T 21 [rL xs] = some [i64 (ixF (fun x => !askOk x) xs)] := by
 rw [Fun_k (t := tm21) rfl]; unfold tm21
 simp (disch := first | assumption | omega) only [S0, reduceIte, reduceCtorEq, reduceAdd, reduceEqDiff, Int.reduceBEq, reduceLT, reduceLE, S_row, *]
 rw [findX 1 xs (fun x => !askOk x) (fun i => [i64 i])]
 ·cases h : xs.any (fun x => !askOk x)
  ·have e : ixF (fun x => !askOk x) xs = -1 := by
    have h2 := ixF_any (fun x => !askOk x) xs
    rw [h] at h2
    unfold ixF at h2 ⊢
    split at h2 <;> simp_all
   rw [e]; simp (disch := first | assumption | omega) only [S0, reduceIte, reduceCtorEq, reduceAdd, reduceEqDiff, Int.reduceBEq, reduceLT, reduceLE]
  ·simp (disch := first | assumption | omega) only [S0, reduceIte, reduceCtorEq, reduceAdd, reduceEqDiff, Int.reduceBEq, reduceLT, reduceLE]
 ·intro i hi hb hl hp
  (refine fork_in ?_; repeat' (refine fork_eq (fun _ => ?_) (fun _ => ?_) <;> try simp (disch := first | assumption | omega) only [S0, reduceIte, reduceCtorEq, reduceAdd, reduceEqDiff, Int.reduceBEq, reduceLT, reduceLE, S_row, impl_PlayAsks_1, *]))
 ·intro i hi hb hl hp
  (refine fork_in ?_; repeat' (refine fork_eq (fun _ => ?_) (fun _ => ?_) <;> try simp (disch := first | assumption | omega) only [S0, reduceIte, reduceCtorEq, reduceAdd, reduceEqDiff, Int.reduceBEq, reduceLT, reduceLE, S_row, impl_PlayAsks_1, *]))
 ·intro hl
  (refine fork_in ?_; repeat' (refine fork_eq (fun _ => ?_) (fun _ => ?_) <;> try simp (disch := first | assumption | omega) only [S0, reduceIte, reduceCtorEq, reduceAdd, reduceEqDiff, Int.reduceBEq, reduceLT, reduceLE, *]))
theorem ct_PlayAsks_1  (xs : List TAsk) (hx : xs.length ≤ 1099511627776) : Fun T 20 [rL xs] = some [.bool (xs.any (fun x => !askOk x))] := by
 rw [Fun_k (t := tm20) rfl]; unfold tm20
 (refine fork_in ?_; repeat' (refine fork_eq (fun _ => ?_) (fun _ => ?_) <;> try simp (disch := first | assumption | omega) only [S0, reduceIte, reduceCtorEq, reduceAdd, reduceEqDiff, Int.reduceBEq, reduceLT, reduceLE, ix_PlayAsks_1, ixF_any, *]))
theorem spec_l15Play (l : List TAsk) (hq : ∀ a ∈ l, askOk a = true) (hl : l.length ≤ 60) : Fun T 12 [rL l] = some [rL (playN l l.length).c.sums, rL (playN l l.length).c.last, rL (playN l l.length).c.told, rL (playN l l.length).told, rL (playN l l.length).codes] := by
 rw [Fun_k (t := tm12) rfl]; unfold tm12
 simp (disch := first | assumption | omega) only [S0, reduceIte, reduceCtorEq, reduceAdd, reduceEqDiff, Int.reduceBEq, reduceLT, reduceLE, spec_NewClerk]
 rw [loopN l.length (fun i => [rL (playN l i).told, rL (playN l i).codes, i64 i, rL (playN l i).c.sums, rL (playN l i).c.last, rL (playN l i).c.told]) (.yield 1, [rL (playN l l.length).told, rL (playN l l.length).codes, rL (playN l l.length).c.sums, rL (playN l l.length).c.last, rL (playN l l.length).c.told]) rfl (by simp)]
 ·simp (disch := first | assumption | omega) only [S0, reduceIte, reduceCtorEq, reduceAdd, reduceEqDiff, Int.reduceBEq, reduceLT, reduceLE]
 ·intro i hi hlt
  have hb : InB l (i : Int) := InB_nat.2 hi
  have ha := hq _ (at_mem hi)
  obtain ⟨h1, h2, h3, h4, h5⟩ := playN_inv hq i (by omega)
  have h4' : ∀ x ∈ (playN l i).c.sums, 0 ≤ x ∧ x ≤ 100000000 := fun x hx => by have := h4 x hx; omega
  have e : playN l (i + 1) = ⟨(serveM (playN l i).c (atI l (i : Int))).1, (playN l i).told ++ [(serveM (playN l i).c (atI l (i : Int))).2.1], (playN l i).codes ++ [(serveM (playN l i).c (atI l (i : Int))).2.2]⟩ := rfl
  obtain ⟨k1, k2⟩ := playN_len l i
  have z1 : (playN l i).told.length + ([(serveM (playN l i).c (atI l (i : Int))).2.1] : List TTold).length ≤ 100000000000 := by simp only [List.length_cons, List.length_nil]; omega
  have z2 : (playN l i).codes.length + ([(serveM (playN l i).c (atI l (i : Int))).2.2] : List Int).length ≤ 100000000000 := by simp only [List.length_cons, List.length_nil]; omega
  simp (disch := first | assumption | omega) only [S0, reduceIte, reduceCtorEq, reduceAdd, reduceEqDiff, Int.reduceBEq, reduceLT, reduceLE, S_row, spec_l15Serve, S_mk, S_app, hlt, e]
 ·intro hlt
  simp (disch := first | assumption | omega) only [S0, reduceIte, reduceCtorEq, reduceAdd, reduceEqDiff, Int.reduceBEq, reduceLT, reduceLE, hlt]
theorem spec_PlayAsks (l : List TAsk) (hl : l.length ≤ 10000000000) : Fun T 5 [rL l] = some [rL (playR l).1.c.sums, rL (playR l).1.c.last, rL (playR l).1.c.told, rL (playR l).1.told, rL (playR l).1.codes, .bool (playR l).2] := by
 rw [Fun_k (t := tm5) rfl]; unfold tm5; unfold playR
 cases h : asksOk l
 ·simp (disch := first | assumption | omega) only [S0, reduceIte, reduceCtorEq, reduceAdd, reduceEqDiff, Int.reduceBEq, reduceLT, reduceLE, spec_l15Asks, h, S_nil]
 ·obtain ⟨h1, h2⟩ := asksOk_spec h
  simp (disch := first | assumption | omega) only [S0, reduceIte, reduceCtorEq, reduceAdd, reduceEqDiff, Int.reduceBEq, reduceLT, reduceLE, spec_l15Asks, spec_l15Play, h]
theorem impl_PlayAsks (l : List TAsk) (hl : l.length ≤ 10000000000) : Fun T 19 [rL l] = some [rL (playR l).1.c.sums, rL (playR l).1.c.last, rL (playR l).1.c.told, rL (playR l).1.told, rL (playR l).1.codes, .bool (playR l).2] := by
 rw [Fun_k (t := tm19) rfl]; unfold tm19; unfold playR
 have hl' : l.length ≤ 1099511627776 := by omega
 have e : asksOk l = (!decide (60 < (l.length : Int)) && !l.any fun x => !askOk x) := by
  unfold asksOk
  rw [List.not_any_eq_all_not]
  simp only [Bool.not_not]
  rw [Bool.and_comm]
  congr 1
  by_cases hk : (60 : Int) < l.length
  ·rw [decide_eq_true hk, decide_eq_false (by omega)]; rfl
  ·rw [decide_eq_false hk, decide_eq_true (by omega)]; rfl
 cases h : asksOk l
 ·rw [e] at h
  cases c1 : decide (60 < (l.length : Int))
  ·rw [c1] at h
   simp only [Bool.not_false, Bool.true_and, Bool.not_eq_false'] at h
   simp (disch := first | assumption | omega) only [S0, reduceIte, reduceCtorEq, reduceAdd, reduceEqDiff, Int.reduceBEq, reduceLT, reduceLE, ct_PlayAsks_1, c1, h, S_nil, Bool.false_eq_true]
  ·simp (disch := first | assumption | omega) only [S0, reduceIte, reduceCtorEq, reduceAdd, reduceEqDiff, Int.reduceBEq, reduceLT, reduceLE, ct_PlayAsks_1, c1, S_nil]
 ·obtain ⟨h1, h2⟩ := asksOk_spec h
  rw [e] at h
  simp only [Bool.and_eq_true, Bool.not_eq_true'] at h
  obtain ⟨c1, c2⟩ := h
  have z0 : (Prim.mk 2 0).run [] = some [rL ([] : List TTold)] := rfl
  have z00 : (Prim.mk 1 0).run [] = some [rL ([] : List Int)] := rfl
  simp (disch := first | assumption | omega) only [S0, reduceIte, reduceCtorEq, reduceAdd, reduceEqDiff, Int.reduceBEq, reduceLT, reduceLE, ct_PlayAsks_1, c1, c2, impl_NewClerk, z0, z00, Bool.false_eq_true]
  rw [loopN l.length (fun i => [rL (playN l i).told, rL (playN l i).codes, i64 i, rL (playN l i).c.sums, rL (playN l i).c.last, rL (playN l i).c.told]) (.yield 1, [rL (playN l l.length).told, rL (playN l l.length).codes, rL (playN l l.length).c.sums, rL (playN l l.length).c.last, rL (playN l l.length).c.told]) rfl (by simp)]
  ·simp (disch := first | assumption | omega) only [S0, reduceIte, reduceCtorEq, reduceAdd, reduceEqDiff, Int.reduceBEq, reduceLT, reduceLE]
  ·intro i hi hlt
   have hb : InB l (i : Int) := InB_nat.2 hi
   have ha := h1 _ (at_mem hi)
   obtain ⟨h1, h2, h3, h4, h5⟩ := playN_inv h1 i (by omega)
   have h4' : ∀ x ∈ (playN l i).c.sums, 0 ≤ x ∧ x ≤ 100000000 := fun x hx => by have := h4 x hx; omega
   have e : playN l (i + 1) = ⟨(serveM (playN l i).c (atI l (i : Int))).1, (playN l i).told ++ [(serveM (playN l i).c (atI l (i : Int))).2.1], (playN l i).codes ++ [(serveM (playN l i).c (atI l (i : Int))).2.2]⟩ := rfl
   obtain ⟨k1, k2⟩ := playN_len l i
   have z1 : (playN l i).told.length + ([(serveM (playN l i).c (atI l (i : Int))).2.1] : List TTold).length ≤ 100000000000 := by simp only [List.length_cons, List.length_nil]; omega
   have z2 : (playN l i).codes.length + ([(serveM (playN l i).c (atI l (i : Int))).2.2] : List Int).length ≤ 100000000000 := by simp only [List.length_cons, List.length_nil]; omega
   simp (disch := first | assumption | omega) only [S0, reduceIte, reduceCtorEq, reduceAdd, reduceEqDiff, Int.reduceBEq, reduceLT, reduceLE, S_row, impl_Clerk_serve, S_mk, S_app, hlt, e]
  ·intro hlt
   simp (disch := first | assumption | omega) only [S0, reduceIte, reduceCtorEq, reduceAdd, reduceEqDiff, Int.reduceBEq, reduceLT, reduceLE, hlt]
theorem law (l : (List TAsk)) (hw_l : l.length ≤ 140737488351232) : Fun T 0 [rL l] = some [.bool true] := by
 rw [Fun_k (t := tm0) rfl]; unfold tm0
 by_cases c_l : ((szL (fun _ => 0) l : Nat) : Int) ≤ 1048576
 rotate_left
 ·have e : szR (1048576) (szL (fun _ => 0) l) = -1 := if_neg c_l
  (refine fork_in ?_; repeat' (refine fork_eq (fun _ => ?_) (fun _ => ?_) <;> try simp (disch := first | assumption | omega) only [S0, reduceIte, reduceCtorEq, reduceAdd, reduceEqDiff, Int.reduceBEq, reduceLT, reduceLE, lsz_LTAsk, lt0, ltm1, *]))
 have e_l : szR (1048576) (szL (fun _ => 0) l) = 1048576 - ((szL (fun _ => 0) l : Nat) : Int) := if_pos c_l
 have s1_l : szL (fun _ => 0) l ≤ 1048576 := by omega
 have s2_l : szL (fun _ => 0) l ≤ 1099511627776 := by omega
 have m1_l : l.length ≤ 1099511627776 := by first | omega | (have h := s2_l; rw [szL_zero] at h; exact h)
 have m2_l : ctL ct_TAsk l ≤ 1125899906842624 := by have := ctL_le (c := ct_TAsk) (f := (fun _ => 0)) (m := 16) (by omega) ctb_TAsk l; simp only [szL_zero] at *; omega
 have hl := playR_len l
 have r1 : sz_TClerk (playR l).1.c ≤ 1099511627776 := by rw [szu_TClerk]; omega
 have r2 : ctL (fun _ => 1) (playR l).1.c.sums ≤ 1125899906842624 := by rw [ctL_one]; omega
 have r3 : ctL (fun _ => 1) (playR l).1.c.last ≤ 1125899906842624 := by rw [ctL_one]; omega
 have r4 : ctL ct_TTold (playR l).1.c.told ≤ 1125899906842624 := by
  have := ctL_le (c := ct_TTold) (f := fun _ => 0) (m := 16) (by omega) ctb_TTold (playR l).1.c.told
  rw [szL_zero] at this
  omega
 have r5 : ctL ct_TTold (playR l).1.told ≤ 1125899906842624 := by
  have := ctL_le (c := ct_TTold) (f := fun _ => 0) (m := 16) (by omega) ctb_TTold (playR l).1.told
  rw [szL_zero] at this
  omega
 have r6 : ctL (fun _ => 1) (playR l).1.codes ≤ 1125899906842624 := by rw [ctL_one]; omega
 have r7 : szL (fun _ => 0) (playR l).1.told ≤ 1099511627776 := by rw [szL_zero]; omega
 have r8 : szL (fun _ => 0) (playR l).1.codes ≤ 1099511627776 := by rw [szL_zero]; omega
 have hL : l.length ≤ 1048576 := by have h := s1_l; rw [szL_zero] at h; exact h
 (refine fork_in ?_; repeat' (refine fork_eq (fun _ => ?_) (fun _ => ?_) <;> try simp (disch := first | assumption | omega) only [S0, reduceIte, reduceCtorEq, reduceAdd, reduceEqDiff, Int.reduceBEq, reduceLT, reduceLE, lsz_LTAsk, lto_LTAsk, spec_PlayAsks, impl_PlayAsks, leq_TClerk, leq_LTTold, leq_LI, leq_LTAsk, lmk_LTAsk, lmk_TClerk, lmk_LTTold, lmk_LI, lhd_TClerk, lhd_LTTold, lhd_LI, lt0, ltm1, *]))
theorem dec_LTAsk (ds : List D) (h : WTs [.sl 56 [.int .i64, .int .i64, .int .i64, .int .i64, .int .i64, .int .i64, .int .i64]] ds) : ∃ x : (List TAsk), ds = Enc.enc x ∧ x.length ≤ 140737488351232 := by
 simp only [WTs] at h
 obtain ⟨d, r, rfl, w, rfl⟩ := h
 obtain ⟨x, rfl, l, p⟩ := WT_rL (α := TAsk) (P := fun y => True) rfl dec_TAsk w
 exact ⟨x, rfl, reach_len l (by decide)⟩
theorem hpure : ∀ ds, WTs [.sl 56 [.int .i64, .int .i64, .int .i64, .int .i64, .int .i64, .int .i64, .int .i64]] ds → ∃ n, callN T n 0 ds = some [.bool true] := by
 intro ds h
 simp only [WTs] at h
 obtain ⟨d0, r0, rfl, w0, rfl⟩ := h
 obtain ⟨l, e_l, hw_l⟩ := dec_LTAsk [d0] (by simp only [WTs]; exact ⟨_, _, rfl, w0, rfl⟩)
 simp only [Enc.enc, List.cons.injEq, and_true] at e_l
 subst e_l
 exact pure_of (law l hw_l)
end FnExactPlayAsks
end Go.Proofs.Ytjoebpmeeampfaa
