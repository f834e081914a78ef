/- What the terms of FnExactGraphOf come to. -/
import Derived.Test.YtmpakpgonfnadaaFnExactGraphOfTab
namespace Go.Proofs.Ytmpakpgonfnadaa
namespace FnExactGraphOf
open Go Go.Proofs.Ytmpakpgonfnadaa.Rf
open Nat (reduceAdd reduceEqDiff)
open Int (reduceLT reduceLE)
set_option linter.unusedSimpArgs false
set_option linter.unusedVariables false
set_option linter.unnecessarySimpa false
set_option maxHeartbeats 4000000
set_option maxRecDepth 10000
theorem lto_TCmd (x_kind x_id x_src x_dst x_amt : Int) : Fun T 11 [i64 x_kind, i64 x_id, i64 x_src, i64 x_dst, i64 x_amt] = some [i64 x_kind, i64 x_id, i64 x_src, i64 x_dst, i64 x_amt] := by
 rw [Fun_k (t := tm11) rfl]; unfold tm11
 (refine fork_in ?_; repeat' (refine fork_eq (fun _ => ?_) (fun _ => ?_) <;> try simp (disch := first | assumption | omega) only [S0, reduceIte, reduceCtorEq, reduceAdd, reduceEqDiff, Int.reduceBEq, reduceLT, reduceLE, *]))
theorem leq_TCmd (x_kind x_id x_src x_dst x_amt : Int) (y_kind y_id y_src y_dst y_amt : Int) : Fun T 70 [i64 x_kind, i64 x_id, i64 x_src, i64 x_dst, i64 x_amt, i64 y_kind, i64 y_id, i64 y_src, i64 y_dst, i64 y_amt] = some [.bool (decide ((⟨x_kind, x_id, x_src, x_dst, x_amt⟩ : TCmd) = ⟨y_kind, y_id, y_src, y_dst, y_amt⟩))] := by
 rw [Fun_k (t := tm70) rfl]; unfold tm70
 have e : decide ((⟨x_kind, x_id, x_src, x_dst, x_amt⟩ : TCmd) = ⟨y_kind, y_id, y_src, y_dst, y_amt⟩) = ((x_kind == y_kind) && (x_id == y_id) && (x_src == y_src) && (x_dst == y_dst) && (x_amt == y_amt)) := by
  simp only [TCmd.mk.injEq, Bool.beq_eq_decide_eq, Bool.decide_and, Bool.and_assoc]
 rw [e]
 (refine fork_in ?_; repeat' (refine fork_eq (fun _ => ?_) (fun _ => ?_) <;> try simp (disch := first | assumption | omega) only [S0, reduceIte, reduceCtorEq, reduceAdd, reduceEqDiff, Int.reduceBEq, reduceLT, reduceLE, *]))
theorem lsz_LI (xs : (List Int)) (l : Int) (h0 : 0 ≤ l) (h1 : l ≤ 1048576) (hw : xs.length ≤ 140737488351232) : Fun T 6 [rL xs, i64 l] = some [i64 (szR l (szL (fun _ => 0) xs))] := by
 rw [Fun_k (t := tm6) rfl]; unfold tm6
 have es : szL (fun _ => 0) xs = xs.length := szL_zero
 rw [es]
 by_cases c : (xs.length : Int) ≤ l
 ·have e : szR l xs.length = l - xs.length := if_pos c
  have d : decide (l - (xs.length : Int) < 0) = false := by simp; omega
  (refine fork_in ?_; repeat' (refine fork_eq (fun _ => ?_) (fun _ => ?_) <;> try simp (disch := first | assumption | omega) only [S0, reduceIte, reduceCtorEq, reduceAdd, reduceEqDiff, Int.reduceBEq, reduceLT, reduceLE, *]))
 ·have e : szR l xs.length = -1 := if_neg c
  have d : decide (l - (xs.length : Int) < 0) = true := by simp; omega
  (refine fork_in ?_; repeat' (refine fork_eq (fun _ => ?_) (fun _ => ?_) <;> try simp (disch := first | assumption | omega) only [S0, reduceIte, reduceCtorEq, reduceAdd, reduceEqDiff, Int.reduceBEq, reduceLT, reduceLE, *]))
theorem lto_LI (xs : (List Int)) (hs : szL (fun _ => 0) xs ≤ 1048576) : Fun T 13 [rL xs] = some [rL xs] := by
 rw [Fun_k (t := tm13) rfl]; unfold tm13
 have hl : xs.length ≤ 1048576 := Nat.le_trans szL_len hs
 simp (disch := first | assumption | omega) only [S0, reduceIte, reduceCtorEq, reduceAdd, reduceEqDiff, Int.reduceBEq, reduceLT, reduceLE, S_make, Int.toNat_natCast, *]
 rw [toLoop xs rfl]
 ·(refine fork_in ?_; repeat' (refine fork_eq (fun _ => ?_) (fun _ => ?_) <;> try simp (disch := first | assumption | omega) only [S0, reduceIte, reduceCtorEq, reduceAdd, reduceEqDiff, Int.reduceBEq, reduceLT, reduceLE, *]))
 ·intro i ys hi hb hb' hl'
  (refine fork_in ?_; repeat' (refine fork_eq (fun _ => ?_) (fun _ => ?_) <;> try simp (disch := first | assumption | omega) only [S0, reduceIte, reduceCtorEq, reduceAdd, reduceEqDiff, Int.reduceBEq, reduceLT, reduceLE, S_row, S_set, *]))
 ·intro ys hl'
  (refine fork_in ?_; repeat' (refine fork_eq (fun _ => ?_) (fun _ => ?_) <;> try simp (disch := first | assumption | omega) only [S0, reduceIte, reduceCtorEq, reduceAdd, reduceEqDiff, Int.reduceBEq, reduceLT, reduceLE, *]))
theorem leq_LI (xs ys : (List Int)) (hs : szL (fun _ => 0) xs ≤ 1099511627776) : Fun T 65 [rL xs, rL ys] = some [.bool (decide (xs = ys))] := by
 rw [Fun_k (t := tm65) rfl]; unfold tm65
 have hx : xs.length ≤ 1099511627776 := Nat.le_trans szL_len hs
 by_cases hl : ys.length = xs.length
 ·simp (disch := first | assumption | omega) only [S0, reduceIte, reduceCtorEq, reduceAdd, reduceEqDiff, Int.reduceBEq, reduceLT, reduceLE, *]
  rw [scanX 1 xs.length (fun i => decide (atI xs i = atI ys i)) [.bool false], allB_eq hl.symm]
  ·(refine fork_in ?_; repeat' (refine fork_eq (fun _ => ?_) (fun _ => ?_) <;> try simp (disch := first | assumption | omega) only [S0, reduceIte, reduceCtorEq, reduceAdd, reduceEqDiff, Int.reduceBEq, reduceLT, reduceLE, *]))
  ·intro i hi hp
   have hb : InB xs (i : Int) := InB_nat.2 hi
   have hb' : InB ys (i : Int) := InB_nat.2 (by omega)
   have h2 : decide ((i : Int) < xs.length) = true := by simp; omega
   have h3 : (atI xs i == atI ys i) = true := by simpa using hp
   (refine fork_in ?_; repeat' (refine fork_eq (fun _ => ?_) (fun _ => ?_) <;> try simp (disch := first | assumption | omega) only [S0, reduceIte, reduceCtorEq, reduceAdd, reduceEqDiff, Int.reduceBEq, reduceLT, reduceLE, S_row, *]))
  ·intro i hi hp
   have hb : InB xs (i : Int) := InB_nat.2 hi
   have hb' : InB ys (i : Int) := InB_nat.2 (by omega)
   have h2 : decide ((i : Int) < xs.length) = true := by simp; omega
   have h3 : (atI xs i == atI ys i) = false := by simpa using hp
   (refine fork_in ?_; repeat' (refine fork_eq (fun _ => ?_) (fun _ => ?_) <;> try simp (disch := first | assumption | omega) only [S0, reduceIte, reduceCtorEq, reduceAdd, reduceEqDiff, Int.reduceBEq, reduceLT, reduceLE, S_row, *]))
  ·have h2 : decide ((xs.length : Int) < xs.length) = false := by simp
   (refine fork_in ?_; repeat' (refine fork_eq (fun _ => ?_) (fun _ => ?_) <;> try simp (disch := first | assumption | omega) only [S0, reduceIte, reduceCtorEq, reduceAdd, reduceEqDiff, Int.reduceBEq, reduceLT, reduceLE, *]))
 ·have hl' : ((xs.length : Int) == (ys.length : Int)) = false := by simp; omega
  have e := eq_len (fun h => hl h.symm)
  (refine fork_in ?_; repeat' (refine fork_eq (fun _ => ?_) (fun _ => ?_) <;> try simp (disch := first | assumption | omega) only [S0, reduceIte, reduceCtorEq, reduceAdd, reduceEqDiff, Int.reduceBEq, reduceLT, reduceLE, *]))
theorem lmk_LI (xs : (List Int)) (k : Int) (hk : 0 ≤ k) (hb : k + (ctL (fun _ => 1) xs : Nat) ≤ 1152921504606846976) (hl : xs.length ≤ 1099511627776) : Fun T 75 [rL xs, i64 k] = some [i64 (k + (ctL (fun _ => 1) xs : Nat)), rL (mkL (fun _ => 1) (fun _ k => k) xs k)] := by
 rw [Fun_k (t := tm75) rfl]; unfold tm75
 have hx : xs.length ≤ 1099511627776 := hl
 simp (disch := first | assumption | omega) only [S0, reduceIte, reduceCtorEq, reduceAdd, reduceEqDiff, Int.reduceBEq, reduceLT, reduceLE, *]
 rw [markLoop xs (fun _ => 1) (fun _ k => k) k rfl rfl rfl hk hb ?_ ?_ (by omega)]
 ·(refine fork_in ?_; repeat' (refine fork_eq (fun _ => ?_) (fun _ => ?_) <;> try simp (disch := first | assumption | omega) only [S0, reduceIte, reduceCtorEq, reduceAdd, reduceEqDiff, Int.reduceBEq, reduceLT, reduceLE, *]))
 ·intro i ys m hi hy hb hlt hat hm hc hlen
  have hc' : m + 1 ≤ 1152921504606846976 := hc
  (refine fork_in ?_; repeat' (refine fork_eq (fun _ => ?_) (fun _ => ?_) <;> try simp (disch := first | assumption | omega | (simp only [S_upd]; assumption)) only [S0, reduceIte, reduceCtorEq, reduceAdd, reduceEqDiff, Int.reduceBEq, reduceLT, reduceLE, S_row, S_set, S_upd, *]))
  rfl
 ·intro ys m hy hlt
  (refine fork_in ?_; repeat' (refine fork_eq (fun _ => ?_) (fun _ => ?_) <;> try simp (disch := first | assumption | omega) only [S0, reduceIte, reduceCtorEq, reduceAdd, reduceEqDiff, Int.reduceBEq, reduceLT, reduceLE, *]))
theorem lhd_LI (xs : (List Int)) (k : Int) (hk : 0 ≤ k) (hb : k + (ctL (fun _ => 1) xs : Nat) ≤ 1152921504606846976) (hl : xs.length ≤ 1099511627776) : Fun T 78 [rL (mkL (fun _ => 1) (fun _ k => k) xs k), i64 k] = some [i64 (k + (ctL (fun _ => 1) xs : Nat))] := by
 rw [Fun_k (t := tm78) rfl]; unfold tm78
 have hx : xs.length ≤ 1099511627776 := hl
 simp (disch := first | assumption | omega) only [S0, reduceIte, reduceCtorEq, reduceAdd, reduceEqDiff, Int.reduceBEq, reduceLT, reduceLE, *]
 rw [heldLoop xs (fun _ => 1) (fun _ k => k) k rfl hk hb (by omega)]
 ·(refine fork_in ?_; repeat' (refine fork_eq (fun _ => ?_) (fun _ => ?_) <;> try simp (disch := first | assumption | omega) only [S0, reduceIte, reduceCtorEq, reduceAdd, reduceEqDiff, Int.reduceBEq, reduceLT, reduceLE, *]))
 ·intro i m hi hb hy hlt hat hm hc hlen
  have hc' : m + 1 ≤ 1152921504606846976 := hc
  (refine fork_in ?_; repeat' (refine fork_eq (fun _ => ?_) (fun _ => ?_) <;> try simp (disch := first | assumption | omega) only [S0, reduceIte, reduceCtorEq, reduceAdd, reduceEqDiff, Int.reduceBEq, reduceLT, reduceLE, S_row, *]))
  rfl
 ·intro m hy hlt
  (refine fork_in ?_; repeat' (refine fork_eq (fun _ => ?_) (fun _ => ?_) <;> try simp (disch := first | assumption | omega) only [S0, reduceIte, reduceCtorEq, reduceAdd, reduceEqDiff, Int.reduceBEq, reduceLT, reduceLE, *]))
theorem lsz_TAttr (x_seq : Int) (x_deps : (List Int)) (l : Int) (h0 : 0 ≤ l) (h1 : l ≤ 1048576) (hw : wf_TAttr ⟨x_seq, x_deps⟩) : Fun T 5 [i64 x_seq, rL x_deps, i64 l] = some [i64 (szR l (sz_TAttr ⟨x_seq, x_deps⟩))] := by
 rw [Fun_k (t := tm5) rfl]; unfold tm5
 unfold wf_TAttr at hw
 simp only at hw
 have w0 := hw
 by_cases c0 : ((szL (fun _ => 0) x_deps : Nat) : Int) ≤ l
 rotate_left
 ·have e0 : szR (l) (szL (fun _ => 0) x_deps) = -1 := if_neg c0
  have d0 : decide ((-1 : Int) < 0) = true := rfl
  have e : szR l (sz_TAttr ⟨x_seq, x_deps⟩) = -1 := by unfold szR sz_TAttr; simp only []; split <;> omega
  (refine fork_in ?_; repeat' (refine fork_eq (fun _ => ?_) (fun _ => ?_) <;> try simp (disch := first | assumption | omega) only [S0, reduceIte, reduceCtorEq, reduceAdd, reduceEqDiff, Int.reduceBEq, reduceLT, reduceLE, lsz_LI, *]))
 have e0 : szR (l) (szL (fun _ => 0) x_deps) = l - (szL (fun _ => 0) x_deps : Nat) := if_pos c0
 have d0 : decide (l - ((szL (fun _ => 0) x_deps : Nat) : Int) < 0) = false := by simp; omega
 have e : szR l (sz_TAttr ⟨x_seq, x_deps⟩) = l - ((szL (fun _ => 0) x_deps : Nat) : Int) := by unfold szR sz_TAttr; simp only []; split <;> omega
 (refine fork_in ?_; repeat' (refine fork_eq (fun _ => ?_) (fun _ => ?_) <;> try simp (disch := first | assumption | omega) only [S0, reduceIte, reduceCtorEq, reduceAdd, reduceEqDiff, Int.reduceBEq, reduceLT, reduceLE, lsz_LI, *]))
theorem lto_TAttr (x_seq : Int) (x_deps : (List Int)) (hs : sz_TAttr ⟨x_seq, x_deps⟩ ≤ 1048576) : Fun T 12 [i64 x_seq, rL x_deps] = some [i64 x_seq, rL x_deps] := by
 rw [Fun_k (t := tm12) rfl]; unfold tm12
 unfold sz_TAttr at hs
 simp only at hs
 have s0 : szL (fun _ => 0) x_deps ≤ 1048576 := by omega
 (refine fork_in ?_; repeat' (refine fork_eq (fun _ => ?_) (fun _ => ?_) <;> try simp (disch := first | assumption | omega) only [S0, reduceIte, reduceCtorEq, reduceAdd, reduceEqDiff, Int.reduceBEq, reduceLT, reduceLE, lto_LI, *]))
theorem leq_TAttr (x_seq : Int) (x_deps : (List Int)) (y_seq : Int) (y_deps : (List Int)) (hs : sz_TAttr ⟨x_seq, x_deps⟩ ≤ 1099511627776) : Fun T 71 [i64 x_seq, rL x_deps, i64 y_seq, rL y_deps] = some [.bool (decide ((⟨x_seq, x_deps⟩ : TAttr) = ⟨y_seq, y_deps⟩))] := by
 rw [Fun_k (t := tm71) rfl]; unfold tm71
 unfold sz_TAttr at hs
 simp only at hs
 have s0 : szL (fun _ => 0) x_deps ≤ 1099511627776 := by omega
 have e : decide ((⟨x_seq, x_deps⟩ : TAttr) = ⟨y_seq, y_deps⟩) = ((x_seq == y_seq) && decide ((x_deps : (List Int)) = y_deps)) := by
  simp only [TAttr.mk.injEq, Bool.beq_eq_decide_eq, Bool.decide_and, Bool.and_assoc]
 rw [e]
 (refine fork_in ?_; repeat' (refine fork_eq (fun _ => ?_) (fun _ => ?_) <;> try simp (disch := first | assumption | omega) only [S0, reduceIte, reduceCtorEq, reduceAdd, reduceEqDiff, Int.reduceBEq, reduceLT, reduceLE, leq_LI, *]))
theorem lsz_TRow (x_ballot x_vote x_state x_cmd_kind x_cmd_id x_cmd_src x_cmd_dst x_cmd_amt x_attr_seq : Int) (x_attr_deps : (List Int)) (l : Int) (h0 : 0 ≤ l) (h1 : l ≤ 1048576) (hw : wf_TRow ⟨x_ballot, x_vote, x_state, ⟨x_cmd_kind, x_cmd_id, x_cmd_src, x_cmd_dst, x_cmd_amt⟩, ⟨x_attr_seq, x_attr_deps⟩⟩) : Fun T 4 [i64 x_ballot, i64 x_vote, i64 x_state, i64 x_cmd_kind, i64 x_cmd_id, i64 x_cmd_src, i64 x_cmd_dst, i64 x_cmd_amt, i64 x_attr_seq, rL x_attr_deps, i64 l] = some [i64 (szR l (sz_TRow ⟨x_ballot, x_vote, x_state, ⟨x_cmd_kind, x_cmd_id, x_cmd_src, x_cmd_dst, x_cmd_amt⟩, ⟨x_attr_seq, x_attr_deps⟩⟩))] := by
 rw [Fun_k (t := tm4) rfl]; unfold tm4
 unfold wf_TRow at hw
 simp only at hw
 have w0 := hw
 by_cases c0 : ((sz_TAttr ⟨x_attr_seq, x_attr_deps⟩ : Nat) : Int) ≤ l
 rotate_left
 ·have e0 : szR (l) (sz_TAttr ⟨x_attr_seq, x_attr_deps⟩) = -1 := if_neg c0
  have d0 : decide ((-1 : Int) < 0) = true := rfl
  have e : szR l (sz_TRow ⟨x_ballot, x_vote, x_state, ⟨x_cmd_kind, x_cmd_id, x_cmd_src, x_cmd_dst, x_cmd_amt⟩, ⟨x_attr_seq, x_attr_deps⟩⟩) = -1 := by unfold szR sz_TRow; simp only []; split <;> omega
  (refine fork_in ?_; repeat' (refine fork_eq (fun _ => ?_) (fun _ => ?_) <;> try simp (disch := first | assumption | omega) only [S0, reduceIte, reduceCtorEq, reduceAdd, reduceEqDiff, Int.reduceBEq, reduceLT, reduceLE, lsz_TAttr, *]))
 have e0 : szR (l) (sz_TAttr ⟨x_attr_seq, x_attr_deps⟩) = l - (sz_TAttr ⟨x_attr_seq, x_attr_deps⟩ : Nat) := if_pos c0
 have d0 : decide (l - ((sz_TAttr ⟨x_attr_seq, x_attr_deps⟩ : Nat) : Int) < 0) = false := by simp; omega
 have e : szR l (sz_TRow ⟨x_ballot, x_vote, x_state, ⟨x_cmd_kind, x_cmd_id, x_cmd_src, x_cmd_dst, x_cmd_amt⟩, ⟨x_attr_seq, x_attr_deps⟩⟩) = l - ((sz_TAttr ⟨x_attr_seq, x_attr_deps⟩ : Nat) : Int) := by unfold szR sz_TRow; simp only []; split <;> omega
 (refine fork_in ?_; repeat' (refine fork_eq (fun _ => ?_) (fun _ => ?_) <;> try simp (disch := first | assumption | omega) only [S0, reduceIte, reduceCtorEq, reduceAdd, reduceEqDiff, Int.reduceBEq, reduceLT, reduceLE, lsz_TAttr, *]))
theorem lto_TRow (x_ballot x_vote x_state x_cmd_kind x_cmd_id x_cmd_src x_cmd_dst x_cmd_amt x_attr_seq : Int) (x_attr_deps : (List Int)) (hs : sz_TRow ⟨x_ballot, x_vote, x_state, ⟨x_cmd_kind, x_cmd_id, x_cmd_src, x_cmd_dst, x_cmd_amt⟩, ⟨x_attr_seq, x_attr_deps⟩⟩ ≤ 1048576) : Fun T 10 [i64 x_ballot, i64 x_vote, i64 x_state, i64 x_cmd_kind, i64 x_cmd_id, i64 x_cmd_src, i64 x_cmd_dst, i64 x_cmd_amt, i64 x_attr_seq, rL x_attr_deps] = some [i64 x_ballot, i64 x_vote, i64 x_state, i64 x_cmd_kind, i64 x_cmd_id, i64 x_cmd_src, i64 x_cmd_dst, i64 x_cmd_amt, i64 x_attr_seq, rL x_attr_deps] := by
 rw [Fun_k (t := tm10) rfl]; unfold tm10
 unfold sz_TRow at hs
 simp only at hs
 have s0 : sz_TAttr ⟨x_attr_seq, x_attr_deps⟩ ≤ 1048576 := by omega
 (refine fork_in ?_; repeat' (refine fork_eq (fun _ => ?_) (fun _ => ?_) <;> try simp (disch := first | assumption | omega) only [S0, reduceIte, reduceCtorEq, reduceAdd, reduceEqDiff, Int.reduceBEq, reduceLT, reduceLE, lto_TCmd, lto_TAttr, *]))
theorem leq_TRow (x_ballot x_vote x_state x_cmd_kind x_cmd_id x_cmd_src x_cmd_dst x_cmd_amt x_attr_seq : Int) (x_attr_deps : (List Int)) (y_ballot y_vote y_state y_cmd_kind y_cmd_id y_cmd_src y_cmd_dst y_cmd_amt y_attr_seq : Int) (y_attr_deps : (List Int)) (hs : sz_TRow ⟨x_ballot, x_vote, x_state, ⟨x_cmd_kind, x_cmd_id, x_cmd_src, x_cmd_dst, x_cmd_amt⟩, ⟨x_attr_seq, x_attr_deps⟩⟩ ≤ 1099511627776) : Fun T 69 [i64 x_ballot, i64 x_vote, i64 x_state, i64 x_cmd_kind, i64 x_cmd_id, i64 x_cmd_src, i64 x_cmd_dst, i64 x_cmd_amt, i64 x_attr_seq, rL x_attr_deps, i64 y_ballot, i64 y_vote, i64 y_state, i64 y_cmd_kind, i64 y_cmd_id, i64 y_cmd_src, i64 y_cmd_dst, i64 y_cmd_amt, i64 y_attr_seq, rL y_attr_deps] = some [.bool (decide ((⟨x_ballot, x_vote, x_state, ⟨x_cmd_kind, x_cmd_id, x_cmd_src, x_cmd_dst, x_cmd_amt⟩, ⟨x_attr_seq, x_attr_deps⟩⟩ : TRow) = ⟨y_ballot, y_vote, y_state, ⟨y_cmd_kind, y_cmd_id, y_cmd_src, y_cmd_dst, y_cmd_amt⟩, ⟨y_attr_seq, y_attr_deps⟩⟩))] := by
 rw [Fun_k (t := tm69) rfl]; unfold tm69
 unfold sz_TRow at hs
 simp only at hs
 have s0 : sz_TAttr ⟨x_attr_seq, x_attr_deps⟩ ≤ 1099511627776 := by omega
 have e : decide ((⟨x_ballot, x_vote, x_state, ⟨x_cmd_kind, x_cmd_id, x_cmd_src, x_cmd_dst, x_cmd_amt⟩, ⟨x_attr_seq, x_attr_deps⟩⟩ : TRow) = ⟨y_ballot, y_vote, y_state, ⟨y_cmd_kind, y_cmd_id, y_cmd_src, y_cmd_dst, y_cmd_amt⟩, ⟨y_attr_seq, y_attr_deps⟩⟩) = ((x_ballot == y_ballot) && (x_vote == y_vote) && (x_state == y_state) && decide ((⟨x_cmd_kind, x_cmd_id, x_cmd_src, x_cmd_dst, x_cmd_amt⟩ : TCmd) = ⟨y_cmd_kind, y_cmd_id, y_cmd_src, y_cmd_dst, y_cmd_amt⟩) && decide ((⟨x_attr_seq, x_attr_deps⟩ : TAttr) = ⟨y_attr_seq, y_attr_deps⟩)) := by
  simp only [TRow.mk.injEq, Bool.beq_eq_decide_eq, Bool.decide_and, Bool.and_assoc]
 rw [e]
 (refine fork_in ?_; repeat' (refine fork_eq (fun _ => ?_) (fun _ => ?_) <;> try simp (disch := first | assumption | omega) only [S0, reduceIte, reduceCtorEq, reduceAdd, reduceEqDiff, Int.reduceBEq, reduceLT, reduceLE, leq_TCmd, leq_TAttr, *]))
theorem lsz_LTRow (xs : (List TRow)) (l : Int) (h0 : 0 ≤ l) (h1 : l ≤ 1048576) (hw : xs.length ≤ 140737488351232 ∧ ∀ y0 ∈ xs, wf_TRow y0) : Fun T 3 [rL xs, i64 l] = some [i64 (szR l (szL sz_TRow xs))] := by
 rw [Fun_k (t := tm3) rfl]; unfold tm3
 obtain ⟨hw1, hw2⟩ := hw
 by_cases c : (xs.length : Int) ≤ l
 ·have d : decide (l - (xs.length : Int) < 0) = false := by simp; omega
  simp (disch := first | assumption | omega) only [S0, reduceIte, reduceCtorEq, reduceAdd, reduceEqDiff, Int.reduceBEq, reduceLT, reduceLE, *]
  rw [szLoop xs sz_TRow (l - xs.length) rfl (by omega) (by omega)]
  ·by_cases hd : ((xs.map sz_TRow).sum : Int) ≤ l - xs.length
   ·have e : szR l (szL sz_TRow xs) = l - xs.length - ((xs.map sz_TRow).sum : Nat) := by unfold szR; rw [show (szL sz_TRow xs) = xs.length + (xs.map sz_TRow).sum from rfl, if_pos (by omega)]; omega
    rw [decide_eq_true hd]
    (refine fork_in ?_; repeat' (refine fork_eq (fun _ => ?_) (fun _ => ?_) <;> try simp (disch := first | assumption | omega) only [S0, reduceIte, reduceCtorEq, reduceAdd, reduceEqDiff, Int.reduceBEq, reduceLT, reduceLE, *]))
   ·have e : szR l (szL sz_TRow xs) = -1 := by unfold szR; rw [show (szL sz_TRow xs) = xs.length + (xs.map sz_TRow).sum from rfl, if_neg (by omega)]
    rw [decide_eq_false hd]
    (refine fork_in ?_; repeat' (refine fork_eq (fun _ => ?_) (fun _ => ?_) <;> try simp (disch := first | assumption | omega) only [S0, reduceIte, reduceCtorEq, reduceAdd, reduceEqDiff, Int.reduceBEq, reduceLT, reduceLE, *]))
  ·intro i m hi hb hl hm hm' hf hr hd
   have hq := hw2 _ (at_mem hi)
   (refine fork_in ?_; repeat' (refine fork_eq (fun _ => ?_) (fun _ => ?_) <;> try simp (disch := first | assumption | omega) only [S0, reduceIte, reduceCtorEq, reduceAdd, reduceEqDiff, Int.reduceBEq, reduceLT, reduceLE, S_row, lsz_TRow, *]))
  ·intro i m hi hb hl hm hm' hf hr hd
   have hq := hw2 _ (at_mem hi)
   (refine fork_in ?_; repeat' (refine fork_eq (fun _ => ?_) (fun _ => ?_) <;> try simp (disch := first | assumption | omega) only [S0, reduceIte, reduceCtorEq, reduceAdd, reduceEqDiff, Int.reduceBEq, reduceLT, reduceLE, S_row, lsz_TRow, *]))
  ·intro m hl
   (refine fork_in ?_; repeat' (refine fork_eq (fun _ => ?_) (fun _ => ?_) <;> try simp (disch := first | assumption | omega) only [S0, reduceIte, reduceCtorEq, reduceAdd, reduceEqDiff, Int.reduceBEq, reduceLT, reduceLE, *]))
 ·have e : szR l (szL sz_TRow xs) = -1 := by unfold szR; rw [show (szL sz_TRow xs) = xs.length + (xs.map sz_TRow).sum from rfl, if_neg (by omega)]
  have d : decide (l - (xs.length : Int) < 0) = true := by simp; omega
  (refine fork_in ?_; repeat' (refine fork_eq (fun _ => ?_) (fun _ => ?_) <;> try simp (disch := first | assumption | omega) only [S0, reduceIte, reduceCtorEq, reduceAdd, reduceEqDiff, Int.reduceBEq, reduceLT, reduceLE, *]))
theorem lto_LTRow (xs : (List TRow)) (hs : szL sz_TRow xs ≤ 1048576) : Fun T 9 [rL xs] = some [rL xs] := by
 rw [Fun_k (t := tm9) rfl]; unfold tm9
 have hl : xs.length ≤ 1048576 := Nat.le_trans szL_len hs
 simp (disch := first | assumption | omega) only [S0, reduceIte, reduceCtorEq, reduceAdd, reduceEqDiff, Int.reduceBEq, reduceLT, reduceLE, S_make, Int.toNat_natCast, *]
 rw [toLoop xs rfl]
 ·(refine fork_in ?_; repeat' (refine fork_eq (fun _ => ?_) (fun _ => ?_) <;> try simp (disch := first | assumption | omega) only [S0, reduceIte, reduceCtorEq, reduceAdd, reduceEqDiff, Int.reduceBEq, reduceLT, reduceLE, *]))
 ·intro i ys hi hb hb' hl'
  have hq : sz_TRow (atI xs i) ≤ 1048576 := by
   have := szL_mem (f := sz_TRow) (at_mem hi)
   omega
  (refine fork_in ?_; repeat' (refine fork_eq (fun _ => ?_) (fun _ => ?_) <;> try simp (disch := first | assumption | omega) only [S0, reduceIte, reduceCtorEq, reduceAdd, reduceEqDiff, Int.reduceBEq, reduceLT, reduceLE, S_row, S_set, lto_TRow, *]))
 ·intro ys hl'
  (refine fork_in ?_; repeat' (refine fork_eq (fun _ => ?_) (fun _ => ?_) <;> try simp (disch := first | assumption | omega) only [S0, reduceIte, reduceCtorEq, reduceAdd, reduceEqDiff, Int.reduceBEq, reduceLT, reduceLE, *]))
theorem leq_LTRow (xs ys : (List TRow)) (hs : szL sz_TRow xs ≤ 1099511627776) : Fun T 68 [rL xs, rL ys] = some [.bool (decide (xs = ys))] := by
 rw [Fun_k (t := tm68) rfl]; unfold tm68
 have hx : xs.length ≤ 1099511627776 := Nat.le_trans szL_len hs
 by_cases hl : ys.length = xs.length
 ·simp (disch := first | assumption | omega) only [S0, reduceIte, reduceCtorEq, reduceAdd, reduceEqDiff, Int.reduceBEq, reduceLT, reduceLE, *]
  rw [scanX 1 xs.length (fun i => decide (atI xs i = atI ys i)) [.bool false], allB_eq hl.symm]
  ·(refine fork_in ?_; repeat' (refine fork_eq (fun _ => ?_) (fun _ => ?_) <;> try simp (disch := first | assumption | omega) only [S0, reduceIte, reduceCtorEq, reduceAdd, reduceEqDiff, Int.reduceBEq, reduceLT, reduceLE, *]))
  ·intro i hi hp
   have hb : InB xs (i : Int) := InB_nat.2 hi
   have hb' : InB ys (i : Int) := InB_nat.2 (by omega)
   have h2 : decide ((i : Int) < xs.length) = true := by simp; omega
   have hq : sz_TRow (atI xs i) ≤ 1099511627776 := by
    have := szL_mem (f := sz_TRow) (at_mem hi)
    omega
   (refine fork_in ?_; repeat' (refine fork_eq (fun _ => ?_) (fun _ => ?_) <;> try simp (disch := first | assumption | omega) only [S0, reduceIte, reduceCtorEq, reduceAdd, reduceEqDiff, Int.reduceBEq, reduceLT, reduceLE, S_row, leq_TRow, *]))
  ·intro i hi hp
   have hb : InB xs (i : Int) := InB_nat.2 hi
   have hb' : InB ys (i : Int) := InB_nat.2 (by omega)
   have h2 : decide ((i : Int) < xs.length) = true := by simp; omega
   have hq : sz_TRow (atI xs i) ≤ 1099511627776 := by
    have := szL_mem (f := sz_TRow) (at_mem hi)
    omega
   (refine fork_in ?_; repeat' (refine fork_eq (fun _ => ?_) (fun _ => ?_) <;> try simp (disch := first | assumption | omega) only [S0, reduceIte, reduceCtorEq, reduceAdd, reduceEqDiff, Int.reduceBEq, reduceLT, reduceLE, S_row, leq_TRow, *]))
  ·have h2 : decide ((xs.length : Int) < xs.length) = false := by simp
   (refine fork_in ?_; repeat' (refine fork_eq (fun _ => ?_) (fun _ => ?_) <;> try simp (disch := first | assumption | omega) only [S0, reduceIte, reduceCtorEq, reduceAdd, reduceEqDiff, Int.reduceBEq, reduceLT, reduceLE, *]))
 ·have hl' : ((xs.length : Int) == (ys.length : Int)) = false := by simp; omega
  have e := eq_len (fun h => hl h.symm)
  (refine fork_in ?_; repeat' (refine fork_eq (fun _ => ?_) (fun _ => ?_) <;> try simp (disch := first | assumption | omega) only [S0, reduceIte, reduceCtorEq, reduceAdd, reduceEqDiff, Int.reduceBEq, reduceLT, reduceLE, *]))
theorem lmk_LTRow (xs : (List TRow)) (k : Int) (hk : 0 ≤ k) (hb : k + (ctL ct_TRow xs : Nat) ≤ 1152921504606846976) (hl : szL sz_TRow xs ≤ 1099511627776) : Fun T 74 [rL xs, i64 k] = some [i64 (k + (ctL ct_TRow xs : Nat)), rL (mkL ct_TRow mk_TRow xs k)] := by
 rw [Fun_k (t := tm74) rfl]; unfold tm74
 have hx : xs.length ≤ 1099511627776 := Nat.le_trans szL_len hl
 simp (disch := first | assumption | omega) only [S0, reduceIte, reduceCtorEq, reduceAdd, reduceEqDiff, Int.reduceBEq, reduceLT, reduceLE, *]
 rw [markLoop xs ct_TRow mk_TRow k rfl rfl rfl hk hb ?_ ?_ (by omega)]
 ·(refine fork_in ?_; repeat' (refine fork_eq (fun _ => ?_) (fun _ => ?_) <;> try simp (disch := first | assumption | omega) only [S0, reduceIte, reduceCtorEq, reduceAdd, reduceEqDiff, Int.reduceBEq, reduceLT, reduceLE, *]))
 ·intro i ys m hi hy hb hlt hat hm hc hlen
  have ec : m + 1 + 1 + 1 + 1 + 1 + 1 + 1 + 1 + 1 + (ctL (fun _ => 1) (atI xs (i : Int)).attr.deps : Nat) = m + (ct_TRow (atI xs i) : Nat) := by rw [ctu_TRow]; omega
  have hq : sz_TRow (atI xs i) ≤ 1099511627776 := by
   have := szL_mem (f := sz_TRow) (at_mem hi)
   omega
  rw [szu_TRow] at hq
  rw [ctu_TRow] at hc
  have hl__attr_deps : (atI xs i).attr.deps.length ≤ 1099511627776 := by omega
  (refine fork_in ?_; repeat' (refine fork_eq (fun _ => ?_) (fun _ => ?_) <;> try simp (disch := first | assumption | omega | (simp only [S_upd]; assumption)) only [S0, reduceIte, reduceCtorEq, reduceAdd, reduceEqDiff, Int.reduceBEq, reduceLT, reduceLE, S_row, S_set, S_upd, lmk_LI, *]))
  all_goals (try simp only [mk_TRow, ec])
 ·intro ys m hy hlt
  (refine fork_in ?_; repeat' (refine fork_eq (fun _ => ?_) (fun _ => ?_) <;> try simp (disch := first | assumption | omega) only [S0, reduceIte, reduceCtorEq, reduceAdd, reduceEqDiff, Int.reduceBEq, reduceLT, reduceLE, *]))
theorem lsz_LLTRow (xs : (List (List TRow))) (l : Int) (h0 : 0 ≤ l) (h1 : l ≤ 1048576) (hw : xs.length ≤ 140737488351232 ∧ ∀ y0 ∈ xs, y0.length ≤ 140737488351232 ∧ ∀ y1 ∈ y0, wf_TRow y1) : Fun T 2 [rL xs, i64 l] = some [i64 (szR l (szL (szL sz_TRow) xs))] := by
 rw [Fun_k (t := tm2) rfl]; unfold tm2
 obtain ⟨hw1, hw2⟩ := hw
 by_cases c : (xs.length : Int) ≤ l
 ·have d : decide (l - (xs.length : Int) < 0) = false := by simp; omega
  simp (disch := first | assumption | omega) only [S0, reduceIte, reduceCtorEq, reduceAdd, reduceEqDiff, Int.reduceBEq, reduceLT, reduceLE, *]
  rw [szLoop xs (szL sz_TRow) (l - xs.length) rfl (by omega) (by omega)]
  ·by_cases hd : ((xs.map (szL sz_TRow)).sum : Int) ≤ l - xs.length
   ·have e : szR l (szL (szL sz_TRow) xs) = l - xs.length - ((xs.map (szL sz_TRow)).sum : Nat) := by unfold szR; rw [show (szL (szL sz_TRow) xs) = xs.length + (xs.map (szL sz_TRow)).sum from rfl, if_pos (by omega)]; omega
    rw [decide_eq_true hd]
    (refine fork_in ?_; repeat' (refine fork_eq (fun _ => ?_) (fun _ => ?_) <;> try simp (disch := first | assumption | omega) only [S0, reduceIte, reduceCtorEq, reduceAdd, reduceEqDiff, Int.reduceBEq, reduceLT, reduceLE, *]))
   ·have e : szR l (szL (szL sz_TRow) xs) = -1 := by unfold szR; rw [show (szL (szL sz_TRow) xs) = xs.length + (xs.map (szL sz_TRow)).sum from rfl, if_neg (by omega)]
    rw [decide_eq_false hd]
    (refine fork_in ?_; repeat' (refine fork_eq (fun _ => ?_) (fun _ => ?_) <;> try simp (disch := first | assumption | omega) only [S0, reduceIte, reduceCtorEq, reduceAdd, reduceEqDiff, Int.reduceBEq, reduceLT, reduceLE, *]))
  ·intro i m hi hb hl hm hm' hf hr hd
   have hq := hw2 _ (at_mem hi)
   (refine fork_in ?_; repeat' (refine fork_eq (fun _ => ?_) (fun _ => ?_) <;> try simp (disch := first | assumption | omega) only [S0, reduceIte, reduceCtorEq, reduceAdd, reduceEqDiff, Int.reduceBEq, reduceLT, reduceLE, S_row, lsz_LTRow, *]))
  ·intro i m hi hb hl hm hm' hf hr hd
   have hq := hw2 _ (at_mem hi)
   (refine fork_in ?_; repeat' (refine fork_eq (fun _ => ?_) (fun _ => ?_) <;> try simp (disch := first | assumption | omega) only [S0, reduceIte, reduceCtorEq, reduceAdd, reduceEqDiff, Int.reduceBEq, reduceLT, reduceLE, S_row, lsz_LTRow, *]))
  ·intro m hl
   (refine fork_in ?_; repeat' (refine fork_eq (fun _ => ?_) (fun _ => ?_) <;> try simp (disch := first | assumption | omega) only [S0, reduceIte, reduceCtorEq, reduceAdd, reduceEqDiff, Int.reduceBEq, reduceLT, reduceLE, *]))
 ·have e : szR l (szL (szL sz_TRow) xs) = -1 := by unfold szR; rw [show (szL (szL sz_TRow) xs) = xs.length + (xs.map (szL sz_TRow)).sum from rfl, if_neg (by omega)]
  have d : decide (l - (xs.length : Int) < 0) = true := by simp; omega
  (refine fork_in ?_; repeat' (refine fork_eq (fun _ => ?_) (fun _ => ?_) <;> try simp (disch := first | assumption | omega) only [S0, reduceIte, reduceCtorEq, reduceAdd, reduceEqDiff, Int.reduceBEq, reduceLT, reduceLE, *]))
theorem lto_LLTRow (xs : (List (List TRow))) (hs : szL (szL sz_TRow) xs ≤ 1048576) : Fun T 8 [rL xs] = some [rL xs] := by
 rw [Fun_k (t := tm8) rfl]; unfold tm8
 have hl : xs.length ≤ 1048576 := Nat.le_trans szL_len hs
 simp (disch := first | assumption | omega) only [S0, reduceIte, reduceCtorEq, reduceAdd, reduceEqDiff, Int.reduceBEq, reduceLT, reduceLE, S_make, Int.toNat_natCast, *]
 rw [toLoop xs rfl]
 ·(refine fork_in ?_; repeat' (refine fork_eq (fun _ => ?_) (fun _ => ?_) <;> try simp (disch := first | assumption | omega) only [S0, reduceIte, reduceCtorEq, reduceAdd, reduceEqDiff, Int.reduceBEq, reduceLT, reduceLE, *]))
 ·intro i ys hi hb hb' hl'
  have hq : szL sz_TRow (atI xs i) ≤ 1048576 := by
   have := szL_mem (f := (szL sz_TRow)) (at_mem hi)
   omega
  (refine fork_in ?_; repeat' (refine fork_eq (fun _ => ?_) (fun _ => ?_) <;> try simp (disch := first | assumption | omega) only [S0, reduceIte, reduceCtorEq, reduceAdd, reduceEqDiff, Int.reduceBEq, reduceLT, reduceLE, S_row, S_set, lto_LTRow, *]))
 ·intro ys hl'
  (refine fork_in ?_; repeat' (refine fork_eq (fun _ => ?_) (fun _ => ?_) <;> try simp (disch := first | assumption | omega) only [S0, reduceIte, reduceCtorEq, reduceAdd, reduceEqDiff, Int.reduceBEq, reduceLT, reduceLE, *]))
theorem leq_LLTRow (xs ys : (List (List TRow))) (hs : szL (szL sz_TRow) xs ≤ 1099511627776) : Fun T 67 [rL xs, rL ys] = some [.bool (decide (xs = ys))] := by
 rw [Fun_k (t := tm67) rfl]; unfold tm67
 have hx : xs.length ≤ 1099511627776 := Nat.le_trans szL_len hs
 by_cases hl : ys.length = xs.length
 ·simp (disch := first | assumption | omega) only [S0, reduceIte, reduceCtorEq, reduceAdd, reduceEqDiff, Int.reduceBEq, reduceLT, reduceLE, *]
  rw [scanX 1 xs.length (fun i => decide (atI xs i = atI ys i)) [.bool false], allB_eq hl.symm]
  ·(refine fork_in ?_; repeat' (refine fork_eq (fun _ => ?_) (fun _ => ?_) <;> try simp (disch := first | assumption | omega) only [S0, reduceIte, reduceCtorEq, reduceAdd, reduceEqDiff, Int.reduceBEq, reduceLT, reduceLE, *]))
  ·intro i hi hp
   have hb : InB xs (i : Int) := InB_nat.2 hi
   have hb' : InB ys (i : Int) := InB_nat.2 (by omega)
   have h2 : decide ((i : Int) < xs.length) = true := by simp; omega
   have hq : szL sz_TRow (atI xs i) ≤ 1099511627776 := by
    have := szL_mem (f := (szL sz_TRow)) (at_mem hi)
    omega
   (refine fork_in ?_; repeat' (refine fork_eq (fun _ => ?_) (fun _ => ?_) <;> try simp (disch := first | assumption | omega) only [S0, reduceIte, reduceCtorEq, reduceAdd, reduceEqDiff, Int.reduceBEq, reduceLT, reduceLE, S_row, leq_LTRow, *]))
  ·intro i hi hp
   have hb : InB xs (i : Int) := InB_nat.2 hi
   have hb' : InB ys (i : Int) := InB_nat.2 (by omega)
   have h2 : decide ((i : Int) < xs.length) = true := by simp; omega
   have hq : szL sz_TRow (atI xs i) ≤ 1099511627776 := by
    have := szL_mem (f := (szL sz_TRow)) (at_mem hi)
    omega
   (refine fork_in ?_; repeat' (refine fork_eq (fun _ => ?_) (fun _ => ?_) <;> try simp (disch := first | assumption | omega) only [S0, reduceIte, reduceCtorEq, reduceAdd, reduceEqDiff, Int.reduceBEq, reduceLT, reduceLE, S_row, leq_LTRow, *]))
  ·have h2 : decide ((xs.length : Int) < xs.length) = false := by simp
   (refine fork_in ?_; repeat' (refine fork_eq (fun _ => ?_) (fun _ => ?_) <;> try simp (disch := first | assumption | omega) only [S0, reduceIte, reduceCtorEq, reduceAdd, reduceEqDiff, Int.reduceBEq, reduceLT, reduceLE, *]))
 ·have hl' : ((xs.length : Int) == (ys.length : Int)) = false := by simp; omega
  have e := eq_len (fun h => hl h.symm)
  (refine fork_in ?_; repeat' (refine fork_eq (fun _ => ?_) (fun _ => ?_) <;> try simp (disch := first | assumption | omega) only [S0, reduceIte, reduceCtorEq, reduceAdd, reduceEqDiff, Int.reduceBEq, reduceLT, reduceLE, *]))
theorem lmk_LLTRow (xs : (List (List TRow))) (k : Int) (hk : 0 ≤ k) (hb : k + (ctL (ctL ct_TRow) xs : Nat) ≤ 1152921504606846976) (hl : szL (szL sz_TRow) xs ≤ 1099511627776) : Fun T 73 [rL xs, i64 k] = some [i64 (k + (ctL (ctL ct_TRow) xs : Nat)), rL (mkL (ctL ct_TRow) (mkL ct_TRow mk_TRow) xs k)] := by
 rw [Fun_k (t := tm73) rfl]; unfold tm73
 have hx : xs.length ≤ 1099511627776 := Nat.le_trans szL_len hl
 simp (disch := first | assumption | omega) only [S0, reduceIte, reduceCtorEq, reduceAdd, reduceEqDiff, Int.reduceBEq, reduceLT, reduceLE, *]
 rw [markLoop xs (ctL ct_TRow) (mkL ct_TRow mk_TRow) k rfl rfl rfl hk hb ?_ ?_ (by omega)]
 ·(refine fork_in ?_; repeat' (refine fork_eq (fun _ => ?_) (fun _ => ?_) <;> try simp (disch := first | assumption | omega) only [S0, reduceIte, reduceCtorEq, reduceAdd, reduceEqDiff, Int.reduceBEq, reduceLT, reduceLE, *]))
 ·intro i ys m hi hy hb hlt hat hm hc hlen
  have hq : szL sz_TRow (atI xs i) ≤ 1099511627776 := by
   have := szL_mem (f := (szL sz_TRow)) (at_mem hi)
   omega
  (refine fork_in ?_; repeat' (refine fork_eq (fun _ => ?_) (fun _ => ?_) <;> try simp (disch := first | assumption | omega | (simp only [S_upd]; assumption)) only [S0, reduceIte, reduceCtorEq, reduceAdd, reduceEqDiff, Int.reduceBEq, reduceLT, reduceLE, S_row, S_set, S_upd, lmk_LTRow, *]))
 ·intro ys m hy hlt
  (refine fork_in ?_; repeat' (refine fork_eq (fun _ => ?_) (fun _ => ?_) <;> try simp (disch := first | assumption | omega) only [S0, reduceIte, reduceCtorEq, reduceAdd, reduceEqDiff, Int.reduceBEq, reduceLT, reduceLE, *]))
theorem lsz_TTable (x_n : Int) (x_rows : (List (List TRow))) (l : Int) (h0 : 0 ≤ l) (h1 : l ≤ 1048576) (hw : wf_TTable ⟨x_n, x_rows⟩) : Fun T 1 [i64 x_n, rL x_rows, i64 l] = some [i64 (szR l (sz_TTable ⟨x_n, x_rows⟩))] := by
 rw [Fun_k (t := tm1) rfl]; unfold tm1
 unfold wf_TTable at hw
 simp only at hw
 have w0 := hw
 by_cases c0 : ((szL (szL sz_TRow) x_rows : Nat) : Int) ≤ l
 rotate_left
 ·have e0 : szR (l) (szL (szL sz_TRow) x_rows) = -1 := if_neg c0
  have d0 : decide ((-1 : Int) < 0) = true := rfl
  have e : szR l (sz_TTable ⟨x_n, x_rows⟩) = -1 := by unfold szR sz_TTable; simp only []; split <;> omega
  (refine fork_in ?_; repeat' (refine fork_eq (fun _ => ?_) (fun _ => ?_) <;> try simp (disch := first | assumption | omega) only [S0, reduceIte, reduceCtorEq, reduceAdd, reduceEqDiff, Int.reduceBEq, reduceLT, reduceLE, lsz_LLTRow, *]))
 have e0 : szR (l) (szL (szL sz_TRow) x_rows) = l - (szL (szL sz_TRow) x_rows : Nat) := if_pos c0
 have d0 : decide (l - ((szL (szL sz_TRow) x_rows : Nat) : Int) < 0) = false := by simp; omega
 have e : szR l (sz_TTable ⟨x_n, x_rows⟩) = l - ((szL (szL sz_TRow) x_rows : Nat) : Int) := by unfold szR sz_TTable; simp only []; split <;> omega
 (refine fork_in ?_; repeat' (refine fork_eq (fun _ => ?_) (fun _ => ?_) <;> try simp (disch := first | assumption | omega) only [S0, reduceIte, reduceCtorEq, reduceAdd, reduceEqDiff, Int.reduceBEq, reduceLT, reduceLE, lsz_LLTRow, *]))
theorem lto_TTable (x_n : Int) (x_rows : (List (List TRow))) (hs : sz_TTable ⟨x_n, x_rows⟩ ≤ 1048576) : Fun T 7 [i64 x_n, rL x_rows] = some [i64 x_n, rL x_rows] := by
 rw [Fun_k (t := tm7) rfl]; unfold tm7
 unfold sz_TTable at hs
 simp only at hs
 have s0 : szL (szL sz_TRow) x_rows ≤ 1048576 := by omega
 (refine fork_in ?_; repeat' (refine fork_eq (fun _ => ?_) (fun _ => ?_) <;> try simp (disch := first | assumption | omega) only [S0, reduceIte, reduceCtorEq, reduceAdd, reduceEqDiff, Int.reduceBEq, reduceLT, reduceLE, lto_LLTRow, *]))
theorem leq_TTable (x_n : Int) (x_rows : (List (List TRow))) (y_n : Int) (y_rows : (List (List TRow))) (hs : sz_TTable ⟨x_n, x_rows⟩ ≤ 1099511627776) : Fun T 66 [i64 x_n, rL x_rows, i64 y_n, rL y_rows] = some [.bool (decide ((⟨x_n, x_rows⟩ : TTable) = ⟨y_n, y_rows⟩))] := by
 rw [Fun_k (t := tm66) rfl]; unfold tm66
 unfold sz_TTable at hs
 simp only at hs
 have s0 : szL (szL sz_TRow) x_rows ≤ 1099511627776 := by omega
 have e : decide ((⟨x_n, x_rows⟩ : TTable) = ⟨y_n, y_rows⟩) = ((x_n == y_n) && decide ((x_rows : (List (List TRow))) = y_rows)) := by
  simp only [TTable.mk.injEq, Bool.beq_eq_decide_eq, Bool.decide_and, Bool.and_assoc]
 rw [e]
 (refine fork_in ?_; repeat' (refine fork_eq (fun _ => ?_) (fun _ => ?_) <;> try simp (disch := first | assumption | omega) only [S0, reduceIte, reduceCtorEq, reduceAdd, reduceEqDiff, Int.reduceBEq, reduceLT, reduceLE, leq_LLTRow, *]))
theorem lmk_TTable (x_n : Int) (x_rows : (List (List TRow))) (k : Int) (hk : 0 ≤ k) (hb : k + (ctL (ctL ct_TRow) x_rows : Nat) ≤ 1152921504606846976) (hl0 : szL (szL sz_TRow) x_rows ≤ 1099511627776) : Fun T 72 [i64 x_n, rL x_rows, i64 k] = some [i64 (k + (ctL (ctL ct_TRow) x_rows : Nat)), rL (mkL (ctL ct_TRow) (mkL ct_TRow mk_TRow) x_rows (k))] := by
 rw [Fun_k (t := tm72) rfl]; unfold tm72
 (refine fork_in ?_; repeat' (refine fork_eq (fun _ => ?_) (fun _ => ?_) <;> try simp (disch := first | assumption | omega) only [S0, reduceIte, reduceCtorEq, reduceAdd, reduceEqDiff, Int.reduceBEq, reduceLT, reduceLE, lmk_LLTRow, *]))
theorem leq_LLI (xs ys : (List (List Int))) (hs : szL (szL (fun _ => 0)) xs ≤ 1099511627776) : Fun T 64 [rL xs, rL ys] = some [.bool (decide (xs = ys))] := by
 rw [Fun_k (t := tm64) rfl]; unfold tm64
 have hx : xs.length ≤ 1099511627776 := Nat.le_trans szL_len hs
 by_cases hl : ys.length = xs.length
 ·simp (disch := first | assumption | omega) only [S0, reduceIte, reduceCtorEq, reduceAdd, reduceEqDiff, Int.reduceBEq, reduceLT, reduceLE, *]
  rw [scanX 1 xs.length (fun i => decide (atI xs i = atI ys i)) [.bool false], allB_eq hl.symm]
  ·(refine fork_in ?_; repeat' (refine fork_eq (fun _ => ?_) (fun _ => ?_) <;> try simp (disch := first | assumption | omega) only [S0, reduceIte, reduceCtorEq, reduceAdd, reduceEqDiff, Int.reduceBEq, reduceLT, reduceLE, *]))
  ·intro i hi hp
   have hb : InB xs (i : Int) := InB_nat.2 hi
   have hb' : InB ys (i : Int) := InB_nat.2 (by omega)
   have h2 : decide ((i : Int) < xs.length) = true := by simp; omega
   have hq : szL (fun _ => 0) (atI xs i) ≤ 1099511627776 := by
    have := szL_mem (f := (szL (fun _ => 0))) (at_mem hi)
    omega
   (refine fork_in ?_; repeat' (refine fork_eq (fun _ => ?_) (fun _ => ?_) <;> try simp (disch := first | assumption | omega) only [S0, reduceIte, reduceCtorEq, reduceAdd, reduceEqDiff, Int.reduceBEq, reduceLT, reduceLE, S_row, leq_LI, *]))
  ·intro i hi hp
   have hb : InB xs (i : Int) := InB_nat.2 hi
   have hb' : InB ys (i : Int) := InB_nat.2 (by omega)
   have h2 : decide ((i : Int) < xs.length) = true := by simp; omega
   have hq : szL (fun _ => 0) (atI xs i) ≤ 1099511627776 := by
    have := szL_mem (f := (szL (fun _ => 0))) (at_mem hi)
    omega
   (refine fork_in ?_; repeat' (refine fork_eq (fun _ => ?_) (fun _ => ?_) <;> try simp (disch := first | assumption | omega) only [S0, reduceIte, reduceCtorEq, reduceAdd, reduceEqDiff, Int.reduceBEq, reduceLT, reduceLE, S_row, leq_LI, *]))
  ·have h2 : decide ((xs.length : Int) < xs.length) = false := by simp
   (refine fork_in ?_; repeat' (refine fork_eq (fun _ => ?_) (fun _ => ?_) <;> try simp (disch := first | assumption | omega) only [S0, reduceIte, reduceCtorEq, reduceAdd, reduceEqDiff, Int.reduceBEq, reduceLT, reduceLE, *]))
 ·have hl' : ((xs.length : Int) == (ys.length : Int)) = false := by simp; omega
  have e := eq_len (fun h => hl h.symm)
  (refine fork_in ?_; repeat' (refine fork_eq (fun _ => ?_) (fun _ => ?_) <;> try simp (disch := first | assumption | omega) only [S0, reduceIte, reduceCtorEq, reduceAdd, reduceEqDiff, Int.reduceBEq, reduceLT, reduceLE, *]))
theorem lmk_LLI (xs : (List (List Int))) (k : Int) (hk : 0 ≤ k) (hb : k + (ctL (ctL (fun _ => 1)) xs : Nat) ≤ 1152921504606846976) (hl : szL (szL (fun _ => 0)) xs ≤ 1099511627776) : Fun T 76 [rL xs, i64 k] = some [i64 (k + (ctL (ctL (fun _ => 1)) xs : Nat)), rL (mkL (ctL (fun _ => 1)) (mkL (fun _ => 1) (fun _ k => k)) xs k)] := by
 rw [Fun_k (t := tm76) rfl]; unfold tm76
 have hx : xs.length ≤ 1099511627776 := Nat.le_trans szL_len hl
 simp (disch := first | assumption | omega) only [S0, reduceIte, reduceCtorEq, reduceAdd, reduceEqDiff, Int.reduceBEq, reduceLT, reduceLE, *]
 rw [markLoop xs (ctL (fun _ => 1)) (mkL (fun _ => 1) (fun _ k => k)) k rfl rfl rfl hk hb ?_ ?_ (by omega)]
 ·(refine fork_in ?_; repeat' (refine fork_eq (fun _ => ?_) (fun _ => ?_) <;> try simp (disch := first | assumption | omega) only [S0, reduceIte, reduceCtorEq, reduceAdd, reduceEqDiff, Int.reduceBEq, reduceLT, reduceLE, *]))
 ·intro i ys m hi hy hb hlt hat hm hc hlen
  have hq : (atI xs i).length ≤ 1099511627776 := by
   have := szL_mem (f := (szL (fun _ => 0))) (at_mem hi)
   have := szL_len (f := (fun _ => 0)) (xs := atI xs i)
   omega
  (refine fork_in ?_; repeat' (refine fork_eq (fun _ => ?_) (fun _ => ?_) <;> try simp (disch := first | assumption | omega | (simp only [S_upd]; assumption)) only [S0, reduceIte, reduceCtorEq, reduceAdd, reduceEqDiff, Int.reduceBEq, reduceLT, reduceLE, S_row, S_set, S_upd, lmk_LI, *]))
 ·intro ys m hy hlt
  (refine fork_in ?_; repeat' (refine fork_eq (fun _ => ?_) (fun _ => ?_) <;> try simp (disch := first | assumption | omega) only [S0, reduceIte, reduceCtorEq, reduceAdd, reduceEqDiff, Int.reduceBEq, reduceLT, reduceLE, *]))
theorem lhd_LLI (xs : (List (List Int))) (k : Int) (hk : 0 ≤ k) (hb : k + (ctL (ctL (fun _ => 1)) xs : Nat) ≤ 1152921504606846976) (hl : szL (szL (fun _ => 0)) xs ≤ 1099511627776) : Fun T 77 [rL (mkL (ctL (fun _ => 1)) (mkL (fun _ => 1) (fun _ k => k)) xs k), i64 k] = some [i64 (k + (ctL (ctL (fun _ => 1)) xs : Nat))] := by
 rw [Fun_k (t := tm77) rfl]; unfold tm77
 have hx : xs.length ≤ 1099511627776 := Nat.le_trans szL_len hl
 simp (disch := first | assumption | omega) only [S0, reduceIte, reduceCtorEq, reduceAdd, reduceEqDiff, Int.reduceBEq, reduceLT, reduceLE, *]
 rw [heldLoop xs (ctL (fun _ => 1)) (mkL (fun _ => 1) (fun _ k => k)) k rfl hk hb (by omega)]
 ·(refine fork_in ?_; repeat' (refine fork_eq (fun _ => ?_) (fun _ => ?_) <;> try simp (disch := first | assumption | omega) only [S0, reduceIte, reduceCtorEq, reduceAdd, reduceEqDiff, Int.reduceBEq, reduceLT, reduceLE, *]))
 ·intro i m hi hb hy hlt hat hm hc hlen
  have hq : (atI xs i).length ≤ 1099511627776 := by
   have := szL_mem (f := (szL (fun _ => 0))) (at_mem hi)
   have := szL_len (f := (fun _ => 0)) (xs := atI xs i)
   omega
  have hz : decide (m + (ctL (fun _ => 1) (atI xs i) : Nat) < 0) = false := by simp; omega
  (refine fork_in ?_; repeat' (refine fork_eq (fun _ => ?_) (fun _ => ?_) <;> try simp (disch := first | assumption | omega) only [S0, reduceIte, reduceCtorEq, reduceAdd, reduceEqDiff, Int.reduceBEq, reduceLT, reduceLE, S_row, lhd_LI, lt0, *]))
 ·intro m hy hlt
  (refine fork_in ?_; repeat' (refine fork_eq (fun _ => ?_) (fun _ => ?_) <;> try simp (disch := first | assumption | omega) only [S0, reduceIte, reduceCtorEq, reduceAdd, reduceEqDiff, Int.reduceBEq, reduceLT, reduceLE, *]))
theorem impl_within (x lo up : Int) : Fun T 46 [i64 x, i64 lo, i64 up] = some [.bool (inR x lo up)] := by
 rw [Fun_k (t := tm46) rfl]; unfold tm46; unfold inR
 (refine fork_in ?_; repeat' (refine fork_eq (fun _ => ?_) (fun _ => ?_) <;> try simp (disch := first | assumption | omega) only [S0, reduceIte, reduceCtorEq, reduceAdd, reduceEqDiff, Int.reduceBEq, reduceLT, reduceLE, *]))
theorem spec_l1In (x lo up : Int) : Fun T 18 [i64 x, i64 lo, i64 up] = some [.bool (inR x lo up)] := by
 rw [Fun_k (t := tm18) rfl]; unfold tm18; unfold inR
 (refine fork_in ?_; repeat' (refine fork_eq (fun _ => ?_) (fun _ => ?_) <;> try simp (disch := first | assumption | omega) only [S0, reduceIte, reduceCtorEq, reduceAdd, reduceEqDiff, Int.reduceBEq, reduceLT, reduceLE, *]))
theorem impl_IsGroup (n : Int) : Fun T 38 [i64 n] = some [.bool (isGrp n)] := by
 rw [Fun_k (t := tm38) rfl]; unfold tm38; unfold isGrp
 (refine fork_in ?_; repeat' (refine fork_eq (fun _ => ?_) (fun _ => ?_) <;> try simp (disch := first | assumption | omega) only [S0, reduceIte, reduceCtorEq, reduceAdd, reduceEqDiff, Int.reduceBEq, reduceLT, reduceLE, *]))
theorem spec_IsGroup (n : Int) : Fun T 16 [i64 n] = some [.bool (isGrp n)] := by
 rw [Fun_k (t := tm16) rfl]; unfold tm16; unfold isGrp
 (refine fork_in ?_; repeat' (refine fork_eq (fun _ => ?_) (fun _ => ?_) <;> try simp (disch := first | assumption | omega) only [S0, reduceIte, reduceCtorEq, reduceAdd, reduceEqDiff, Int.reduceBEq, reduceLT, reduceLE, *]))
theorem impl_isAccount (n : Int) : Fun T 48 [i64 n] = some [.bool (inR n 0 3)] := by
 rw [Fun_k (t := tm48) rfl]; unfold tm48
 (refine fork_in ?_; repeat' (refine fork_eq (fun _ => ?_) (fun _ => ?_) <;> try simp (disch := first | assumption | omega) only [S0, reduceIte, reduceCtorEq, reduceAdd, reduceEqDiff, Int.reduceBEq, reduceLT, reduceLE, impl_within, *]))
theorem spec_l2Account (n : Int) : Fun T 24 [i64 n] = some [.bool (inR n 0 3)] := by
 rw [Fun_k (t := tm24) rfl]; unfold tm24
 (refine fork_in ?_; repeat' (refine fork_eq (fun _ => ?_) (fun _ => ?_) <;> try simp (disch := first | assumption | omega) only [S0, reduceIte, reduceCtorEq, reduceAdd, reduceEqDiff, Int.reduceBEq, reduceLT, reduceLE, spec_l1In, *]))
theorem spec_l2Code (k i f t a : Int) : Fun T 23 [i64 k, i64 i, i64 f, i64 t, i64 a] = some [i64 (cmdCode ⟨k, i, f, t, a⟩)] := by
 rw [Fun_k (t := tm23) rfl]; unfold tm23; unfold cmdCode
 (refine fork_in ?_; repeat' (refine fork_eq (fun _ => ?_) (fun _ => ?_) <;> try simp (disch := first | assumption | omega) only [S0, reduceIte, reduceCtorEq, reduceAdd, reduceEqDiff, Int.reduceBEq, reduceLT, reduceLE, spec_l2Account, spec_l1In, *]))
theorem spec_GoodCmd (k i f t a : Int) : Fun T 22 [i64 k, i64 i, i64 f, i64 t, i64 a] = some [.bool (cmdOk ⟨k, i, f, t, a⟩)] := by
 rw [Fun_k (t := tm22) rfl]; unfold tm22; unfold cmdOk
 (refine fork_in ?_; repeat' (refine fork_eq (fun _ => ?_) (fun _ => ?_) <;> try simp (disch := first | assumption | omega) only [S0, reduceIte, reduceCtorEq, reduceAdd, reduceEqDiff, Int.reduceBEq, reduceLT, reduceLE, spec_l2Code, S_eqs, cmdCode0, *]))
 all_goals (refine bool_fin ?_; simp only [Bool.and_eq_true, Bool.or_eq_true, Bool.not_eq_true', Bool.not_eq_false', Bool.and_eq_false_iff, Bool.or_eq_false_iff, Bool.false_eq_true, beq_iff_eq, beq_eq_false_iff_ne, decide_eq_true_eq, decide_eq_false_iff_not, ne_eq] at *; grind)
theorem impl_GoodCmd (k i f t a : Int) : Fun T 47 [i64 k, i64 i, i64 f, i64 t, i64 a] = some [.bool (cmdOk ⟨k, i, f, t, a⟩)] := by
 rw [Fun_k (t := tm47) rfl]; unfold tm47; unfold cmdOk
 (refine fork_in ?_; repeat' (refine fork_eq (fun _ => ?_) (fun _ => ?_) <;> try simp (disch := first | assumption | omega) only [S0, reduceIte, reduceCtorEq, reduceAdd, reduceEqDiff, Int.reduceBEq, reduceLT, reduceLE, impl_within, impl_isAccount, S_eqs, *]))
theorem spec_l1All (xs : List Int) (lo up : Int) (hx : xs.length ≤ 1099511627776) : Fun T 26 [rL xs, i64 lo, i64 up] = some [.bool (xs.all fun x => inR x lo up)] := by
 rw [Fun_k (t := tm26) rfl]; unfold tm26
 simp (disch := first | assumption | omega) only [S0, reduceIte, reduceCtorEq, reduceAdd, reduceEqDiff, Int.reduceBEq, reduceLT, reduceLE, S_row, *]
 rw [allX 1 xs (fun x => inR x lo up) [.bool false]]
 ·(refine fork_in ?_; repeat' (refine fork_eq (fun _ => ?_) (fun _ => ?_) <;> try simp (disch := first | assumption | omega) only [S0, reduceIte, reduceCtorEq, reduceAdd, reduceEqDiff, Int.reduceBEq, reduceLT, reduceLE, *]))
 ·intro i hi hb hl hp
  (refine fork_in ?_; repeat' (refine fork_eq (fun _ => ?_) (fun _ => ?_) <;> try simp (disch := first | assumption | omega) only [S0, reduceIte, reduceCtorEq, reduceAdd, reduceEqDiff, Int.reduceBEq, reduceLT, reduceLE, S_row, spec_l1In, *]))
 ·intro i hi hb hl hp
  (refine fork_in ?_; repeat' (refine fork_eq (fun _ => ?_) (fun _ => ?_) <;> try simp (disch := first | assumption | omega) only [S0, reduceIte, reduceCtorEq, reduceAdd, reduceEqDiff, Int.reduceBEq, reduceLT, reduceLE, S_row, spec_l1In, *]))
 ·intro hl
  (refine fork_in ?_; repeat' (refine fork_eq (fun _ => ?_) (fun _ => ?_) <;> try simp (disch := first | assumption | omega) only [S0, reduceIte, reduceCtorEq, reduceAdd, reduceEqDiff, Int.reduceBEq, reduceLT, reduceLE, *]))
theorem spec_l3Attr (n s : Int) (xs : List Int) (hx : xs.length ≤ 1099511627776) : Fun T 25 [i64 n, i64 s, rL xs] = some [.bool (attrOk n ⟨s, xs⟩)] := by
 rw [Fun_k (t := tm25) rfl]; unfold tm25; unfold attrOk
 (refine fork_in ?_; repeat' (refine fork_eq (fun _ => ?_) (fun _ => ?_) <;> try simp (disch := first | assumption | omega) only [S0, reduceIte, reduceCtorEq, reduceAdd, reduceEqDiff, Int.reduceBEq, reduceLT, reduceLE, spec_l1In, spec_l1All, *]))
theorem impl_GoodAttr_1 (x : Int) : Fun T 52 [i64 x] = some [.bool (!inR x 0 6)] := by
 rw [Fun_k (t := tm52) rfl]; unfold tm52
 (refine fork_in ?_; repeat' (refine fork_eq (fun _ => ?_) (fun _ => ?_) <;> try simp (disch := first | assumption | omega) only [S0, reduceIte, reduceCtorEq, reduceAdd, reduceEqDiff, Int.reduceBEq, reduceLT, reduceLE, impl_within, *]))
theorem ix_GoodAttr_1  (xs : List Int) (hx : xs.length ≤ 1099511627776) : Fun T 51 [rL xs] = some [i64 (ixF (fun x => !inR x 0 6) xs)] := by
 rw [Fun_k (t := tm51) rfl]; unfold tm51
 simp (disch := first | assumption | omega) only [S0, reduceIte, reduceCtorEq, reduceAdd, reduceEqDiff, Int.reduceBEq, reduceLT, reduceLE, S_row, *]
 rw [findX 1 xs (fun x => !inR x 0 6) (fun i => [i64 i])]
 ·cases h : xs.any (fun x => !inR x 0 6)
  ·have e : ixF (fun x => !inR x 0 6) xs = -1 := by
    have h2 := ixF_any (fun x => !inR x 0 6) xs
    rw [h] at h2
    unfold ixF at h2 ⊢
    split at h2 <;> simp_all
   rw [e]; simp (disch := first | assumption | omega) only [S0, reduceIte, reduceCtorEq, reduceAdd, reduceEqDiff, Int.reduceBEq, reduceLT, reduceLE]
  ·simp (disch := first | assumption | omega) only [S0, reduceIte, reduceCtorEq, reduceAdd, reduceEqDiff, Int.reduceBEq, reduceLT, reduceLE]
 ·intro i hi hb hl hp
  (refine fork_in ?_; repeat' (refine fork_eq (fun _ => ?_) (fun _ => ?_) <;> try simp (disch := first | assumption | omega) only [S0, reduceIte, reduceCtorEq, reduceAdd, reduceEqDiff, Int.reduceBEq, reduceLT, reduceLE, S_row, impl_GoodAttr_1, *]))
 ·intro i hi hb hl hp
  (refine fork_in ?_; repeat' (refine fork_eq (fun _ => ?_) (fun _ => ?_) <;> try simp (disch := first | assumption | omega) only [S0, reduceIte, reduceCtorEq, reduceAdd, reduceEqDiff, Int.reduceBEq, reduceLT, reduceLE, S_row, impl_GoodAttr_1, *]))
 ·intro hl
  (refine fork_in ?_; repeat' (refine fork_eq (fun _ => ?_) (fun _ => ?_) <;> try simp (disch := first | assumption | omega) only [S0, reduceIte, reduceCtorEq, reduceAdd, reduceEqDiff, Int.reduceBEq, reduceLT, reduceLE, *]))
theorem ct_GoodAttr_1  (xs : List Int) (hx : xs.length ≤ 1099511627776) : Fun T 50 [rL xs] = some [.bool (xs.any (fun x => !inR x 0 6))] := by
 rw [Fun_k (t := tm50) rfl]; unfold tm50
 (refine fork_in ?_; repeat' (refine fork_eq (fun _ => ?_) (fun _ => ?_) <;> try simp (disch := first | assumption | omega) only [S0, reduceIte, reduceCtorEq, reduceAdd, reduceEqDiff, Int.reduceBEq, reduceLT, reduceLE, ix_GoodAttr_1, ixF_any, *]))
theorem impl_GoodAttr (n s : Int) (xs : List Int) (hx : xs.length ≤ 1099511627776) : Fun T 49 [i64 n, i64 s, rL xs] = some [.bool (isGrp n && attrOk n ⟨s, xs⟩)] := by
 rw [Fun_k (t := tm49) rfl]; unfold tm49; unfold attrOk
 have e : xs.any (fun x => !inR x 0 6) = !xs.all fun x => inR x 0 6 := by rw [List.not_all_eq_any_not]
 (refine fork_in ?_; repeat' (refine fork_eq (fun _ => ?_) (fun _ => ?_) <;> try simp (disch := first | assumption | omega) only [S0, reduceIte, reduceCtorEq, reduceAdd, reduceEqDiff, Int.reduceBEq, reduceLT, reduceLE, impl_IsGroup, impl_within, ct_GoodAttr_1, e, Bool.not_not, *]))
theorem spec_l1Same (xs ys : List Int) (hx : xs.length ≤ 1099511627776) : Fun T 21 [rL xs, rL ys] = some [.bool (decide (xs = ys))] := by
 rw [Fun_k (t := tm21) rfl]; unfold tm21
 by_cases hl : ys.length = xs.length
 ·simp (disch := first | assumption | omega) only [S0, reduceIte, reduceCtorEq, reduceAdd, reduceEqDiff, Int.reduceBEq, reduceLT, reduceLE, *]
  rw [scanX 1 xs.length (fun i => decide (atI xs i = atI ys i)) [.bool false], allB_eq hl.symm]
  ·(refine fork_in ?_; repeat' (refine fork_eq (fun _ => ?_) (fun _ => ?_) <;> try simp (disch := first | assumption | omega) only [S0, reduceIte, reduceCtorEq, reduceAdd, reduceEqDiff, Int.reduceBEq, reduceLT, reduceLE, *]))
  ·intro i hi hp
   have hb : InB xs (i : Int) := InB_nat.2 hi
   have hb' : InB ys (i : Int) := InB_nat.2 (by omega)
   have h2 : decide ((i : Int) < xs.length) = true := by simp; omega
   have h3 : (atI xs i == atI ys i) = true := by simpa using hp
   (refine fork_in ?_; repeat' (refine fork_eq (fun _ => ?_) (fun _ => ?_) <;> try simp (disch := first | assumption | omega) only [S0, reduceIte, reduceCtorEq, reduceAdd, reduceEqDiff, Int.reduceBEq, reduceLT, reduceLE, S_row, *]))
  ·intro i hi hp
   have hb : InB xs (i : Int) := InB_nat.2 hi
   have hb' : InB ys (i : Int) := InB_nat.2 (by omega)
   have h2 : decide ((i : Int) < xs.length) = true := by simp; omega
   have h3 : (atI xs i == atI ys i) = false := by simpa using hp
   (refine fork_in ?_; repeat' (refine fork_eq (fun _ => ?_) (fun _ => ?_) <;> try simp (disch := first | assumption | omega) only [S0, reduceIte, reduceCtorEq, reduceAdd, reduceEqDiff, Int.reduceBEq, reduceLT, reduceLE, S_row, *]))
  ·have h2 : decide ((xs.length : Int) < xs.length) = false := by simp
   (refine fork_in ?_; repeat' (refine fork_eq (fun _ => ?_) (fun _ => ?_) <;> try simp (disch := first | assumption | omega) only [S0, reduceIte, reduceCtorEq, reduceAdd, reduceEqDiff, Int.reduceBEq, reduceLT, reduceLE, *]))
 ·have hl' : ((xs.length : Int) == (ys.length : Int)) = false := by simp; omega
  have e := eq_len (fun h => hl h.symm)
  (refine fork_in ?_; repeat' (refine fork_eq (fun _ => ?_) (fun _ => ?_) <;> try simp (disch := first | assumption | omega) only [S0, reduceIte, reduceCtorEq, reduceAdd, reduceEqDiff, Int.reduceBEq, reduceLT, reduceLE, *]))
theorem slices_Equal_int (xs ys : List Int) (hx : xs.length ≤ 1099511627776) : Fun T 55 [rL xs, rL ys] = some [.bool (decide (xs = ys))] := by
 rw [Fun_k (t := tm55) rfl]; unfold tm55
 by_cases hl : ys.length = xs.length
 ·simp (disch := first | assumption | omega) only [S0, reduceIte, reduceCtorEq, reduceAdd, reduceEqDiff, Int.reduceBEq, reduceLT, reduceLE, *]
  rw [scanX 1 xs.length (fun i => decide (atI xs i = atI ys i)) [.bool false], allB_eq hl.symm]
  ·(refine fork_in ?_; repeat' (refine fork_eq (fun _ => ?_) (fun _ => ?_) <;> try simp (disch := first | assumption | omega) only [S0, reduceIte, reduceCtorEq, reduceAdd, reduceEqDiff, Int.reduceBEq, reduceLT, reduceLE, *]))
  ·intro i hi hp
   have hb : InB xs (i : Int) := InB_nat.2 hi
   have hb' : InB ys (i : Int) := InB_nat.2 (by omega)
   have h2 : decide ((i : Int) < xs.length) = true := by simp; omega
   have h3 : (atI xs i == atI ys i) = true := by simpa using hp
   (refine fork_in ?_; repeat' (refine fork_eq (fun _ => ?_) (fun _ => ?_) <;> try simp (disch := first | assumption | omega) only [S0, reduceIte, reduceCtorEq, reduceAdd, reduceEqDiff, Int.reduceBEq, reduceLT, reduceLE, S_row, *]))
  ·intro i hi hp
   have hb : InB xs (i : Int) := InB_nat.2 hi
   have hb' : InB ys (i : Int) := InB_nat.2 (by omega)
   have h2 : decide ((i : Int) < xs.length) = true := by simp; omega
   have h3 : (atI xs i == atI ys i) = false := by simpa using hp
   (refine fork_in ?_; repeat' (refine fork_eq (fun _ => ?_) (fun _ => ?_) <;> try simp (disch := first | assumption | omega) only [S0, reduceIte, reduceCtorEq, reduceAdd, reduceEqDiff, Int.reduceBEq, reduceLT, reduceLE, S_row, *]))
  ·have h2 : decide ((xs.length : Int) < xs.length) = false := by simp
   (refine fork_in ?_; repeat' (refine fork_eq (fun _ => ?_) (fun _ => ?_) <;> try simp (disch := first | assumption | omega) only [S0, reduceIte, reduceCtorEq, reduceAdd, reduceEqDiff, Int.reduceBEq, reduceLT, reduceLE, *]))
 ·have hl' : ((xs.length : Int) == (ys.length : Int)) = false := by simp; omega
  have e := eq_len (fun h => hl h.symm)
  (refine fork_in ?_; repeat' (refine fork_eq (fun _ => ?_) (fun _ => ?_) <;> try simp (disch := first | assumption | omega) only [S0, reduceIte, reduceCtorEq, reduceAdd, reduceEqDiff, Int.reduceBEq, reduceLT, reduceLE, *]))
theorem spec_SameAttr (s s' : Int) (xs ys : List Int) (hx : xs.length ≤ 1099511627776) : Fun T 20 [i64 s, rL xs, i64 s', rL ys] = some [.bool (decide ((⟨s, xs⟩ : TAttr) = ⟨s', ys⟩))] := by
 rw [Fun_k (t := tm20) rfl]; unfold tm20
 have e : decide ((⟨s, xs⟩ : TAttr) = ⟨s', ys⟩) = (s == s' && decide (xs = ys)) := by simp [TAttr.mk.injEq, Bool.beq_eq_decide_eq]
 (refine fork_in ?_; repeat' (refine fork_eq (fun _ => ?_) (fun _ => ?_) <;> try simp (disch := first | assumption | omega) only [S0, reduceIte, reduceCtorEq, reduceAdd, reduceEqDiff, Int.reduceBEq, reduceLT, reduceLE, spec_l1Same, e, *]))
theorem impl_SameAttr (s s' : Int) (xs ys : List Int) (hx : xs.length ≤ 1099511627776) : Fun T 54 [i64 s, rL xs, i64 s', rL ys] = some [.bool (decide ((⟨s, xs⟩ : TAttr) = ⟨s', ys⟩))] := by
 rw [Fun_k (t := tm54) rfl]; unfold tm54
 have e : decide ((⟨s, xs⟩ : TAttr) = ⟨s', ys⟩) = (s == s' && decide (xs = ys)) := by simp [TAttr.mk.injEq, Bool.beq_eq_decide_eq]
 (refine fork_in ?_; repeat' (refine fork_eq (fun _ => ?_) (fun _ => ?_) <;> try simp (disch := first | assumption | omega) only [S0, reduceIte, reduceCtorEq, reduceAdd, reduceEqDiff, Int.reduceBEq, reduceLT, reduceLE, slices_Equal_int, e, *]))
theorem spec_l3None (n : Int) (hg : isGrp n = true) : Fun T 19 [i64 n] = some [i64 (none0 n).seq, rL (none0 n).deps] := by
 rw [Fun_k (t := tm19) rfl]; unfold tm19; unfold none0
 have hn := isGrp_rng hg
 (refine fork_in ?_; repeat' (refine fork_eq (fun _ => ?_) (fun _ => ?_) <;> try simp (disch := first | assumption | omega) only [S0, reduceIte, reduceCtorEq, reduceAdd, reduceEqDiff, Int.reduceBEq, reduceLT, reduceLE, S_make, *]))
theorem impl_noneAttr (n : Int) (hg : isGrp n = true) : Fun T 53 [i64 n] = some [i64 (none0 n).seq, rL (none0 n).deps] := by
 rw [Fun_k (t := tm53) rfl]; unfold tm53; unfold none0
 have hn := isGrp_rng hg
 (refine fork_in ?_; repeat' (refine fork_eq (fun _ => ?_) (fun _ => ?_) <;> try simp (disch := first | assumption | omega) only [S0, reduceIte, reduceCtorEq, reduceAdd, reduceEqDiff, Int.reduceBEq, reduceLT, reduceLE, S_make, *]))
theorem spec_l4Row (n bal vot sta k i f t a sq : Int) (xs : List Int) (hg : isGrp n = true) (hx : xs.length ≤ 1099511627776) :
  Fun T 17 [i64 n, i64 bal, i64 vot, i64 sta, i64 k, i64 i, i64 f, i64 t, i64 a, i64 sq, rL xs] = some [.bool (rowOk n ⟨bal, vot, sta, ⟨k, i, f, t, a⟩, ⟨sq, xs⟩⟩)] := by
 rw [Fun_k (t := tm17) rfl]; unfold tm17; unfold rowOk
 (refine fork_in ?_; repeat' (refine fork_eq (fun _ => ?_) (fun _ => ?_) <;> try simp (disch := first | assumption | omega) only [S0, reduceIte, reduceCtorEq, reduceAdd, reduceEqDiff, Int.reduceBEq, reduceLT, reduceLE, spec_l1In, S_eqs, spec_l3None, spec_SameAttr, spec_GoodCmd, spec_l3Attr, *]))
theorem impl_goodRow (n bal vot sta k i f t a sq : Int) (xs : List Int) (hg : isGrp n = true) (hx : xs.length ≤ 1099511627776) :
  Fun T 45 [i64 n, i64 bal, i64 vot, i64 sta, i64 k, i64 i, i64 f, i64 t, i64 a, i64 sq, rL xs] = some [.bool (rowOk n ⟨bal, vot, sta, ⟨k, i, f, t, a⟩, ⟨sq, xs⟩⟩)] := by
 rw [Fun_k (t := tm45) rfl]; unfold tm45; unfold rowOk
 have h1 := @cmdZ_ok ⟨k, i, f, t, a⟩
 have h2 := none0_ok hg
 have h3 : decide ((⟨sq, xs⟩ : TAttr) = none0 n) = true → attrOk n ⟨sq, xs⟩ = true := fun h => by rw [of_decide_eq_true h]; exact h2
 (refine fork_in ?_; repeat' (refine fork_eq (fun _ => ?_) (fun _ => ?_) <;> try simp (disch := first | assumption | omega) only [S0, reduceIte, reduceCtorEq, reduceAdd, reduceEqDiff, Int.reduceBEq, reduceLT, reduceLE, impl_within, S_eqs, impl_noneAttr, impl_SameAttr, impl_GoodCmd, impl_GoodAttr, *]))
 all_goals (refine bool_fin ?_; simp only [Bool.and_eq_true, Bool.or_eq_true, Bool.not_eq_true', Bool.not_eq_false', Bool.and_eq_false_iff, Bool.or_eq_false_iff, Bool.false_eq_true, beq_iff_eq, beq_eq_false_iff_ne, decide_eq_true_eq, decide_eq_false_iff_not, ne_eq] at *; grind)
theorem slices_Clone_int (xs : List Int) (hx : xs.length ≤ 10000000000) : Fun T 63 [rL xs] = some [rL xs] := by
 rw [Fun_ext (e := ex63) rfl]
 cases xs with
 | nil => rfl
 | cons x xs =>
  show Fun (entTab [(63, .tm tm63)]) 63 [rL (x :: xs)] = _
  rw [Fun_k (t := tm63) rfl]
  unfold tm63
  have hx' : (x :: xs).length ≤ 100000000000 := by omega
  have h0 : (Prim.mk 1 0).run [] = some [.rows 1 []] := rfl
  have h1 : (x :: xs).isEmpty = false := rfl
  simp (disch := first | assumption | omega) only [SA, SB, SC, SP, SQ, SZ, reduceIte, reduceCtorEq, Nat.reduceAdd, Nat.reduceEqDiff, rL_ne, rL_emp, h0, h1, S_app]
theorem impl_Attr_copied (s : Int) (xs : List Int) (hx : xs.length ≤ 10000000000) : Fun T 62 [i64 s, rL xs] = some [i64 s, rL xs] := by
 rw [Fun_k (t := tm62) rfl]; unfold tm62
 (refine fork_in ?_; repeat' (refine fork_eq (fun _ => ?_) (fun _ => ?_) <;> try simp (disch := first | assumption | omega) only [S0, reduceIte, reduceCtorEq, reduceAdd, reduceEqDiff, Int.reduceBEq, reduceLT, reduceLE, slices_Clone_int, *]))
theorem spec_GoodTable (n : Int) (rows : List (List TRow)) (hs : smTab rows) : Fun T 15 [i64 n, rL rows] = some [.bool (tabOk ⟨n, rows⟩)] := by
 rw [Fun_k (t := tm15) rfl]; unfold tm15; unfold tabOk
 obtain ⟨hs1, hs2⟩ := hs
 cases hg : isGrp n
 ·(refine fork_in ?_; repeat' (refine fork_eq (fun _ => ?_) (fun _ => ?_) <;> try simp (disch := first | assumption | omega) only [S0, reduceIte, reduceCtorEq, reduceAdd, reduceEqDiff, Int.reduceBEq, reduceLT, reduceLE, spec_IsGroup, *]))
 cases hl : (rows.length : Int) == n
 ·(refine fork_in ?_; repeat' (refine fork_eq (fun _ => ?_) (fun _ => ?_) <;> try simp (disch := first | assumption | omega) only [S0, reduceIte, reduceCtorEq, reduceAdd, reduceEqDiff, Int.reduceBEq, reduceLT, reduceLE, spec_IsGroup, *]))
 simp (disch := first | assumption | omega) only [S0, reduceIte, reduceCtorEq, reduceAdd, reduceEqDiff, Int.reduceBEq, reduceLT, reduceLE, spec_IsGroup, *]
 rw [allF 1 rows (fun l => l.all (fun r => rowOk n r) && decide ((l.length : Int) ≤ 6)) [.bool false]]
 ·(refine fork_in ?_; repeat' (refine fork_eq (fun _ => ?_) (fun _ => ?_) <;> try simp (disch := first | assumption | omega) only [S0, reduceIte, reduceCtorEq, reduceAdd, reduceEqDiff, Int.reduceBEq, reduceLT, reduceLE, *]))
 ·intro i hi hb hlt hm
  obtain ⟨hq1, hq2⟩ := hs2 _ hm
  simp (disch := first | assumption | omega) only [S0, reduceIte, reduceCtorEq, reduceAdd, reduceEqDiff, Int.reduceBEq, reduceLT, reduceLE, S_row, *]
  rw [allF 3 (atI rows i) (fun r => rowOk n r) [.bool false]]
  ·have e : decide (6 < ((atI rows (i : Int)).length : Int)) = !decide (((atI rows (i : Int)).length : Int) ≤ 6) := by
    by_cases h : ((atI rows (i : Int)).length : Int) ≤ 6
    ·simp [h]
    ·simp [h]; omega
   (refine fork_in ?_; repeat' (refine fork_eq (fun _ => ?_) (fun _ => ?_) <;> try simp (disch := first | assumption | omega) only [S0, reduceIte, reduceCtorEq, reduceAdd, reduceEqDiff, Int.reduceBEq, reduceLT, reduceLE, e, *]))
  ·intro j hj hb2 hlt2 hm2
   have hq3 := hq2 _ hm2
   have hq4 : (atI (atI rows (i : Int)) (j : Int)).attr.deps.length ≤ 1099511627776 := by omega
   (refine fork_in ?_; repeat' (refine fork_eq (fun _ => ?_) (fun _ => ?_) <;> try simp (disch := first | assumption | omega) only [S0, reduceIte, reduceCtorEq, reduceAdd, reduceEqDiff, Int.reduceBEq, reduceLT, reduceLE, S_row, spec_l4Row, *]))
  ·intro hl2
   (refine fork_in ?_; repeat' (refine fork_eq (fun _ => ?_) (fun _ => ?_) <;> try simp (disch := first | assumption | omega) only [S0, reduceIte, reduceCtorEq, reduceAdd, reduceEqDiff, Int.reduceBEq, reduceLT, reduceLE, *]))
 ·intro hl2
  (refine fork_in ?_; repeat' (refine fork_eq (fun _ => ?_) (fun _ => ?_) <;> try simp (disch := first | assumption | omega) only [S0, reduceIte, reduceCtorEq, reduceAdd, reduceEqDiff, Int.reduceBEq, reduceLT, reduceLE, *]))
theorem impl_GoodTable_1_1 (r_ballot r_vote r_state r_cmd_kind r_cmd_id r_cmd_src r_cmd_dst r_cmd_amt r_attr_seq : Int) (r_attr_deps : (List Int)) (n : Int) (rows : List (List TRow)) (hg : isGrp n = true) (hx : r_attr_deps.length ≤ 1099511627776) : Fun T 44 [i64 r_ballot, i64 r_vote, i64 r_state, i64 r_cmd_kind, i64 r_cmd_id, i64 r_cmd_src, i64 r_cmd_dst, i64 r_cmd_amt, i64 r_attr_seq, rL r_attr_deps, i64 n, rL rows] = some [.bool (!rowOk n ⟨r_ballot, r_vote, r_state, ⟨r_cmd_kind, r_cmd_id, r_cmd_src, r_cmd_dst, r_cmd_amt⟩, ⟨r_attr_seq, r_attr_deps⟩⟩)] := by
 rw [Fun_k (t := tm44) rfl]; unfold tm44
 (refine fork_in ?_; repeat' (refine fork_eq (fun _ => ?_) (fun _ => ?_) <;> try simp (disch := first | assumption | omega) only [S0, reduceIte, reduceCtorEq, reduceAdd, reduceEqDiff, Int.reduceBEq, reduceLT, reduceLE, impl_goodRow, *]))
theorem ix_GoodTable_1_1 (n : Int) (rows : List (List TRow)) (hg : isGrp n = true) (xs : List TRow) (hx : xs.length ≤ 1099511627776) (hq : ∀ x ∈ xs, x.attr.deps.length ≤ 1099511627776) : Fun T 43 [rL xs, i64 n, rL rows] = some [i64 (ixF (fun r => !rowOk n r) xs)] := by
 rw [Fun_k (t := tm43) rfl]; unfold tm43
 simp (disch := first | assumption | omega) only [S0, reduceIte, reduceCtorEq, reduceAdd, reduceEqDiff, Int.reduceBEq, reduceLT, reduceLE, S_row, *]
 rw [findX 1 xs (fun r => !rowOk n r) (fun i => [i64 i])]
 ·cases h : xs.any (fun r => !rowOk n r)
  ·have e : ixF (fun r => !rowOk n r) xs = -1 := by
    have h2 := ixF_any (fun r => !rowOk n r) xs
    rw [h] at h2
    unfold ixF at h2 ⊢
    split at h2 <;> simp_all
   rw [e]; simp (disch := first | assumption | omega) only [S0, reduceIte, reduceCtorEq, reduceAdd, reduceEqDiff, Int.reduceBEq, reduceLT, reduceLE]
  ·simp (disch := first | assumption | omega) only [S0, reduceIte, reduceCtorEq, reduceAdd, reduceEqDiff, Int.reduceBEq, reduceLT, reduceLE]
 ·intro i hi hb hl hp
  have hq' := hq _ (at_mem hi)
  try simp only at hq' hp
  (refine fork_in ?_; repeat' (refine fork_eq (fun _ => ?_) (fun _ => ?_) <;> try simp (disch := first | assumption | omega) only [S0, reduceIte, reduceCtorEq, reduceAdd, reduceEqDiff, Int.reduceBEq, reduceLT, reduceLE, S_row, impl_GoodTable_1_1, *]))
 ·intro i hi hb hl hp
  have hq' := hq _ (at_mem hi)
  try simp only at hq' hp
  (refine fork_in ?_; repeat' (refine fork_eq (fun _ => ?_) (fun _ => ?_) <;> try simp (disch := first | assumption | omega) only [S0, reduceIte, reduceCtorEq, reduceAdd, reduceEqDiff, Int.reduceBEq, reduceLT, reduceLE, S_row, impl_GoodTable_1_1, *]))
 ·intro hl
  (refine fork_in ?_; repeat' (refine fork_eq (fun _ => ?_) (fun _ => ?_) <;> try simp (disch := first | assumption | omega) only [S0, reduceIte, reduceCtorEq, reduceAdd, reduceEqDiff, Int.reduceBEq, reduceLT, reduceLE, *]))
theorem ct_GoodTable_1_1 (n : Int) (rows : List (List TRow)) (hg : isGrp n = true) (xs : List TRow) (hx : xs.length ≤ 1099511627776) (hq : ∀ x ∈ xs, x.attr.deps.length ≤ 1099511627776) : Fun T 42 [rL xs, i64 n, rL rows] = some [.bool (xs.any (fun r => !rowOk n r))] := by
 rw [Fun_k (t := tm42) rfl]; unfold tm42
 (refine fork_in ?_; repeat' (refine fork_eq (fun _ => ?_) (fun _ => ?_) <;> try simp (disch := first | assumption | omega) only [S0, reduceIte, reduceCtorEq, reduceAdd, reduceEqDiff, Int.reduceBEq, reduceLT, reduceLE, ix_GoodTable_1_1, ixF_any, *]))
theorem impl_GoodTable_1 (l : List TRow) (n : Int) (rows : List (List TRow)) (hg : isGrp n = true) (hx : l.length ≤ 1099511627776) (hq : ∀ x ∈ l, x.attr.deps.length ≤ 1099511627776) : Fun T 41 [rL l, i64 n, rL rows] = some [.bool (decide (6 < (l.length : Int)) || l.any fun r => !rowOk n r)] := by
 rw [Fun_k (t := tm41) rfl]; unfold tm41
 (refine fork_in ?_; repeat' (refine fork_eq (fun _ => ?_) (fun _ => ?_) <;> try simp (disch := first | assumption | omega) only [S0, reduceIte, reduceCtorEq, reduceAdd, reduceEqDiff, Int.reduceBEq, reduceLT, reduceLE, ct_GoodTable_1_1, *]))
theorem ix_GoodTable_1 (n : Int) (rows : List (List TRow)) (hg : isGrp n = true) (xs : List (List TRow)) (hx : xs.length ≤ 1099511627776) (hq : ∀ x ∈ xs, x.length ≤ 1099511627776 ∧ ∀ y ∈ x, y.attr.deps.length ≤ 1099511627776) : Fun T 40 [rL xs, i64 n, rL rows] = some [i64 (ixF (fun l => decide (6 < (l.length : Int)) || l.any fun r => !rowOk n r) xs)] := by
 rw [Fun_k (t := tm40) rfl]; unfold tm40
 simp (disch := first | assumption | omega) only [S0, reduceIte, reduceCtorEq, reduceAdd, reduceEqDiff, Int.reduceBEq, reduceLT, reduceLE, S_row, *]
 rw [findX 1 xs (fun l => decide (6 < (l.length : Int)) || l.any fun r => !rowOk n r) (fun i => [i64 i])]
 ·cases h : xs.any (fun l => decide (6 < (l.length : Int)) || l.any fun r => !rowOk n r)
  ·have e : ixF (fun l => decide (6 < (l.length : Int)) || l.any fun r => !rowOk n r) xs = -1 := by
    have h2 := ixF_any (fun l => decide (6 < (l.length : Int)) || l.any fun r => !rowOk n r) xs
    rw [h] at h2
    unfold ixF at h2 ⊢
    split at h2 <;> simp_all
   rw [e]; simp (disch := first | assumption | omega) only [S0, reduceIte, reduceCtorEq, reduceAdd, reduceEqDiff, Int.reduceBEq, reduceLT, reduceLE]
  ·simp (disch := first | assumption | omega) only [S0, reduceIte, reduceCtorEq, reduceAdd, reduceEqDiff, Int.reduceBEq, reduceLT, reduceLE]
 ·intro i hi hb hl hp
  have hq' := hq _ (at_mem hi)
  try simp only at hq' hp
  obtain ⟨hq1, hq2⟩ := hq'
  (refine fork_in ?_; repeat' (refine fork_eq (fun _ => ?_) (fun _ => ?_) <;> try simp (disch := first | assumption | omega) only [S0, reduceIte, reduceCtorEq, reduceAdd, reduceEqDiff, Int.reduceBEq, reduceLT, reduceLE, S_row, impl_GoodTable_1, *]))
 ·intro i hi hb hl hp
  have hq' := hq _ (at_mem hi)
  try simp only at hq' hp
  obtain ⟨hq1, hq2⟩ := hq'
  (refine fork_in ?_; repeat' (refine fork_eq (fun _ => ?_) (fun _ => ?_) <;> try simp (disch := first | assumption | omega) only [S0, reduceIte, reduceCtorEq, reduceAdd, reduceEqDiff, Int.reduceBEq, reduceLT, reduceLE, S_row, impl_GoodTable_1, *]))
 ·intro hl
  (refine fork_in ?_; repeat' (refine fork_eq (fun _ => ?_) (fun _ => ?_) <;> try simp (disch := first | assumption | omega) only [S0, reduceIte, reduceCtorEq, reduceAdd, reduceEqDiff, Int.reduceBEq, reduceLT, reduceLE, *]))
theorem ct_GoodTable_1 (n : Int) (rows : List (List TRow)) (hg : isGrp n = true) (xs : List (List TRow)) (hx : xs.length ≤ 1099511627776) (hq : ∀ x ∈ xs, x.length ≤ 1099511627776 ∧ ∀ y ∈ x, y.attr.deps.length ≤ 1099511627776) : Fun T 39 [rL xs, i64 n, rL rows] = some [.bool (xs.any (fun l => decide (6 < (l.length : Int)) || l.any fun r => !rowOk n r))] := by
 rw [Fun_k (t := tm39) rfl]; unfold tm39
 (refine fork_in ?_; repeat' (refine fork_eq (fun _ => ?_) (fun _ => ?_) <;> try simp (disch := first | assumption | omega) only [S0, reduceIte, reduceCtorEq, reduceAdd, reduceEqDiff, Int.reduceBEq, reduceLT, reduceLE, ix_GoodTable_1, ixF_any, *]))
theorem impl_GoodTable (n : Int) (rows : List (List TRow)) (hs : smTab rows) : Fun T 37 [i64 n, rL rows] = some [.bool (tabOk ⟨n, rows⟩)] := by
 rw [Fun_k (t := tm37) rfl]; unfold tm37; unfold tabOk
 obtain ⟨hs1, hs2⟩ := hs
 have hs3 : ∀ x ∈ rows, x.length ≤ 1099511627776 ∧ ∀ y ∈ x, y.attr.deps.length ≤ 1099511627776 := fun x hx => ⟨by have := (hs2 x hx).1; omega, fun y hy => by have := (hs2 x hx).2 y hy; omega⟩
 have e : (rows.any fun l => decide (6 < (l.length : Int)) || l.any fun r => !rowOk n r) = !rows.all fun l => l.all (fun r => rowOk n r) && decide ((l.length : Int) ≤ 6) := by
  rw [List.not_all_eq_any_not]
  congr 1
  funext l
  rw [← List.not_all_eq_any_not, Bool.not_and, Bool.or_comm]
  congr 1
  by_cases h : (l.length : Int) ≤ 6
  ·simp [h]
  ·simp [h]; omega
 (refine fork_in ?_; repeat' (refine fork_eq (fun _ => ?_) (fun _ => ?_) <;> try simp (disch := first | assumption | omega) only [S0, reduceIte, reduceCtorEq, reduceAdd, reduceEqDiff, Int.reduceBEq, reduceLT, reduceLE, impl_IsGroup, ct_GoodTable_1, e, Bool.not_not, *]))
theorem spec_l1Own (xs : List Int) (hx : xs.length ≤ 10000000000) : Fun T 33 [rL xs] = some [rL xs] := by
 rw [Fun_k (t := tm33) rfl]; unfold tm33
 have h0 : (Prim.mk 1 0).run [] = some [.rows 1 []] := rfl
 (refine fork_in ?_; repeat' (refine fork_eq (fun _ => ?_) (fun _ => ?_) <;> try simp (disch := first | assumption | omega) only [S0, reduceIte, reduceCtorEq, reduceAdd, reduceEqDiff, Int.reduceBEq, reduceLT, reduceLE, h0, S_app, *]))
theorem spec_l4OwnAttr (s : Int) (xs : List Int) (hx : xs.length ≤ 10000000000) : Fun T 32 [i64 s, rL xs] = some [i64 s, rL xs] := by
 rw [Fun_k (t := tm32) rfl]; unfold tm32
 (refine fork_in ?_; repeat' (refine fork_eq (fun _ => ?_) (fun _ => ?_) <;> try simp (disch := first | assumption | omega) only [S0, reduceIte, reduceCtorEq, reduceAdd, reduceEqDiff, Int.reduceBEq, reduceLT, reduceLE, spec_l1Own, *]))
theorem spec_l4OwnRow (r_ballot r_vote r_state r_cmd_kind r_cmd_id r_cmd_src r_cmd_dst r_cmd_amt r_attr_seq : Int) (r_attr_deps : (List Int)) (hx : r_attr_deps.length ≤ 10000000000) : Fun T 31 [i64 r_ballot, i64 r_vote, i64 r_state, i64 r_cmd_kind, i64 r_cmd_id, i64 r_cmd_src, i64 r_cmd_dst, i64 r_cmd_amt, i64 r_attr_seq, rL r_attr_deps] = some [i64 r_ballot, i64 r_vote, i64 r_state, i64 r_cmd_kind, i64 r_cmd_id, i64 r_cmd_src, i64 r_cmd_dst, i64 r_cmd_amt, i64 r_attr_seq, rL r_attr_deps] := by
 rw [Fun_k (t := tm31) rfl]; unfold tm31
 (refine fork_in ?_; repeat' (refine fork_eq (fun _ => ?_) (fun _ => ?_) <;> try simp (disch := first | assumption | omega) only [S0, reduceIte, reduceCtorEq, reduceAdd, reduceEqDiff, Int.reduceBEq, reduceLT, reduceLE, spec_l4OwnAttr, *]))
theorem impl_Row_copied (r_ballot r_vote r_state r_cmd_kind r_cmd_id r_cmd_src r_cmd_dst r_cmd_amt r_attr_seq : Int) (r_attr_deps : (List Int)) (hx : r_attr_deps.length ≤ 10000000000) : Fun T 61 [i64 r_ballot, i64 r_vote, i64 r_state, i64 r_cmd_kind, i64 r_cmd_id, i64 r_cmd_src, i64 r_cmd_dst, i64 r_cmd_amt, i64 r_attr_seq, rL r_attr_deps] = some [i64 r_ballot, i64 r_vote, i64 r_state, i64 r_cmd_kind, i64 r_cmd_id, i64 r_cmd_src, i64 r_cmd_dst, i64 r_cmd_amt, i64 r_attr_seq, rL r_attr_deps] := by
 rw [Fun_k (t := tm61) rfl]; unfold tm61
 (refine fork_in ?_; repeat' (refine fork_eq (fun _ => ?_) (fun _ => ?_) <;> try simp (disch := first | assumption | omega) only [S0, reduceIte, reduceCtorEq, reduceAdd, reduceEqDiff, Int.reduceBEq, reduceLT, reduceLE, impl_Attr_copied, *]))
theorem spec_l4At (n : Int) (rows : List (List TRow)) (rep no : Int) (hg : isGrp n = true) (hs : smTab rows) (hb : InB rows rep) (h1 : 1 ≤ no) (h2 : no ≤ 1000) : Fun T 30 [i64 n, rL rows, i64 rep, i64 no] = some [i64 (trow ⟨n, rows⟩ rep no).ballot, i64 (trow ⟨n, rows⟩ rep no).vote, i64 (trow ⟨n, rows⟩ rep no).state, i64 (trow ⟨n, rows⟩ rep no).cmd.kind, i64 (trow ⟨n, rows⟩ rep no).cmd.id, i64 (trow ⟨n, rows⟩ rep no).cmd.src, i64 (trow ⟨n, rows⟩ rep no).cmd.dst, i64 (trow ⟨n, rows⟩ rep no).cmd.amt, i64 (trow ⟨n, rows⟩ rep no).attr.seq, rL (trow ⟨n, rows⟩ rep no).attr.deps] := by
 rw [Fun_k (t := tm30) rfl]; unfold tm30; unfold trow row0
 have hq := hs.2 _ (at_memI hb)
 by_cases h : no ≤ (atI rows rep).length
 ·have h3 : decide (((atI rows rep).length : Int) < no) = false := by simp; omega
  have hb2 : InB (atI rows rep) (no - 1) := by unfold InB; omega
  have hq2 := hq.2 _ (at_memI hb2)
  (refine fork_in ?_; repeat' (refine fork_eq (fun _ => ?_) (fun _ => ?_) <;> try simp (disch := first | assumption | omega) only [S0, reduceIte, reduceCtorEq, reduceAdd, reduceEqDiff, Int.reduceBEq, reduceLT, reduceLE, S_row, spec_l4OwnRow, *]))
 ·have h3 : decide (((atI rows rep).length : Int) < no) = true := by simp; omega
  (refine fork_in ?_; repeat' (refine fork_eq (fun _ => ?_) (fun _ => ?_) <;> try simp (disch := first | assumption | omega) only [S0, reduceIte, reduceCtorEq, reduceAdd, reduceEqDiff, Int.reduceBEq, reduceLT, reduceLE, S_row, spec_l3None, *]))
theorem impl_Table_row (n : Int) (rows : List (List TRow)) (rep no : Int) (hg : isGrp n = true) (hs : smTab rows) (hb : InB rows rep) (h1 : 1 ≤ no) (h2 : no ≤ 1000) : Fun T 60 [i64 n, rL rows, i64 rep, i64 no] = some [i64 (trow ⟨n, rows⟩ rep no).ballot, i64 (trow ⟨n, rows⟩ rep no).vote, i64 (trow ⟨n, rows⟩ rep no).state, i64 (trow ⟨n, rows⟩ rep no).cmd.kind, i64 (trow ⟨n, rows⟩ rep no).cmd.id, i64 (trow ⟨n, rows⟩ rep no).cmd.src, i64 (trow ⟨n, rows⟩ rep no).cmd.dst, i64 (trow ⟨n, rows⟩ rep no).cmd.amt, i64 (trow ⟨n, rows⟩ rep no).attr.seq, rL (trow ⟨n, rows⟩ rep no).attr.deps] := by
 rw [Fun_k (t := tm60) rfl]; unfold tm60; unfold trow row0
 have hq := hs.2 _ (at_memI hb)
 by_cases h : no ≤ (atI rows rep).length
 ·have h3 : decide (no ≤ ((atI rows rep).length : Int)) = true := by simp; omega
  have hb2 : InB (atI rows rep) (no - 1) := by unfold InB; omega
  have hq2 := hq.2 _ (at_memI hb2)
  (refine fork_in ?_; repeat' (refine fork_eq (fun _ => ?_) (fun _ => ?_) <;> try simp (disch := first | assumption | omega) only [S0, reduceIte, reduceCtorEq, reduceAdd, reduceEqDiff, Int.reduceBEq, reduceLT, reduceLE, S_row, impl_Row_copied, *]))
 ·have h3 : decide (no ≤ ((atI rows rep).length : Int)) = false := by simp; omega
  (refine fork_in ?_; repeat' (refine fork_eq (fun _ => ?_) (fun _ => ?_) <;> try simp (disch := first | assumption | omega) only [S0, reduceIte, reduceCtorEq, reduceAdd, reduceEqDiff, Int.reduceBEq, reduceLT, reduceLE, S_row, impl_noneAttr, *]))
theorem spec_l1Put (xs : List Int) (n : Int) (hx : xs.length ≤ 10000000000) : Fun T 35 [rL xs, i64 n] = some [rL (putM xs n)] := by
 rw [Fun_k (t := tm35) rfl]; unfold tm35; unfold putM
 have hk := putK_le xs n
 have h0 : (Prim.mk 1 0).run [] = some [.rows 1 []] := rfl
 simp (disch := first | assumption | omega) only [S0, reduceIte, reduceCtorEq, reduceAdd, reduceEqDiff, Int.reduceBEq, reduceLT, reduceLE]
 rw [whileE (T := T) (.yield 1, [i64 (putK xs n : Nat)]) (fun k : Nat => putK xs n - k) (fun k => k ≤ putK xs n) (fun k => [i64 k]) 0 rfl (by omega) (by simp)]
 ·have l1 : (xs.take (putK xs n)).length ≤ 10000000000 := by rw [List.length_take]; omega
  have l2 : (xs.take (putK xs n)).length + ([n] : List Int).length ≤ 100000000000 := by simp only [List.length_cons, List.length_nil]; omega
  have l3 : (xs.take (putK xs n) ++ [n]).length + (xs.drop (putK xs n)).length ≤ 100000000000 := by simp only [List.length_append, List.length_cons, List.length_nil, List.length_drop]; omega
  by_cases h : putK xs n < xs.length
  ·have hb : InB xs (putK xs n : Nat) := InB_nat.2 h
   have h2 : decide ((putK xs n : Int) < xs.length) = true := by simp; omega
   cases h3 : atI xs (putK xs n : Nat) == n
   ·simp (disch := first | assumption | omega) only [S0, reduceIte, reduceCtorEq, reduceAdd, reduceEqDiff, Int.reduceBEq, reduceLT, reduceLE, S_row, S_mk, S_app, S_sub, h0, h2, h3, hb, Int.toNat_natCast, Int.toNat_zero, List.drop_zero, List.take_length]
   ·simp (disch := first | assumption | omega) only [S0, reduceIte, reduceCtorEq, reduceAdd, reduceEqDiff, Int.reduceBEq, reduceLT, reduceLE, S_row, S_mk, S_app, S_sub, h0, h2, h3, hb]
  ·have h2 : decide ((putK xs n : Int) < xs.length) = false := by simp; omega
   simp (disch := first | assumption | omega) only [S0, reduceIte, reduceCtorEq, reduceAdd, reduceEqDiff, Int.reduceBEq, reduceLT, reduceLE, S_row, S_mk, S_app, S_sub, h0, h2, Int.toNat_natCast, Int.toNat_zero, List.drop_zero, List.take_length]
 ·intro k hk2
  by_cases h : k < putK xs n
  ·have hb : InB xs (k : Int) := InB_nat.2 (by omega)
   have h2 : decide ((k : Int) < xs.length) = true := by simp; omega
   have h3 : decide (atI xs (k : Int) < n) = true := by simpa using putK_lt h
   refine .inl ⟨k + 1, ?_, by omega, by omega⟩
   simp (disch := first | assumption | omega) only [S0, reduceIte, reduceCtorEq, reduceAdd, reduceEqDiff, Int.reduceBEq, reduceLT, reduceLE, S_row, h2, h3, hb]
  ·obtain rfl : k = putK xs n := by omega
   refine .inr ?_
   by_cases h4 : putK xs n < xs.length
   ·have hb : InB xs (putK xs n : Nat) := InB_nat.2 h4
    have h2 : decide ((putK xs n : Int) < xs.length) = true := by simp; omega
    have h3 : decide (atI xs (putK xs n : Nat) < n) = false := by simpa using putK_ge h4
    simp (disch := first | assumption | omega) only [S0, reduceIte, reduceCtorEq, reduceAdd, reduceEqDiff, Int.reduceBEq, reduceLT, reduceLE, S_row, h2, h3, hb]
   ·have h2 : decide ((putK xs n : Int) < xs.length) = false := by simp; omega
    simp (disch := first | assumption | omega) only [S0, reduceIte, reduceCtorEq, reduceAdd, reduceEqDiff, Int.reduceBEq, reduceLT, reduceLE, S_row, h2]
theorem spec_l4Committed (n : Int) (rows : List (List TRow)) (hs : ∀ l ∈ rows, l.length ≤ 6) (hl : rows.length ≤ 100) : Fun T 28 [i64 n, rL rows] = some [rL (comM rows)] := by
 rw [Fun_k (t := tm28) rfl]; unfold tm28; unfold comM
 simp (disch := first | assumption | omega) only [S0, reduceIte, reduceCtorEq, reduceAdd, reduceEqDiff, Int.reduceBEq, reduceLT, reduceLE]
 rw [loopN rows.length (fun k => [rL (comN rows k), i64 k]) (.yield 1, [rL (comN rows rows.length)]) rfl (by simp)]
 ·simp (disch := first | assumption | omega) only [S0, reduceIte, reduceCtorEq, reduceAdd, reduceEqDiff, Int.reduceBEq, reduceLT, reduceLE]
 ·intro k hk hlt
  have hb : InB rows (k : Int) := InB_nat.2 hk
  have h6 := hs _ (at_mem hk)
  have hln := comN_len hs (m := k) (by omega)
  simp (disch := first | assumption | omega) only [S0, reduceIte, reduceCtorEq, reduceAdd, reduceEqDiff, Int.reduceBEq, reduceLT, reduceLE, S_row, hlt]
  rw [loopN (atI rows (k : Int)).length (fun i => [rL (comN rows k ++ comRowN (atI rows (k : Int)) k i), i64 i]) (.yield 3, [rL (comN rows (k + 1))]) (by show [rL (comN rows k), _] = _; simp [comRowN, Atom.val]) (by simp)]
  ·simp (disch := first | assumption | omega) only [S0, reduceIte, reduceCtorEq, reduceAdd, reduceEqDiff, Int.reduceBEq, reduceLT, reduceLE]
  ·intro i hi hlt2
   have hb2 : InB (atI rows (k : Int)) (i : Int) := InB_nat.2 hi
   have hlc := comRowN_len (atI rows (k : Int)) k i
   have hll : (comN rows k ++ comRowN (atI rows (k : Int)) k i).length + ([[(k : Int), (i : Int) + 1]] : List (List Int)).length ≤ 100000000000 := by
    rw [List.length_append]; simp only [List.length_cons, List.length_nil]; omega
   have e := comRowN_succ (atI rows (k : Int)) k i
   cases hst : (atI (atI rows (k : Int)) (i : Int)).state == 3
   ·rw [hst] at e
    simp only [Bool.false_eq_true, if_false, List.append_nil] at e
    simp (disch := first | assumption | omega) only [S0, reduceIte, reduceCtorEq, reduceAdd, reduceEqDiff, Int.reduceBEq, reduceLT, reduceLE, S_row, hlt2, hst, e]
   ·rw [hst] at e
    simp only [if_true] at e
    simp (disch := first | assumption | omega) only [S0, reduceIte, reduceCtorEq, reduceAdd, reduceEqDiff, Int.reduceBEq, reduceLT, reduceLE, S_row, S_mk, S_app, hlt2, hst, e, ← List.append_assoc]
  ·intro hlt2
   rw [← comN_succ]
   simp (disch := first | assumption | omega) only [S0, reduceIte, reduceCtorEq, reduceAdd, reduceEqDiff, Int.reduceBEq, reduceLT, reduceLE, hlt2]
 ·intro hlt
  simp (disch := first | assumption | omega) only [S0, reduceIte, reduceCtorEq, reduceAdd, reduceEqDiff, Int.reduceBEq, reduceLT, reduceLE, hlt]
theorem impl_Table_committed_1 (k m : Int) (r_ballot r_vote r_state r_cmd_kind r_cmd_id r_cmd_src r_cmd_dst r_cmd_amt r_attr_seq : Int) (r_attr_deps : (List Int)) (out : List (List Int)) (hl : out.length ≤ 10000000000) : Fun T 59 [i64 k, i64 m, i64 r_ballot, i64 r_vote, i64 r_state, i64 r_cmd_kind, i64 r_cmd_id, i64 r_cmd_src, i64 r_cmd_dst, i64 r_cmd_amt, i64 r_attr_seq, rL r_attr_deps, rL out] = some [rL (out ++ if r_state == 3 then [[k, m]] else [])] := by
 rw [Fun_k (t := tm59) rfl]; unfold tm59
 have hll : out.length + ([[k, m]] : List (List Int)).length ≤ 100000000000 := by simp only [List.length_cons, List.length_nil]; omega
 cases hst : r_state == 3
 ·simp (disch := first | assumption | omega) only [S0, reduceIte, reduceCtorEq, reduceAdd, reduceEqDiff, Int.reduceBEq, reduceLT, reduceLE, hst, List.append_nil, Bool.false_eq_true]
 ·simp (disch := first | assumption | omega) only [S0, reduceIte, reduceCtorEq, reduceAdd, reduceEqDiff, Int.reduceBEq, reduceLT, reduceLE, S_mk, S_app, hst]
theorem each_committed (n : Int) (rows : List (List TRow)) (hs : ∀ l ∈ rows, l.length ≤ 6) (hl : rows.length ≤ 100) : Fun T 58 [i64 n, rL rows, .rows 1 []] = some [rL (comM rows)] := by
 rw [Fun_k (t := tm58) rfl]; unfold tm58; unfold comM
 simp (disch := first | assumption | omega) only [S0, reduceIte, reduceCtorEq, reduceAdd, reduceEqDiff, Int.reduceBEq, reduceLT, reduceLE]
 rw [loopN rows.length (fun k => [i64 k, rL (comN rows k)]) (.yield 1, [rL (comN rows rows.length)]) rfl (by simp)]
 ·simp (disch := first | assumption | omega) only [S0, reduceIte, reduceCtorEq, reduceAdd, reduceEqDiff, Int.reduceBEq, reduceLT, reduceLE]
 ·intro k hk hlt
  have hb : InB rows (k : Int) := InB_nat.2 hk
  have h6 := hs _ (at_mem hk)
  have hln := comN_len hs (m := k) (by omega)
  simp (disch := first | assumption | omega) only [S0, reduceIte, reduceCtorEq, reduceAdd, reduceEqDiff, Int.reduceBEq, reduceLT, reduceLE, S_row, hlt]
  rw [loopN (atI rows (k : Int)).length (fun i => [i64 i, rL (comN rows k ++ comRowN (atI rows (k : Int)) k i)]) (.yield 3, [rL (comN rows (k + 1))]) (by show [_, rL (comN rows k)] = _; simp [comRowN, Atom.val]) (by simp)]
  ·simp (disch := first | assumption | omega) only [S0, reduceIte, reduceCtorEq, reduceAdd, reduceEqDiff, Int.reduceBEq, reduceLT, reduceLE]
  ·intro i hi hlt2
   have hb2 : InB (atI rows (k : Int)) (i : Int) := InB_nat.2 hi
   have hlc := comRowN_len (atI rows (k : Int)) k i
   have hll : (comN rows k ++ comRowN (atI rows (k : Int)) k i).length ≤ 10000000000 := by
    rw [List.length_append]; omega
   have e := comRowN_succ (atI rows (k : Int)) k i
   simp (disch := first | assumption | omega) only [S0, reduceIte, reduceCtorEq, reduceAdd, reduceEqDiff, Int.reduceBEq, reduceLT, reduceLE, S_row, impl_Table_committed_1, hlt2, e, List.append_assoc]
  ·intro hlt2
   rw [← comN_succ]
   simp (disch := first | assumption | omega) only [S0, reduceIte, reduceCtorEq, reduceAdd, reduceEqDiff, Int.reduceBEq, reduceLT, reduceLE, hlt2]
 ·intro hlt
  simp (disch := first | assumption | omega) only [S0, reduceIte, reduceCtorEq, reduceAdd, reduceEqDiff, Int.reduceBEq, reduceLT, reduceLE, hlt]
theorem impl_Table_committed (n : Int) (rows : List (List TRow)) (hs : ∀ l ∈ rows, l.length ≤ 6) (hl : rows.length ≤ 100) : Fun T 57 [i64 n, rL rows] = some [rL (comM rows)] := by
 rw [Fun_k (t := tm57) rfl]; unfold tm57
 have h0 : (Prim.mk 1 0).run [] = some [.rows 1 []] := rfl
 simp (disch := first | assumption | omega) only [S0, reduceIte, reduceCtorEq, reduceAdd, reduceEqDiff, Int.reduceBEq, reduceLT, reduceLE, h0, each_committed]
theorem spec_l6Find (l : List (List Int)) (x : List Int) (hl : l.length ≤ 1099511627776) (hx : x.length ≤ 1099511627776) : Fun T 34 [rL l, rL x] = some [i64 (findM l x)] := by
 rw [Fun_k (t := tm34) rfl]; unfold tm34; unfold findM
 simp (disch := first | assumption | omega) only [S0, reduceIte, reduceCtorEq, reduceAdd, reduceEqDiff, Int.reduceBEq, reduceLT, reduceLE]
 rw [findX 1 l (fun y => decide (x = y)) (fun i => [i64 i])]
 ·cases h : l.any (fun y => decide (x = y))
  ·have e : ixF (fun y => decide (x = y)) l = -1 := by
    have h2 := ixF_any (fun y => decide (x = y)) l
    rw [h] at h2
    unfold ixF at h2 ⊢
    split at h2 <;> simp_all
   rw [e]; simp (disch := first | assumption | omega) only [S0, reduceIte, reduceCtorEq, reduceAdd, reduceEqDiff, Int.reduceBEq, reduceLT, reduceLE]
  ·simp (disch := first | assumption | omega) only [S0, reduceIte, reduceCtorEq, reduceAdd, reduceEqDiff, Int.reduceBEq, reduceLT, reduceLE]
 ·intro i hi hb hlt hp
  simp (disch := first | assumption | omega) only [S0, reduceIte, reduceCtorEq, reduceAdd, reduceEqDiff, Int.reduceBEq, reduceLT, reduceLE, S_row, spec_l1Same, hlt, hp]
 ·intro i hi hb hlt hp
  simp (disch := first | assumption | omega) only [S0, reduceIte, reduceCtorEq, reduceAdd, reduceEqDiff, Int.reduceBEq, reduceLT, reduceLE, S_row, spec_l1Same, hlt, hp]
 ·intro hlt
  simp (disch := first | assumption | omega) only [S0, reduceIte, reduceCtorEq, reduceAdd, reduceEqDiff, Int.reduceBEq, reduceLT, reduceLE, hlt]
theorem spec_l6Deps (n : Int) (rows : List (List TRow)) (rep no : Int) (ht : tabOk ⟨n, rows⟩ = true) (hi : inst n rep no = true) (hs : smTab rows) : Fun T 29 [i64 n, rL rows, i64 rep, i64 no] = some [rL (depM ⟨n, rows⟩ rep no)] := by
 rw [Fun_k (t := tm29) rfl]; unfold tm29; unfold depM
 have hg : isGrp n = true := tabOk_grp ht
 have hn := isGrp_rng hg
 have hb : InB rows rep := tabOk_in ht hi
 have hr := inst_rng hi
 have hd := trow_deps ht hi
 have h6 := rowOk_dep6 (trow_ok ht hi) hg
 simp only at hd
 simp (disch := first | assumption | omega) only [S0, reduceIte, reduceCtorEq, reduceAdd, reduceEqDiff, Int.reduceBEq, reduceLT, reduceLE, spec_l4At]
 generalize (trow ⟨n, rows⟩ rep no).attr.deps = deps at hd h6 ⊢
 have hdl : deps.length ≤ 5 := by omega
 rw [loopN deps.length (fun k => [rL (depN deps rep no k), i64 k]) (.yield 1, [rL (depN deps rep no deps.length)]) rfl (by simp)]
 ·simp (disch := first | assumption | omega) only [S0, reduceIte, reduceCtorEq, reduceAdd, reduceEqDiff, Int.reduceBEq, reduceLT, reduceLE]
 ·intro k hk hlt
  have hbk : InB deps (k : Int) := InB_nat.2 hk
  have hq := h6 _ (at_mem hk)
  have hln := depN_len (deps := deps) (rep := rep) (no := no) (fun d hd => (h6 d hd).2) (m := k) (by omega)
  simp (disch := first | assumption | omega) only [S0, reduceIte, reduceCtorEq, reduceAdd, reduceEqDiff, Int.reduceBEq, reduceLT, reduceLE, S_row, hlt]
  rw [loopN (atI deps (k : Int)).toNat (fun i => [rL (depN deps rep no k ++ depRow k rep no i), i64 ((i : Int) + 1)]) (.yield 3, [rL (depN deps rep no (k + 1))]) (by show [rL (depN deps rep no k), _] = _; simp [depRow, Atom.val]) (by simp)]
  ·simp (disch := first | assumption | omega) only [S0, reduceIte, reduceCtorEq, reduceAdd, reduceEqDiff, Int.reduceBEq, reduceLT, reduceLE]
  ·intro i hi2 hlt2
   have hlc := depRow_len (k : Int) rep no i
   have hll : (depN deps rep no k ++ depRow (k : Int) rep no i).length + ([[(k : Int), (i : Int) + 1]] : List (List Int)).length ≤ 100000000000 := by
    rw [List.length_append]; simp only [List.length_cons, List.length_nil]; omega
   have hle : decide ((i : Int) + 1 ≤ atI deps (k : Int)) = true := by simp; omega
   have e := depRow_succ (k : Int) rep no i
   cases h1 : (k : Int) == rep
   ·rw [h1] at e
    simp only [Bool.not_false, Bool.true_or, if_true] at e
    simp (disch := first | assumption | omega) only [S0, reduceIte, reduceCtorEq, reduceAdd, reduceEqDiff, Int.reduceBEq, reduceLT, reduceLE, S_mk, S_app, hle, h1, e, ← List.append_assoc]
   ·cases h2 : (i : Int) + 1 == no
    ·rw [h1, h2] at e
     simp only [Bool.not_false, Bool.not_true, Bool.or_true, if_true] at e
     simp (disch := first | assumption | omega) only [S0, reduceIte, reduceCtorEq, reduceAdd, reduceEqDiff, Int.reduceBEq, reduceLT, reduceLE, S_mk, S_app, hle, h1, h2, e, ← List.append_assoc]
    ·rw [h1, h2] at e
     simp only [Bool.not_true, Bool.or_false, Bool.false_eq_true, if_false, List.append_nil] at e
     simp (disch := first | assumption | omega) only [S0, reduceIte, reduceCtorEq, reduceAdd, reduceEqDiff, Int.reduceBEq, reduceLT, reduceLE, S_mk, S_app, hle, h1, h2, e]
  ·intro hlt2
   have hle : decide ((((atI deps (k : Int)).toNat : Nat) : Int) + 1 ≤ atI deps (k : Int)) = false := by simp; omega
   rw [← depN_succ]
   simp (disch := first | assumption | omega) only [S0, reduceIte, reduceCtorEq, reduceAdd, reduceEqDiff, Int.reduceBEq, reduceLT, reduceLE, hle]
 ·intro hlt
  simp (disch := first | assumption | omega) only [S0, reduceIte, reduceCtorEq, reduceAdd, reduceEqDiff, Int.reduceBEq, reduceLT, reduceLE, hlt]
theorem spec_l6Graph (n : Int) (rows : List (List TRow)) (ht : tabOk ⟨n, rows⟩ = true) (hs : smTab rows) : Fun T 27 [i64 n, rL rows] = some [rL (comM rows), rL (graphM ⟨n, rows⟩)] := by
 rw [Fun_k (t := tm27) rfl]; unfold tm27; unfold graphM
 have hg : isGrp n = true := tabOk_grp ht
 have hn := isGrp_rng hg
 have hl : (rows.length : Int) = n := tabOk_len ht
 have h6 : ∀ l ∈ rows, l.length ≤ 6 := fun l hl => (tabOk_rows ht hl).1
 have hl2 : rows.length ≤ 100 := by omega
 have hcl : (comM rows).length ≤ 6 * rows.length := comN_len h6 (Nat.le_refl _)
 have hcl2 : (comM rows).length ≤ 1099511627776 := by omega
 simp (disch := first | assumption | omega) only [S0, reduceIte, reduceCtorEq, reduceAdd, reduceEqDiff, Int.reduceBEq, reduceLT, reduceLE, spec_l4Committed]
 rw [loopN (comM rows).length (fun k => [rL (graphN ⟨n, rows⟩ k), i64 k]) (.yield 1, [rL (graphN ⟨n, rows⟩ (comM rows).length)]) rfl (by simp)]
 ·simp (disch := first | assumption | omega) only [S0, reduceIte, reduceCtorEq, reduceAdd, reduceEqDiff, Int.reduceBEq, reduceLT, reduceLE]
 ·intro k hk hlt
  have hb : InB (comM rows) (k : Int) := InB_nat.2 hk
  have hmem := at_mem hk
  obtain ⟨x0, x1, hx2, xi, -⟩ := comM_spec ht hmem
  simp only at xi
  have hgr := graph_row ht hmem
  simp only at hgr
  have hgs := graphN_succ ⟨n, rows⟩ k
  simp only at hgs
  rw [← hgr] at hgs
  have hd6 := rowOk_dep6 (trow_ok ht xi) hg
  have hdl := trow_deps ht xi
  simp only at hdl
  have hdep : (depM ⟨n, rows⟩ (atI (atI (comM rows) (k : Int)) 0) (atI (atI (comM rows) (k : Int)) 1)).length ≤ 30 := by
   have := depN_len (rep := atI (atI (comM rows) (k : Int)) 0) (no := atI (atI (comM rows) (k : Int)) 1) (fun d hd => (hd6 d hd).2) (Nat.le_refl _)
   unfold depM
   omega
  have hll : (graphN ⟨n, rows⟩ k).length + 1 ≤ 100000000000 := by rw [graphN_len]; omega
  simp (disch := first | assumption | omega) only [S0, reduceIte, reduceCtorEq, reduceAdd, reduceEqDiff, Int.reduceBEq, reduceLT, reduceLE, S_row, spec_l6Deps, hlt]
  have hys : ∀ y ∈ depM ⟨n, rows⟩ (atI (atI (comM rows) (k : Int)) 0) (atI (atI (comM rows) (k : Int)) 1), y.length ≤ 1099511627776 := fun y hy => by
   obtain ⟨_, _, _, _, _, rfl⟩ := depN_mem.1 hy
   simp
  generalize depM ⟨n, rows⟩ (atI (atI (comM rows) (k : Int)) 0) (atI (atI (comM rows) (k : Int)) 1) = ys at hdep hgs hgr hys ⊢
  rw [loopN ys.length (fun i => [rL (putN (comM rows) ys i), i64 i]) (.yield 3, [rL (putN (comM rows) ys ys.length)]) rfl (by simp)]
  ·have hll2 : (graphN ⟨n, rows⟩ k).length + ([putN (comM rows) ys ys.length] : List (List Int)).length ≤ 100000000000 := hll
   simp (disch := first | assumption | omega) only [S0, reduceIte, reduceCtorEq, reduceAdd, reduceEqDiff, Int.reduceBEq, reduceLT, reduceLE, S_mk, S_app, hgs]
  ·intro i hi hlt2
   have hby : InB ys (i : Int) := InB_nat.2 hi
   have hyl := hys _ (at_mem hi)
   have hpl := putN_len (comM rows) ys i
   have hpl2 : (putN (comM rows) ys i).length ≤ 10000000000 := by omega
   rw [putN_succ]
   cases hf : decide (0 ≤ findM (comM rows) (atI ys (i : Int)))
   ·simp (disch := first | assumption | omega) only [S0, reduceIte, reduceCtorEq, reduceAdd, reduceEqDiff, Int.reduceBEq, reduceLT, reduceLE, S_row, spec_l6Find, hlt2, hf, Bool.false_eq_true]
   ·simp (disch := first | assumption | omega) only [S0, reduceIte, reduceCtorEq, reduceAdd, reduceEqDiff, Int.reduceBEq, reduceLT, reduceLE, S_row, spec_l6Find, spec_l1Put, hlt2, hf]
  ·intro hlt2
   simp (disch := first | assumption | omega) only [S0, reduceIte, reduceCtorEq, reduceAdd, reduceEqDiff, Int.reduceBEq, reduceLT, reduceLE, hlt2]
 ·intro hlt
  simp (disch := first | assumption | omega) only [S0, reduceIte, reduceCtorEq, reduceAdd, reduceEqDiff, Int.reduceBEq, reduceLT, reduceLE, hlt]
theorem impl_Table_graph (n : Int) (rows : List (List TRow)) (ht : tabOk ⟨n, rows⟩ = true) (hs : smTab rows) : Fun T 56 [i64 n, rL rows] = some [rL (comM rows), rL (graphM ⟨n, rows⟩)] := by
 rw [Fun_k (t := tm56) rfl]; unfold tm56; unfold graphM
 have hg : isGrp n = true := tabOk_grp ht
 have hn := isGrp_rng hg
 have hl : (rows.length : Int) = n := tabOk_len ht
 have h6 : ∀ l ∈ rows, l.length ≤ 6 := fun l hl => (tabOk_rows ht hl).1
 have hl2 : rows.length ≤ 100 := by omega
 have hcl : (comM rows).length ≤ 6 * rows.length := comN_len h6 (Nat.le_refl _)
 have h0 : (Prim.mk 1 0).run [] = some [.rows 1 []] := rfl
 simp (disch := first | assumption | omega) only [S0, reduceIte, reduceCtorEq, reduceAdd, reduceEqDiff, Int.reduceBEq, reduceLT, reduceLE, impl_Table_committed, h0]
 rw [loopN (comM rows).length (fun k => [rL (graphN ⟨n, rows⟩ k), i64 k]) (.yield 1, [rL (graphN ⟨n, rows⟩ (comM rows).length)]) rfl (by simp)]
 ·simp (disch := first | assumption | omega) only [S0, reduceIte, reduceCtorEq, reduceAdd, reduceEqDiff, Int.reduceBEq, reduceLT, reduceLE]
 ·intro k hk hlt
  have hb : InB (comM rows) (k : Int) := InB_nat.2 hk
  have hmem := at_mem hk
  obtain ⟨x0, x1, hx2, xi, -⟩ := comM_spec ht hmem
  simp only at xi
  have xr := inst_rng xi
  have xb := tabOk_in ht xi
  simp only at xb
  have hxl : (atI (comM rows) (k : Int)).length ≤ 1099511627776 := by omega
  have hgs := graphN_succ ⟨n, rows⟩ k
  simp only at hgs
  have hd := trow_deps ht xi
  simp only at hd
  simp (disch := first | assumption | omega) only [S0, reduceIte, reduceCtorEq, reduceAdd, reduceEqDiff, Int.reduceBEq, reduceLT, reduceLE, S_row, impl_Table_row, hlt, h0]
  rw [loopN (comM rows).length (fun i => [rL (hangN (comM rows) (trow ⟨n, rows⟩ (atI (atI (comM rows) (k : Int)) 0) (atI (atI (comM rows) (k : Int)) 1)).attr.deps (atI (comM rows) (k : Int)) i), i64 i]) (.yield 3, [rL (hangN (comM rows) (trow ⟨n, rows⟩ (atI (atI (comM rows) (k : Int)) 0) (atI (atI (comM rows) (k : Int)) 1)).attr.deps (atI (comM rows) (k : Int)) (comM rows).length)]) rfl (by simp)]
  ·have hll : (graphN ⟨n, rows⟩ k).length + 1 ≤ 100000000000 := by rw [graphN_len]; omega
   have hll2 : (graphN ⟨n, rows⟩ k).length + ([hangN (comM rows) (trow ⟨n, rows⟩ (atI (atI (comM rows) (k : Int)) 0) (atI (atI (comM rows) (k : Int)) 1)).attr.deps (atI (comM rows) (k : Int)) (comM rows).length] : List (List Int)).length ≤ 100000000000 := hll
   simp (disch := first | assumption | omega) only [S0, reduceIte, reduceCtorEq, reduceAdd, reduceEqDiff, Int.reduceBEq, reduceLT, reduceLE, S_mk, S_app, hgs]
  ·intro i hi hlt2
   have hbi : InB (comM rows) (i : Int) := InB_nat.2 hi
   obtain ⟨y0, y1, -, yi, -⟩ := comM_spec ht (at_mem hi)
   simp only at yi
   have yr := inst_rng yi
   have hbd := trow_in ht xi yi
   rw [hangN_succ]
   unfold hangB
   generalize (trow ⟨n, rows⟩ (atI (atI (comM rows) (k : Int)) 0) (atI (atI (comM rows) (k : Int)) 1)).attr.deps = deps at hbd ⊢
   have hhl := hangN_len (comM rows) deps (atI (comM rows) (k : Int)) i
   have hll : (hangN (comM rows) deps (atI (comM rows) (k : Int)) i).length + ([(i : Int)] : List Int).length ≤ 100000000000 := by simp only [List.length_cons, List.length_nil]; omega
   cases h1 : decide (atI (comM rows) (k : Int) = atI (comM rows) (i : Int))
   ·cases h2 : decide (atI (atI (comM rows) (i : Int)) 1 ≤ atI deps (atI (atI (comM rows) (i : Int)) 0))
    ·simp (disch := first | assumption | omega) only [S0, reduceIte, reduceCtorEq, reduceAdd, reduceEqDiff, Int.reduceBEq, reduceLT, reduceLE, S_row, slices_Equal_int, hlt2, h1, h2, Bool.false_eq_true, List.append_nil]
    ·simp (disch := first | assumption | omega) only [S0, reduceIte, reduceCtorEq, reduceAdd, reduceEqDiff, Int.reduceBEq, reduceLT, reduceLE, S_row, S_mk, S_app, slices_Equal_int, hlt2, h1, h2]
   ·simp (disch := first | assumption | omega) only [S0, reduceIte, reduceCtorEq, reduceAdd, reduceEqDiff, Int.reduceBEq, reduceLT, reduceLE, S_row, slices_Equal_int, hlt2, h1, Bool.false_eq_true, List.append_nil]
  ·intro hlt2
   simp (disch := first | assumption | omega) only [S0, reduceIte, reduceCtorEq, reduceAdd, reduceEqDiff, Int.reduceBEq, reduceLT, reduceLE, hlt2]
 ·intro hlt
  simp (disch := first | assumption | omega) only [S0, reduceIte, reduceCtorEq, reduceAdd, reduceEqDiff, Int.reduceBEq, reduceLT, reduceLE, hlt]
theorem spec_GraphOf (n : Int) (rows : List (List TRow)) (hs : smTab rows) : Fun T 14 [i64 n, rL rows] = some [rL (graphR ⟨n, rows⟩).1, rL (graphR ⟨n, rows⟩).2.1, .bool (graphR ⟨n, rows⟩).2.2] := by
 rw [Fun_k (t := tm14) rfl]; unfold tm14; unfold graphR
 cases ht : tabOk ⟨n, rows⟩
 ·simp (disch := first | assumption | omega) only [S0, reduceIte, reduceCtorEq, reduceAdd, reduceEqDiff, Int.reduceBEq, reduceLT, reduceLE, spec_GoodTable, ht, S_nil, Bool.false_eq_true]
 by_cases h : ((comM rows).length : Int) ≤ 40
 ·have h2 : decide (40 < ((comM rows).length : Int)) = false := by simp; omega
  have h3 : decide (((comM rows).length : Int) ≤ 40) = true := by simpa using h
  simp (disch := first | assumption | omega) only [S0, reduceIte, reduceCtorEq, reduceAdd, reduceEqDiff, Int.reduceBEq, reduceLT, reduceLE, spec_GoodTable, spec_l6Graph, ht, h2, h3]
 ·have h2 : decide (40 < ((comM rows).length : Int)) = true := by simp; omega
  have h3 : decide (((comM rows).length : Int) ≤ 40) = false := by simpa using h
  simp (disch := first | assumption | omega) only [S0, reduceIte, reduceCtorEq, reduceAdd, reduceEqDiff, Int.reduceBEq, reduceLT, reduceLE, spec_GoodTable, spec_l6Graph, ht, h2, h3, S_nil, Bool.false_eq_true]
theorem impl_GraphOf (n : Int) (rows : List (List TRow)) (hs : smTab rows) : Fun T 36 [i64 n, rL rows] = some [rL (graphR ⟨n, rows⟩).1, rL (graphR ⟨n, rows⟩).2.1, .bool (graphR ⟨n, rows⟩).2.2] := by
 rw [Fun_k (t := tm36) rfl]; unfold tm36; unfold graphR
 cases ht : tabOk ⟨n, rows⟩
 ·simp (disch := first | assumption | omega) only [S0, reduceIte, reduceCtorEq, reduceAdd, reduceEqDiff, Int.reduceBEq, reduceLT, reduceLE, impl_GoodTable, ht, S_nil, Bool.false_eq_true]
 by_cases h : ((comM rows).length : Int) ≤ 40
 ·have h2 : decide (40 < ((comM rows).length : Int)) = false := by simp; omega
  have h3 : decide (((comM rows).length : Int) ≤ 40) = true := by simpa using h
  simp (disch := first | assumption | omega) only [S0, reduceIte, reduceCtorEq, reduceAdd, reduceEqDiff, Int.reduceBEq, reduceLT, reduceLE, impl_GoodTable, impl_Table_graph, ht, h2, h3]
 ·have h2 : decide (40 < ((comM rows).length : Int)) = true := by simp; omega
  have h3 : decide (((comM rows).length : Int) ≤ 40) = false := by simpa using h
  simp (disch := first | assumption | omega) only [S0, reduceIte, reduceCtorEq, reduceAdd, reduceEqDiff, Int.reduceBEq, reduceLT, reduceLE, impl_GoodTable, impl_Table_graph, ht, h2, h3, S_nil, Bool.false_eq_true]
theorem law (t_n : Int) (t_rows : (List (List TRow))) (hw_t : wf_TTable ⟨t_n, t_rows⟩) : Fun T 0 [i64 t_n, rL t_rows] = some [.bool true] := by
 rw [Fun_k (t := tm0) rfl]; unfold tm0
 by_cases c_t : ((sz_TTable ⟨t_n, t_rows⟩ : Nat) : Int) ≤ 1048576
 rotate_left
 ·have e : szR (1048576) (sz_TTable ⟨t_n, t_rows⟩) = -1 := if_neg c_t
  (refine fork_in ?_; repeat' (refine fork_eq (fun _ => ?_) (fun _ => ?_) <;> try simp (disch := first | assumption | omega) only [S0, reduceIte, reduceCtorEq, reduceAdd, reduceEqDiff, Int.reduceBEq, reduceLT, reduceLE, lsz_TTable, lt0, ltm1, *]))
 have e_t : szR (1048576) (sz_TTable ⟨t_n, t_rows⟩) = 1048576 - ((sz_TTable ⟨t_n, t_rows⟩ : Nat) : Int) := if_pos c_t
 have s1_t : sz_TTable ⟨t_n, t_rows⟩ ≤ 1048576 := by omega
 have s2_t : sz_TTable ⟨t_n, t_rows⟩ ≤ 1099511627776 := by omega
 have szu_t := s1_t
 rw [szu_TTable] at szu_t
 simp only at szu_t
 have m1_t_rows : szL (szL sz_TRow) t_rows ≤ 1099511627776 := by omega
 have m2_t_rows : ctL (ctL ct_TRow) t_rows ≤ 1125899906842624 := by have := ctL_le (c := (ctL ct_TRow)) (f := (szL sz_TRow)) (m := 16) (by omega) (fun xs => Nat.le_trans (ctL_le (c := ct_TRow) (f := sz_TRow) (m := 16) (by omega) ctb_TRow xs) (Nat.le_add_left _ _)) t_rows; omega
 have s3 : smTab t_rows := smTab_of s1_t
 obtain ⟨z1, z2⟩ := graphR_sz ⟨t_n, t_rows⟩
 have r1 : szL (szL fun _ => 0) (graphR ⟨t_n, t_rows⟩).1 ≤ 1099511627776 := by omega
 have r2 : szL (szL fun _ => 0) (graphR ⟨t_n, t_rows⟩).2.1 ≤ 1099511627776 := by omega
 have r3 : ctL (ctL fun _ => 1) (graphR ⟨t_n, t_rows⟩).1 ≤ 1125899906842624 := by
  have := ctL_le (c := (ctL (fun _ => 1))) (f := (szL (fun _ => 0))) (m := 16) (by omega) (fun xs => Nat.le_trans (ctL_le (c := (fun _ => 1)) (f := (fun _ => 0)) (m := 16) (by omega) (fun _ => by simp) xs) (Nat.le_add_left _ _)) (graphR ⟨t_n, t_rows⟩).1
  omega
 have r4 : ctL (ctL fun _ => 1) (graphR ⟨t_n, t_rows⟩).2.1 ≤ 1125899906842624 := by
  have := ctL_le (c := (ctL (fun _ => 1))) (f := (szL (fun _ => 0))) (m := 16) (by omega) (fun xs => Nat.le_trans (ctL_le (c := (fun _ => 1)) (f := (fun _ => 0)) (m := 16) (by omega) (fun _ => by simp) xs) (Nat.le_add_left _ _)) (graphR ⟨t_n, t_rows⟩).2.1
  omega
 (refine fork_in ?_; repeat' (refine fork_eq (fun _ => ?_) (fun _ => ?_) <;> try simp (disch := first | assumption | omega) only [S0, reduceIte, reduceCtorEq, reduceAdd, reduceEqDiff, Int.reduceBEq, reduceLT, reduceLE, lsz_TTable, lto_TTable, spec_GraphOf, impl_GraphOf, leq_LLI, leq_TTable, lmk_TTable, lmk_LLI, lhd_LLI, lt0, ltm1, *]))
theorem hpure : ∀ ds, WTs [.int .i64, .sl 24 [.sl 96 [.int .i64, .int .i64, .int .i64, .int .i64, .int .i64, .int .i64, .int .i64, .int .i64, .int .i64, .sl 8 [.int .i64]]]] ds → ∃ n, callN T n 0 ds = some [.bool true] := by
 intro ds h
 simp only [WTs] at h
 obtain ⟨d0, r0, rfl, w0, d1, r1, rfl, w1, rfl⟩ := h
 obtain ⟨t, e_t, hw_t⟩ := dec_TTable [d0, d1] (by simp only [WTs]; exact ⟨_, _, rfl, w0, _, _, rfl, w1, rfl⟩)
 simp only [Enc.enc, List.cons.injEq, and_true] at e_t
 obtain ⟨rfl, rfl⟩ := e_t
 exact pure_of (law (t.n) (t.rows) hw_t)
end FnExactGraphOf
end Go.Proofs.Ytmpakpgonfnadaa
