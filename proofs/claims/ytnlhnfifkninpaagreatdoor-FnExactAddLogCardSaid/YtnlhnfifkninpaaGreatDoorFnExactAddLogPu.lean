/- What the terms of FnExactAddLog come to. -/
import Derived.Test.YtnlhnfifkninpaaGreatDoorFnExactAddLogTab
namespace Go.Proofs.YtnlhnfifkninpaaGreatDoor
namespace FnExactAddLog
open Go Go.Proofs.YtnlhnfifkninpaaGreatDoor.Rf
open Nat renaming reduceAdd → rA, reduceEqDiff → rQ
open Int renaming reduceBEq → rB, reduceLT → rT, reduceLE → rE
set_option linter.unusedSimpArgs false
set_option linter.unusedVariables false
set_option linter.unnecessarySimpa false
set_option maxHeartbeats 4000000
set_option maxRecDepth 10000
theorem lto_TCmd (x_kind x_id x_src x_dst x_amt : Int) : Fun T 5 [i64 x_kind, i64 x_id, i64 x_src, i64 x_dst, i64 x_amt] = some [i64 x_kind, i64 x_id, i64 x_src, i64 x_dst, i64 x_amt] := by
 rw [Fun_k (t := tm5) rfl]; unfold tm5
 (refine fork_in ?_; repeat' (refine fork_eq ?_ ?_<;>intro _<;>try simp (disch := first|assumption|omega) only [S0,rA,rQ,rB,rT,rE, *]))
theorem leq_TCmd (x_kind x_id x_src x_dst x_amt : Int) (y_kind y_id y_src y_dst y_amt : Int) : Fun T 103 [i64 x_kind, i64 x_id, i64 x_src, i64 x_dst, i64 x_amt, i64 y_kind, i64 y_id, i64 y_src, i64 y_dst, i64 y_amt] = some [.bool (decide ((⟨x_kind, x_id, x_src, x_dst, x_amt⟩ : TCmd) = ⟨y_kind, y_id, y_src, y_dst, y_amt⟩))] := by
 rw [Fun_k (t := tm103) rfl]; unfold tm103
 have e : decide ((⟨x_kind, x_id, x_src, x_dst, x_amt⟩ : TCmd) = ⟨y_kind, y_id, y_src, y_dst, y_amt⟩) = ((x_kind == y_kind) && (x_id == y_id) && (x_src == y_src) && (x_dst == y_dst) && (x_amt == y_amt)) := by
  simp only [TCmd.mk.injEq, Bool.beq_eq_decide_eq, Bool.decide_and, Bool.and_assoc]
 rw [e]
 (refine fork_in ?_; repeat' (refine fork_eq ?_ ?_<;>intro _<;>try simp (disch := first|assumption|omega) only [S0,rA,rQ,rB,rT,rE, *]))
theorem lsz_LI (xs : (List Int)) (l : Int) (h0 : 0 <= l) (h1 : l <= 1048576) (hw : xs.length <= 140737488351232) : Fun T 3 [rL xs, i64 l] = some [i64 (szR l (szL (fun _ => 0) xs))] := by
 rw [Fun_k (t := tm3) rfl]; unfold tm3
 have es : szL (fun _ => 0) xs = xs.length := szL_zero
 rw [es]
 by_cases c : (xs.length : Int) <= l
 ·have e : szR l xs.length = l - xs.length := if_pos c
  have d : decide (l - (xs.length : Int) < 0) = false := by simp; omega
  (refine fork_in ?_; repeat' (refine fork_eq ?_ ?_<;>intro _<;>try simp (disch := first|assumption|omega) only [S0,rA,rQ,rB,rT,rE, *]))
 ·have e : szR l xs.length = -1 := if_neg c
  have d : decide (l - (xs.length : Int) < 0) = true := by simp; omega
  (refine fork_in ?_; repeat' (refine fork_eq ?_ ?_<;>intro _<;>try simp (disch := first|assumption|omega) only [S0,rA,rQ,rB,rT,rE, *]))
theorem lto_LI (xs : (List Int)) (hs : szL (fun _ => 0) xs <= 1048576) : Fun T 7 [rL xs] = some [rL xs] := by
 rw [Fun_k (t := tm7) rfl]; unfold tm7
 have hl : xs.length <= 1048576 := Nat.le_trans szL_len hs
 simp (disch := first|assumption|omega) only [S0,rA,rQ,rB,rT,rE, S_make, Int.toNat_natCast, *]
 rw [toLoop xs rfl]
 ·(refine fork_in ?_; repeat' (refine fork_eq ?_ ?_<;>intro _<;>try simp (disch := first|assumption|omega) only [S0,rA,rQ,rB,rT,rE, *]))
 ·intro i ys hi hb hb' hl'
  (refine fork_in ?_; repeat' (refine fork_eq ?_ ?_<;>intro _<;>try simp (disch := first|assumption|omega) only [S0,rA,rQ,rB,rT,rE,S_row,S_set, *]))
 ·intro ys hl'
  (refine fork_in ?_; repeat' (refine fork_eq ?_ ?_<;>intro _<;>try simp (disch := first|assumption|omega) only [S0,rA,rQ,rB,rT,rE, *]))
theorem leq_LI (xs ys : (List Int)) (hs : szL (fun _ => 0) xs <= 1099511627776) : Fun T 105 [rL xs, rL ys] = some [.bool (decide (xs = ys))] := by
 rw [Fun_k (t := tm105) rfl]; unfold tm105
 have hx : xs.length <= 1099511627776 := Nat.le_trans szL_len hs
 by_cases hl : ys.length = xs.length
 ·simp (disch := first|assumption|omega) only [S0,rA,rQ,rB,rT,rE, *]
  rw [scanX 1 xs.length (fun i => decide (atI xs i = atI ys i)) [.bool false], allB_eq hl.symm]
  ·(refine fork_in ?_; repeat' (refine fork_eq ?_ ?_<;>intro _<;>try simp (disch := first|assumption|omega) only [S0,rA,rQ,rB,rT,rE, *]))
  ·intro i hi hp
   have hb : InB xs (i : Int) := InB_nat.2 hi
   have hb' : InB ys (i : Int) := InB_nat.2 (by omega)
   have h2 : decide ((i : Int) < xs.length) = true := by simp; omega
   have h3 : (atI xs i == atI ys i) = true := by simpa using hp
   (refine fork_in ?_; repeat' (refine fork_eq ?_ ?_<;>intro _<;>try simp (disch := first|assumption|omega) only [S0,rA,rQ,rB,rT,rE,S_row, *]))
  ·intro i hi hp
   have hb : InB xs (i : Int) := InB_nat.2 hi
   have hb' : InB ys (i : Int) := InB_nat.2 (by omega)
   have h2 : decide ((i : Int) < xs.length) = true := by simp; omega
   have h3 : (atI xs i == atI ys i) = false := by simpa using hp
   (refine fork_in ?_; repeat' (refine fork_eq ?_ ?_<;>intro _<;>try simp (disch := first|assumption|omega) only [S0,rA,rQ,rB,rT,rE,S_row, *]))
  ·have h2 : decide ((xs.length : Int) < xs.length) = false := by simp
   (refine fork_in ?_; repeat' (refine fork_eq ?_ ?_<;>intro _<;>try simp (disch := first|assumption|omega) only [S0,rA,rQ,rB,rT,rE, *]))
 ·have hl' : ((xs.length : Int) == (ys.length : Int)) = false := by simp; omega
  have e := eq_len (fun h => hl h.symm)
  (refine fork_in ?_; repeat' (refine fork_eq ?_ ?_<;>intro _<;>try simp (disch := first|assumption|omega) only [S0,rA,rQ,rB,rT,rE, *]))
theorem lsz_TAttr (x_seq : Int) (x_deps : (List Int)) (l : Int) (h0 : 0 <= l) (h1 : l <= 1048576) (hw : wf_TAttr ⟨x_seq, x_deps⟩) : Fun T 2 [i64 x_seq, rL x_deps, i64 l] = some [i64 (szR l (sz_TAttr ⟨x_seq, x_deps⟩))] := by
 rw [Fun_k (t := tm2) rfl]; unfold tm2
 unfold wf_TAttr at hw
 simp only at hw
 have w0 := hw
 by_cases c0 : ((szL (fun _ => 0) x_deps : Nat) : Int) <= l
 rotate_left
 ·have e0 : szR (l) (szL (fun _ => 0) x_deps) = -1 := if_neg c0
  have d0 : decide ((-1 : Int) < 0) = true := rfl
  have e : szR l (sz_TAttr ⟨x_seq, x_deps⟩) = -1 := by unfold szR sz_TAttr; simp only []; split <;> omega
  (refine fork_in ?_; repeat' (refine fork_eq ?_ ?_<;>intro _<;>try simp (disch := first|assumption|omega) only [S0,rA,rQ,rB,rT,rE,lsz_LI, *]))
 have e0 : szR (l) (szL (fun _ => 0) x_deps) = l - (szL (fun _ => 0) x_deps : Nat) := if_pos c0
 have d0 : decide (l - ((szL (fun _ => 0) x_deps : Nat) : Int) < 0) = false := by simp; omega
 have e : szR l (sz_TAttr ⟨x_seq, x_deps⟩) = l - ((szL (fun _ => 0) x_deps : Nat) : Int) := by unfold szR sz_TAttr; simp only []; split <;> omega
 (refine fork_in ?_; repeat' (refine fork_eq ?_ ?_<;>intro _<;>try simp (disch := first|assumption|omega) only [S0,rA,rQ,rB,rT,rE,lsz_LI, *]))
theorem lto_TAttr (x_seq : Int) (x_deps : (List Int)) (hs : sz_TAttr ⟨x_seq, x_deps⟩ <= 1048576) : Fun T 6 [i64 x_seq, rL x_deps] = some [i64 x_seq, rL x_deps] := by
 rw [Fun_k (t := tm6) rfl]; unfold tm6
 unfold sz_TAttr at hs
 simp only at hs
 have s0 : szL (fun _ => 0) x_deps <= 1048576 := by omega
 (refine fork_in ?_; repeat' (refine fork_eq ?_ ?_<;>intro _<;>try simp (disch := first|assumption|omega) only [S0,rA,rQ,rB,rT,rE,lto_LI, *]))
theorem leq_TAttr (x_seq : Int) (x_deps : (List Int)) (y_seq : Int) (y_deps : (List Int)) (hs : sz_TAttr ⟨x_seq, x_deps⟩ <= 1099511627776) : Fun T 104 [i64 x_seq, rL x_deps, i64 y_seq, rL y_deps] = some [.bool (decide ((⟨x_seq, x_deps⟩ : TAttr) = ⟨y_seq, y_deps⟩))] := by
 rw [Fun_k (t := tm104) rfl]; unfold tm104
 unfold sz_TAttr at hs
 simp only at hs
 have s0 : szL (fun _ => 0) x_deps <= 1099511627776 := by omega
 have e : decide ((⟨x_seq, x_deps⟩ : TAttr) = ⟨y_seq, y_deps⟩) = ((x_seq == y_seq) && decide ((x_deps : (List Int)) = y_deps)) := by
  simp only [TAttr.mk.injEq, Bool.beq_eq_decide_eq, Bool.decide_and, Bool.and_assoc]
 rw [e]
 (refine fork_in ?_; repeat' (refine fork_eq ?_ ?_<;>intro _<;>try simp (disch := first|assumption|omega) only [S0,rA,rQ,rB,rT,rE,leq_LI, *]))
theorem lsz_TRow (x_ballot x_vote x_state x_cmd_kind x_cmd_id x_cmd_src x_cmd_dst x_cmd_amt x_attr_seq : Int) (x_attr_deps : (List Int)) (l : Int) (h0 : 0 <= l) (h1 : l <= 1048576) (hw : wf_TRow ⟨x_ballot, x_vote, x_state, ⟨x_cmd_kind, x_cmd_id, x_cmd_src, x_cmd_dst, x_cmd_amt⟩, ⟨x_attr_seq, x_attr_deps⟩⟩) : Fun T 1 [i64 x_ballot, i64 x_vote, i64 x_state, i64 x_cmd_kind, i64 x_cmd_id, i64 x_cmd_src, i64 x_cmd_dst, i64 x_cmd_amt, i64 x_attr_seq, rL x_attr_deps, i64 l] = some [i64 (szR l (sz_TRow ⟨x_ballot, x_vote, x_state, ⟨x_cmd_kind, x_cmd_id, x_cmd_src, x_cmd_dst, x_cmd_amt⟩, ⟨x_attr_seq, x_attr_deps⟩⟩))] := by
 rw [Fun_k (t := tm1) rfl]; unfold tm1
 unfold wf_TRow at hw
 simp only at hw
 have w0 := hw
 by_cases c0 : ((sz_TAttr ⟨x_attr_seq, x_attr_deps⟩ : Nat) : Int) <= l
 rotate_left
 ·have e0 : szR (l) (sz_TAttr ⟨x_attr_seq, x_attr_deps⟩) = -1 := if_neg c0
  have d0 : decide ((-1 : Int) < 0) = true := rfl
  have e : szR l (sz_TRow ⟨x_ballot, x_vote, x_state, ⟨x_cmd_kind, x_cmd_id, x_cmd_src, x_cmd_dst, x_cmd_amt⟩, ⟨x_attr_seq, x_attr_deps⟩⟩) = -1 := by unfold szR sz_TRow; simp only []; split <;> omega
  (refine fork_in ?_; repeat' (refine fork_eq ?_ ?_<;>intro _<;>try simp (disch := first|assumption|omega) only [S0,rA,rQ,rB,rT,rE,lsz_TAttr, *]))
 have e0 : szR (l) (sz_TAttr ⟨x_attr_seq, x_attr_deps⟩) = l - (sz_TAttr ⟨x_attr_seq, x_attr_deps⟩ : Nat) := if_pos c0
 have d0 : decide (l - ((sz_TAttr ⟨x_attr_seq, x_attr_deps⟩ : Nat) : Int) < 0) = false := by simp; omega
 have e : szR l (sz_TRow ⟨x_ballot, x_vote, x_state, ⟨x_cmd_kind, x_cmd_id, x_cmd_src, x_cmd_dst, x_cmd_amt⟩, ⟨x_attr_seq, x_attr_deps⟩⟩) = l - ((sz_TAttr ⟨x_attr_seq, x_attr_deps⟩ : Nat) : Int) := by unfold szR sz_TRow; simp only []; split <;> omega
 (refine fork_in ?_; repeat' (refine fork_eq ?_ ?_<;>intro _<;>try simp (disch := first|assumption|omega) only [S0,rA,rQ,rB,rT,rE,lsz_TAttr, *]))
theorem lto_TRow (x_ballot x_vote x_state x_cmd_kind x_cmd_id x_cmd_src x_cmd_dst x_cmd_amt x_attr_seq : Int) (x_attr_deps : (List Int)) (hs : sz_TRow ⟨x_ballot, x_vote, x_state, ⟨x_cmd_kind, x_cmd_id, x_cmd_src, x_cmd_dst, x_cmd_amt⟩, ⟨x_attr_seq, x_attr_deps⟩⟩ <= 1048576) : Fun T 4 [i64 x_ballot, i64 x_vote, i64 x_state, i64 x_cmd_kind, i64 x_cmd_id, i64 x_cmd_src, i64 x_cmd_dst, i64 x_cmd_amt, i64 x_attr_seq, rL x_attr_deps] = some [i64 x_ballot, i64 x_vote, i64 x_state, i64 x_cmd_kind, i64 x_cmd_id, i64 x_cmd_src, i64 x_cmd_dst, i64 x_cmd_amt, i64 x_attr_seq, rL x_attr_deps] := by
 rw [Fun_k (t := tm4) rfl]; unfold tm4
 unfold sz_TRow at hs
 simp only at hs
 have s0 : sz_TAttr ⟨x_attr_seq, x_attr_deps⟩ <= 1048576 := by omega
 (refine fork_in ?_; repeat' (refine fork_eq ?_ ?_<;>intro _<;>try simp (disch := first|assumption|omega) only [S0,rA,rQ,rB,rT,rE,lto_TCmd,lto_TAttr, *]))
theorem leq_TRow (x_ballot x_vote x_state x_cmd_kind x_cmd_id x_cmd_src x_cmd_dst x_cmd_amt x_attr_seq : Int) (x_attr_deps : (List Int)) (y_ballot y_vote y_state y_cmd_kind y_cmd_id y_cmd_src y_cmd_dst y_cmd_amt y_attr_seq : Int) (y_attr_deps : (List Int)) (hs : sz_TRow ⟨x_ballot, x_vote, x_state, ⟨x_cmd_kind, x_cmd_id, x_cmd_src, x_cmd_dst, x_cmd_amt⟩, ⟨x_attr_seq, x_attr_deps⟩⟩ <= 1099511627776) : Fun T 102 [i64 x_ballot, i64 x_vote, i64 x_state, i64 x_cmd_kind, i64 x_cmd_id, i64 x_cmd_src, i64 x_cmd_dst, i64 x_cmd_amt, i64 x_attr_seq, rL x_attr_deps, i64 y_ballot, i64 y_vote, i64 y_state, i64 y_cmd_kind, i64 y_cmd_id, i64 y_cmd_src, i64 y_cmd_dst, i64 y_cmd_amt, i64 y_attr_seq, rL y_attr_deps] = some [.bool (decide ((⟨x_ballot, x_vote, x_state, ⟨x_cmd_kind, x_cmd_id, x_cmd_src, x_cmd_dst, x_cmd_amt⟩, ⟨x_attr_seq, x_attr_deps⟩⟩ : TRow) = ⟨y_ballot, y_vote, y_state, ⟨y_cmd_kind, y_cmd_id, y_cmd_src, y_cmd_dst, y_cmd_amt⟩, ⟨y_attr_seq, y_attr_deps⟩⟩))] := by
 rw [Fun_k (t := tm102) rfl]; unfold tm102
 unfold sz_TRow at hs
 simp only at hs
 have s0 : sz_TAttr ⟨x_attr_seq, x_attr_deps⟩ <= 1099511627776 := by omega
 have e : decide ((⟨x_ballot, x_vote, x_state, ⟨x_cmd_kind, x_cmd_id, x_cmd_src, x_cmd_dst, x_cmd_amt⟩, ⟨x_attr_seq, x_attr_deps⟩⟩ : TRow) = ⟨y_ballot, y_vote, y_state, ⟨y_cmd_kind, y_cmd_id, y_cmd_src, y_cmd_dst, y_cmd_amt⟩, ⟨y_attr_seq, y_attr_deps⟩⟩) = ((x_ballot == y_ballot) && (x_vote == y_vote) && (x_state == y_state) && decide ((⟨x_cmd_kind, x_cmd_id, x_cmd_src, x_cmd_dst, x_cmd_amt⟩ : TCmd) = ⟨y_cmd_kind, y_cmd_id, y_cmd_src, y_cmd_dst, y_cmd_amt⟩) && decide ((⟨x_attr_seq, x_attr_deps⟩ : TAttr) = ⟨y_attr_seq, y_attr_deps⟩)) := by
  simp only [TRow.mk.injEq, Bool.beq_eq_decide_eq, Bool.decide_and, Bool.and_assoc]
 rw [e]
 (refine fork_in ?_; repeat' (refine fork_eq ?_ ?_<;>intro _<;>try simp (disch := first|assumption|omega) only [S0,rA,rQ,rB,rT,rE,leq_TCmd,leq_TAttr, *]))
theorem impl_within (x lo up : Int) : Fun T 46 [i64 x, i64 lo, i64 up] = some [.bool (inR x lo up)] := by
 rw [Fun_k (t := tm46) rfl]; unfold tm46; unfold inR
 (refine fork_in ?_; repeat' (refine fork_eq ?_ ?_<;>intro _<;>try simp (disch := first|assumption|omega) only [S0,rA,rQ,rB,rT,rE, *]))
theorem spec_l1In (x lo up : Int) : Fun T 12 [i64 x, i64 lo, i64 up] = some [.bool (inR x lo up)] := by
 rw [Fun_k (t := tm12) rfl]; unfold tm12; unfold inR
 (refine fork_in ?_; repeat' (refine fork_eq ?_ ?_<;>intro _<;>try simp (disch := first|assumption|omega) only [S0,rA,rQ,rB,rT,rE, *]))
theorem impl_IsGroup (n : Int) : Fun T 45 [i64 n] = some [.bool (isGrp n)] := by
 rw [Fun_k (t := tm45) rfl]; unfold tm45; unfold isGrp
 (refine fork_in ?_; repeat' (refine fork_eq ?_ ?_<;>intro _<;>try simp (disch := first|assumption|omega) only [S0,rA,rQ,rB,rT,rE, *]))
theorem spec_IsGroup (n : Int) : Fun T 10 [i64 n] = some [.bool (isGrp n)] := by
 rw [Fun_k (t := tm10) rfl]; unfold tm10; unfold isGrp
 (refine fork_in ?_; repeat' (refine fork_eq ?_ ?_<;>intro _<;>try simp (disch := first|assumption|omega) only [S0,rA,rQ,rB,rT,rE, *]))
theorem impl_isAccount (n : Int) : Fun T 49 [i64 n] = some [.bool (inR n 0 3)] := by
 rw [Fun_k (t := tm49) rfl]; unfold tm49
 (refine fork_in ?_; repeat' (refine fork_eq ?_ ?_<;>intro _<;>try simp (disch := first|assumption|omega) only [S0,rA,rQ,rB,rT,rE,impl_within, *]))
theorem spec_l2Account (n : Int) : Fun T 19 [i64 n] = some [.bool (inR n 0 3)] := by
 rw [Fun_k (t := tm19) rfl]; unfold tm19
 (refine fork_in ?_; repeat' (refine fork_eq ?_ ?_<;>intro _<;>try simp (disch := first|assumption|omega) only [S0,rA,rQ,rB,rT,rE,spec_l1In, *]))
theorem spec_l2Code (k i f t a : Int) : Fun T 18 [i64 k, i64 i, i64 f, i64 t, i64 a] = some [i64 (cmdCode ⟨k, i, f, t, a⟩)] := by
 rw [Fun_k (t := tm18) rfl]; unfold tm18; unfold cmdCode
 (refine fork_in ?_; repeat' (refine fork_eq ?_ ?_<;>intro _<;>try simp (disch := first|assumption|omega) only [S0,rA,rQ,rB,rT,rE,spec_l2Account,spec_l1In, *]))
theorem spec_GoodCmd (k i f t a : Int) : Fun T 17 [i64 k, i64 i, i64 f, i64 t, i64 a] = some [.bool (cmdOk ⟨k, i, f, t, a⟩)] := by
 rw [Fun_k (t := tm17) rfl]; unfold tm17; unfold cmdOk
 (refine fork_in ?_; repeat' (refine fork_eq ?_ ?_<;>intro _<;>try simp (disch := first|assumption|omega) only [S0,rA,rQ,rB,rT,rE,spec_l2Code,S_eqs,cmdCode0, *]))
 all_goals (refine bool_fin ?_; simp only [Bool.and_eq_true, Bool.or_eq_true, Bool.not_eq_true', Bool.not_eq_false', Bool.and_eq_false_iff, Bool.or_eq_false_iff, Bool.false_eq_true, beq_iff_eq, beq_eq_false_iff_ne, decide_eq_true_eq, decide_eq_false_iff_not, ne_eq] at *; grind)
theorem impl_GoodCmd (k i f t a : Int) : Fun T 48 [i64 k, i64 i, i64 f, i64 t, i64 a] = some [.bool (cmdOk ⟨k, i, f, t, a⟩)] := by
 rw [Fun_k (t := tm48) rfl]; unfold tm48; unfold cmdOk
 (refine fork_in ?_; repeat' (refine fork_eq ?_ ?_<;>intro _<;>try simp (disch := first|assumption|omega) only [S0,rA,rQ,rB,rT,rE,impl_within,impl_isAccount,S_eqs, *]))
theorem spec_l3Inst (n rep no : Int) (hg : isGrp n = true) : Fun T 11 [i64 n, i64 rep, i64 no] = some [.bool (inst n rep no)] := by
 rw [Fun_k (t := tm11) rfl]; unfold tm11; unfold inst
 have hn := isGrp_rng hg
 (refine fork_in ?_; repeat' (refine fork_eq ?_ ?_<;>intro _<;>try simp (disch := first|assumption|omega) only [S0,rA,rQ,rB,rT,rE,spec_l1In, *]))
theorem impl_isInstance (n rep no : Int) : Fun T 44 [i64 n, i64 rep, i64 no] = some [.bool (isGrp n && inst n rep no)] := by
 rw [Fun_k (t := tm44) rfl]; unfold tm44; unfold inst
 cases hg : isGrp n
 ·(refine fork_in ?_; repeat' (refine fork_eq ?_ ?_<;>intro _<;>try simp (disch := first|assumption|omega) only [S0,rA,rQ,rB,rT,rE,impl_IsGroup, *]))
 have hn := isGrp_rng hg
 (refine fork_in ?_; repeat' (refine fork_eq ?_ ?_<;>intro _<;>try simp (disch := first|assumption|omega) only [S0,rA,rQ,rB,rT,rE,impl_IsGroup,impl_within, *]))
theorem spec_l1All (xs : List Int) (lo up : Int) (hx : xs.length <= 1099511627776) : Fun T 21 [rL xs, i64 lo, i64 up] = some [.bool (xs.all fun x => inR x lo up)] := by
 rw [Fun_k (t := tm21) rfl]; unfold tm21
 simp (disch := first|assumption|omega) only [S0,rA,rQ,rB,rT,rE, S_row, *]
 rw [allX 1 xs (fun x => inR x lo up) [.bool false]]
 ·(refine fork_in ?_; repeat' (refine fork_eq ?_ ?_<;>intro _<;>try simp (disch := first|assumption|omega) only [S0,rA,rQ,rB,rT,rE, *]))
 ·intro i hi hb hl hp
  (refine fork_in ?_; repeat' (refine fork_eq ?_ ?_<;>intro _<;>try simp (disch := first|assumption|omega) only [S0,rA,rQ,rB,rT,rE,S_row,spec_l1In, *]))
 ·intro i hi hb hl hp
  (refine fork_in ?_; repeat' (refine fork_eq ?_ ?_<;>intro _<;>try simp (disch := first|assumption|omega) only [S0,rA,rQ,rB,rT,rE,S_row,spec_l1In, *]))
 ·intro hl
  (refine fork_in ?_; repeat' (refine fork_eq ?_ ?_<;>intro _<;>try simp (disch := first|assumption|omega) only [S0,rA,rQ,rB,rT,rE, *]))
theorem spec_l3Attr (n s : Int) (xs : List Int) (hx : xs.length <= 1099511627776) : Fun T 20 [i64 n, i64 s, rL xs] = some [.bool (attrOk n ⟨s, xs⟩)] := by
 rw [Fun_k (t := tm20) rfl]; unfold tm20; unfold attrOk
 (refine fork_in ?_; repeat' (refine fork_eq ?_ ?_<;>intro _<;>try simp (disch := first|assumption|omega) only [S0,rA,rQ,rB,rT,rE,spec_l1In,spec_l1All, *]))
theorem impl_GoodAttr_1 (x : Int) : Fun T 53 [i64 x] = some [.bool (!inR x 0 6)] := by
 rw [Fun_k (t := tm53) rfl]; unfold tm53
 (refine fork_in ?_; repeat' (refine fork_eq ?_ ?_<;>intro _<;>try simp (disch := first|assumption|omega) only [S0,rA,rQ,rB,rT,rE,impl_within, *]))
theorem ix_GoodAttr_1  (xs : List Int) (hx : xs.length <= 1099511627776) : Fun T 52 [rL xs] = some [i64 (ixF (fun x => !inR x 0 6) xs)] := by
 rw [Fun_k (t := tm52) rfl]; unfold tm52
 simp (disch := first|assumption|omega) only [S0,rA,rQ,rB,rT,rE, S_row, *]
 rw [findX 1 xs (fun x => !inR x 0 6) (fun i => [i64 i])]
 ·cases h : xs.any (fun x => !inR x 0 6)
  ·have e : ixF (fun x => !inR x 0 6) xs = -1 := by
    have h2 := ixF_any (fun x => !inR x 0 6) xs
    rw [h] at h2
    unfold ixF at h2 ⊢
    split at h2 <;> simp_all
   rw [e]; simp (disch := first|assumption|omega) only [S0,rA,rQ,rB,rT,rE]
  ·simp (disch := first|assumption|omega) only [S0,rA,rQ,rB,rT,rE]
 ·intro i hi hb hl hp
  (refine fork_in ?_; repeat' (refine fork_eq ?_ ?_<;>intro _<;>try simp (disch := first|assumption|omega) only [S0,rA,rQ,rB,rT,rE,S_row,impl_GoodAttr_1, *]))
 ·intro i hi hb hl hp
  (refine fork_in ?_; repeat' (refine fork_eq ?_ ?_<;>intro _<;>try simp (disch := first|assumption|omega) only [S0,rA,rQ,rB,rT,rE,S_row,impl_GoodAttr_1, *]))
 ·intro hl
  (refine fork_in ?_; repeat' (refine fork_eq ?_ ?_<;>intro _<;>try simp (disch := first|assumption|omega) only [S0,rA,rQ,rB,rT,rE, *]))
theorem ct_GoodAttr_1  (xs : List Int) (hx : xs.length <= 1099511627776) : Fun T 51 [rL xs] = some [.bool (xs.any (fun x => !inR x 0 6))] := by
 rw [Fun_k (t := tm51) rfl]; unfold tm51
 (refine fork_in ?_; repeat' (refine fork_eq ?_ ?_<;>intro _<;>try simp (disch := first|assumption|omega) only [S0,rA,rQ,rB,rT,rE,ix_GoodAttr_1,ixF_any, *]))
theorem impl_GoodAttr (n s : Int) (xs : List Int) (hx : xs.length <= 1099511627776) : Fun T 50 [i64 n, i64 s, rL xs] = some [.bool (isGrp n && attrOk n ⟨s, xs⟩)] := by
 rw [Fun_k (t := tm50) rfl]; unfold tm50; unfold attrOk
 have e : xs.any (fun x => !inR x 0 6) = !xs.all fun x => inR x 0 6 := by rw [List.not_all_eq_any_not]
 (refine fork_in ?_; repeat' (refine fork_eq ?_ ?_<;>intro _<;>try simp (disch := first|assumption|omega) only [S0,rA,rQ,rB,rT,rE,impl_IsGroup,impl_within,ct_GoodAttr_1,e,Bool.not_not, *]))
theorem spec_l1Same (xs ys : List Int) (hx : xs.length <= 1099511627776) : Fun T 16 [rL xs, rL ys] = some [.bool (decide (xs = ys))] := by
 rw [Fun_k (t := tm16) rfl]; unfold tm16
 by_cases hl : ys.length = xs.length
 ·simp (disch := first|assumption|omega) only [S0,rA,rQ,rB,rT,rE, *]
  rw [scanX 1 xs.length (fun i => decide (atI xs i = atI ys i)) [.bool false], allB_eq hl.symm]
  ·(refine fork_in ?_; repeat' (refine fork_eq ?_ ?_<;>intro _<;>try simp (disch := first|assumption|omega) only [S0,rA,rQ,rB,rT,rE, *]))
  ·intro i hi hp
   have hb : InB xs (i : Int) := InB_nat.2 hi
   have hb' : InB ys (i : Int) := InB_nat.2 (by omega)
   have h2 : decide ((i : Int) < xs.length) = true := by simp; omega
   have h3 : (atI xs i == atI ys i) = true := by simpa using hp
   (refine fork_in ?_; repeat' (refine fork_eq ?_ ?_<;>intro _<;>try simp (disch := first|assumption|omega) only [S0,rA,rQ,rB,rT,rE,S_row, *]))
  ·intro i hi hp
   have hb : InB xs (i : Int) := InB_nat.2 hi
   have hb' : InB ys (i : Int) := InB_nat.2 (by omega)
   have h2 : decide ((i : Int) < xs.length) = true := by simp; omega
   have h3 : (atI xs i == atI ys i) = false := by simpa using hp
   (refine fork_in ?_; repeat' (refine fork_eq ?_ ?_<;>intro _<;>try simp (disch := first|assumption|omega) only [S0,rA,rQ,rB,rT,rE,S_row, *]))
  ·have h2 : decide ((xs.length : Int) < xs.length) = false := by simp
   (refine fork_in ?_; repeat' (refine fork_eq ?_ ?_<;>intro _<;>try simp (disch := first|assumption|omega) only [S0,rA,rQ,rB,rT,rE, *]))
 ·have hl' : ((xs.length : Int) == (ys.length : Int)) = false := by simp; omega
  have e := eq_len (fun h => hl h.symm)
  (refine fork_in ?_; repeat' (refine fork_eq ?_ ?_<;>intro _<;>try simp (disch := first|assumption|omega) only [S0,rA,rQ,rB,rT,rE, *]))
theorem slices_Equal_int (xs ys : List Int) (hx : xs.length <= 1099511627776) : Fun T 56 [rL xs, rL ys] = some [.bool (decide (xs = ys))] := by
 rw [Fun_k (t := tm56) rfl]; unfold tm56
 by_cases hl : ys.length = xs.length
 ·simp (disch := first|assumption|omega) only [S0,rA,rQ,rB,rT,rE, *]
  rw [scanX 1 xs.length (fun i => decide (atI xs i = atI ys i)) [.bool false], allB_eq hl.symm]
  ·(refine fork_in ?_; repeat' (refine fork_eq ?_ ?_<;>intro _<;>try simp (disch := first|assumption|omega) only [S0,rA,rQ,rB,rT,rE, *]))
  ·intro i hi hp
   have hb : InB xs (i : Int) := InB_nat.2 hi
   have hb' : InB ys (i : Int) := InB_nat.2 (by omega)
   have h2 : decide ((i : Int) < xs.length) = true := by simp; omega
   have h3 : (atI xs i == atI ys i) = true := by simpa using hp
   (refine fork_in ?_; repeat' (refine fork_eq ?_ ?_<;>intro _<;>try simp (disch := first|assumption|omega) only [S0,rA,rQ,rB,rT,rE,S_row, *]))
  ·intro i hi hp
   have hb : InB xs (i : Int) := InB_nat.2 hi
   have hb' : InB ys (i : Int) := InB_nat.2 (by omega)
   have h2 : decide ((i : Int) < xs.length) = true := by simp; omega
   have h3 : (atI xs i == atI ys i) = false := by simpa using hp
   (refine fork_in ?_; repeat' (refine fork_eq ?_ ?_<;>intro _<;>try simp (disch := first|assumption|omega) only [S0,rA,rQ,rB,rT,rE,S_row, *]))
  ·have h2 : decide ((xs.length : Int) < xs.length) = false := by simp
   (refine fork_in ?_; repeat' (refine fork_eq ?_ ?_<;>intro _<;>try simp (disch := first|assumption|omega) only [S0,rA,rQ,rB,rT,rE, *]))
 ·have hl' : ((xs.length : Int) == (ys.length : Int)) = false := by simp; omega
  have e := eq_len (fun h => hl h.symm)
  (refine fork_in ?_; repeat' (refine fork_eq ?_ ?_<;>intro _<;>try simp (disch := first|assumption|omega) only [S0,rA,rQ,rB,rT,rE, *]))
theorem spec_SameAttr (s s' : Int) (xs ys : List Int) (hx : xs.length <= 1099511627776) : Fun T 15 [i64 s, rL xs, i64 s', rL ys] = some [.bool (decide ((⟨s, xs⟩ : TAttr) = ⟨s', ys⟩))] := by
 rw [Fun_k (t := tm15) rfl]; unfold tm15
 have e : decide ((⟨s, xs⟩ : TAttr) = ⟨s', ys⟩) = (s == s' && decide (xs = ys)) := by simp [TAttr.mk.injEq, Bool.beq_eq_decide_eq]
 (refine fork_in ?_; repeat' (refine fork_eq ?_ ?_<;>intro _<;>try simp (disch := first|assumption|omega) only [S0,rA,rQ,rB,rT,rE,spec_l1Same,e, *]))
theorem impl_SameAttr (s s' : Int) (xs ys : List Int) (hx : xs.length <= 1099511627776) : Fun T 55 [i64 s, rL xs, i64 s', rL ys] = some [.bool (decide ((⟨s, xs⟩ : TAttr) = ⟨s', ys⟩))] := by
 rw [Fun_k (t := tm55) rfl]; unfold tm55
 have e : decide ((⟨s, xs⟩ : TAttr) = ⟨s', ys⟩) = (s == s' && decide (xs = ys)) := by simp [TAttr.mk.injEq, Bool.beq_eq_decide_eq]
 (refine fork_in ?_; repeat' (refine fork_eq ?_ ?_<;>intro _<;>try simp (disch := first|assumption|omega) only [S0,rA,rQ,rB,rT,rE,slices_Equal_int,e, *]))
theorem spec_l3None (n : Int) (hg : isGrp n = true) : Fun T 14 [i64 n] = some [i64 (none0 n).seq, rL (none0 n).deps] := by
 rw [Fun_k (t := tm14) rfl]; unfold tm14; unfold none0
 have hn := isGrp_rng hg
 (refine fork_in ?_; repeat' (refine fork_eq ?_ ?_<;>intro _<;>try simp (disch := first|assumption|omega) only [S0,rA,rQ,rB,rT,rE,S_make, *]))
theorem impl_noneAttr (n : Int) (hg : isGrp n = true) : Fun T 54 [i64 n] = some [i64 (none0 n).seq, rL (none0 n).deps] := by
 rw [Fun_k (t := tm54) rfl]; unfold tm54; unfold none0
 have hn := isGrp_rng hg
 (refine fork_in ?_; repeat' (refine fork_eq ?_ ?_<;>intro _<;>try simp (disch := first|assumption|omega) only [S0,rA,rQ,rB,rT,rE,S_make, *]))
theorem spec_l4Row (n bal vot sta k i f t a sq : Int) (xs : List Int) (hg : isGrp n = true) (hx : xs.length <= 1099511627776) :
  Fun T 13 [i64 n, i64 bal, i64 vot, i64 sta, i64 k, i64 i, i64 f, i64 t, i64 a, i64 sq, rL xs] = some [.bool (rowOk n ⟨bal, vot, sta, ⟨k, i, f, t, a⟩, ⟨sq, xs⟩⟩)] := by
 rw [Fun_k (t := tm13) rfl]; unfold tm13; unfold rowOk
 (refine fork_in ?_; repeat' (refine fork_eq ?_ ?_<;>intro _<;>try simp (disch := first|assumption|omega) only [S0,rA,rQ,rB,rT,rE,spec_l1In,S_eqs,spec_l3None,spec_SameAttr,spec_GoodCmd,spec_l3Attr, *]))
theorem impl_goodRow (n bal vot sta k i f t a sq : Int) (xs : List Int) (hg : isGrp n = true) (hx : xs.length <= 1099511627776) :
  Fun T 47 [i64 n, i64 bal, i64 vot, i64 sta, i64 k, i64 i, i64 f, i64 t, i64 a, i64 sq, rL xs] = some [.bool (rowOk n ⟨bal, vot, sta, ⟨k, i, f, t, a⟩, ⟨sq, xs⟩⟩)] := by
 rw [Fun_k (t := tm47) rfl]; unfold tm47; unfold rowOk
 have h1 := @cmdZ_ok ⟨k, i, f, t, a⟩
 have h2 := none0_ok hg
 have h3 : decide ((⟨sq, xs⟩ : TAttr) = none0 n) = true -> attrOk n ⟨sq, xs⟩ = true := fun h => by rw [of_decide_eq_true h]; exact h2
 (refine fork_in ?_; repeat' (refine fork_eq ?_ ?_<;>intro _<;>try simp (disch := first|assumption|omega) only [S0,rA,rQ,rB,rT,rE,impl_within,S_eqs,impl_noneAttr,impl_SameAttr,impl_GoodCmd,impl_GoodAttr, *]))
 all_goals (refine bool_fin ?_; simp only [Bool.and_eq_true, Bool.or_eq_true, Bool.not_eq_true', Bool.not_eq_false', Bool.and_eq_false_iff, Bool.or_eq_false_iff, Bool.false_eq_true, beq_iff_eq, beq_eq_false_iff_ne, decide_eq_true_eq, decide_eq_false_iff_not, ne_eq] at *; grind)
theorem slices_Clone_int (xs : List Int) (hx : xs.length <= 10000000000) : Fun T 101 [rL xs] = some [rL xs] := by
 rw [Fun_ext (e := ex101) rfl]
 cases xs with
 | nil => rfl
 | cons x xs =>
  show Fun (entTab [(101, .tm tm101)]) 101 [rL (x :: xs)] = _
  rw [Fun_k (t := tm101) rfl]
  unfold tm101
  have hx' : (x :: xs).length <= 100000000000 := by omega
  have h0 : (Prim.mk 1 0).run [] = some [.rows 1 []] := rfl
  have h1 : (x :: xs).isEmpty = false := rfl
  simp (disch := first | assumption | omega) only [SA, SB, SC, SP, SQ, SZ, reduceIte, reduceCtorEq, Nat.reduceAdd, Nat.reduceEqDiff, rL_ne, rL_emp, h0, h1, S_app]
theorem impl_Attr_copied (s : Int) (xs : List Int) (hx : xs.length <= 10000000000) : Fun T 100 [i64 s, rL xs] = some [i64 s, rL xs] := by
 rw [Fun_k (t := tm100) rfl]; unfold tm100
 (refine fork_in ?_; repeat' (refine fork_eq ?_ ?_<;>intro _<;>try simp (disch := first|assumption|omega) only [S0,rA,rQ,rB,rT,rE,slices_Clone_int, *]))
theorem spec_l1Own (xs : List Int) (hx : xs.length <= 10000000000) : Fun T 41 [rL xs] = some [rL xs] := by
 rw [Fun_k (t := tm41) rfl]; unfold tm41
 have h0 : (Prim.mk 1 0).run [] = some [.rows 1 []] := rfl
 (refine fork_in ?_; repeat' (refine fork_eq ?_ ?_<;>intro _<;>try simp (disch := first|assumption|omega) only [S0,rA,rQ,rB,rT,rE,h0,S_app, *]))
theorem spec_l4OwnAttr (s : Int) (xs : List Int) (hx : xs.length <= 10000000000) : Fun T 40 [i64 s, rL xs] = some [i64 s, rL xs] := by
 rw [Fun_k (t := tm40) rfl]; unfold tm40
 (refine fork_in ?_; repeat' (refine fork_eq ?_ ?_<;>intro _<;>try simp (disch := first|assumption|omega) only [S0,rA,rQ,rB,rT,rE,spec_l1Own, *]))
theorem spec_l4OwnRow (r_ballot r_vote r_state r_cmd_kind r_cmd_id r_cmd_src r_cmd_dst r_cmd_amt r_attr_seq : Int) (r_attr_deps : (List Int)) (hx : r_attr_deps.length <= 10000000000) : Fun T 39 [i64 r_ballot, i64 r_vote, i64 r_state, i64 r_cmd_kind, i64 r_cmd_id, i64 r_cmd_src, i64 r_cmd_dst, i64 r_cmd_amt, i64 r_attr_seq, rL r_attr_deps] = some [i64 r_ballot, i64 r_vote, i64 r_state, i64 r_cmd_kind, i64 r_cmd_id, i64 r_cmd_src, i64 r_cmd_dst, i64 r_cmd_amt, i64 r_attr_seq, rL r_attr_deps] := by
 rw [Fun_k (t := tm39) rfl]; unfold tm39
 (refine fork_in ?_; repeat' (refine fork_eq ?_ ?_<;>intro _<;>try simp (disch := first|assumption|omega) only [S0,rA,rQ,rB,rT,rE,spec_l4OwnAttr, *]))
theorem impl_Row_copied (r_ballot r_vote r_state r_cmd_kind r_cmd_id r_cmd_src r_cmd_dst r_cmd_amt r_attr_seq : Int) (r_attr_deps : (List Int)) (hx : r_attr_deps.length <= 10000000000) : Fun T 99 [i64 r_ballot, i64 r_vote, i64 r_state, i64 r_cmd_kind, i64 r_cmd_id, i64 r_cmd_src, i64 r_cmd_dst, i64 r_cmd_amt, i64 r_attr_seq, rL r_attr_deps] = some [i64 r_ballot, i64 r_vote, i64 r_state, i64 r_cmd_kind, i64 r_cmd_id, i64 r_cmd_src, i64 r_cmd_dst, i64 r_cmd_amt, i64 r_attr_seq, rL r_attr_deps] := by
 rw [Fun_k (t := tm99) rfl]; unfold tm99
 (refine fork_in ?_; repeat' (refine fork_eq ?_ ?_<;>intro _<;>try simp (disch := first|assumption|omega) only [S0,rA,rQ,rB,rT,rE,impl_Attr_copied, *]))
theorem spec_l4New (n : Int) (hg : isGrp n = true) : Fun T 28 [i64 n] = some [i64 n, rL (List.replicate n.toNat ([] : List TRow))] := by
 rw [Fun_k (t := tm28) rfl]; unfold tm28
 have hn := isGrp_rng hg
 (refine fork_in ?_; repeat' (refine fork_eq ?_ ?_<;>intro _<;>try simp (disch := first|assumption|omega) only [S0,rA,rQ,rB,rT,rE,S_make, *]))
theorem spec_l4Own (n : Int) (rows : List (List TRow)) (hg : isGrp n = true) (hl : (rows.length : Int) = n) (hs : smTab rows) : Fun T 38 [i64 n, rL rows] = some [i64 n, rL rows] := by
 rw [Fun_k (t := tm38) rfl]; unfold tm38
 obtain ⟨hs1, hs2⟩ := hs
 have hn := isGrp_rng hg
 have e0 : List.replicate n.toNat ([] : List TRow) = upto [] rows 0 := by rw [upto_zero]; congr 1; omega
 simp (disch := first | assumption | omega) only [SA, SB, SC, SP, SQ, SZ, reduceIte, reduceCtorEq, Nat.reduceAdd, Nat.reduceEqDiff, spec_l4New]
 rw [loopN rows.length (fun i => [i64 i, rL (upto [] rows i)]) (.yield 1, [rL rows]) (by rw [e0]; rfl) (by simp)]
 ·(refine fork_in ?_; repeat' (refine fork_eq ?_ ?_<;>intro _<;>try simp (disch := first|assumption|omega) only [S0,rA,rQ,rB,rT,rE, *]))
 ·intro i hi hlt
  have hb : InB rows (i : Int) := InB_nat.2 hi
  have hq := hs2 _ (at_mem hi)
  have hu : (upto [] rows i).length = rows.length := upto_len [] rows (Nat.le_of_lt hi)
  have hbu : InB (upto [] rows i) (i : Int) := InB_nat.2 (by rw [hu]; exact hi)
  have hu0 : upto [] rows i = setI (upto [] rows i) i ((atI rows (i : Int)).take 0) := by
   have : atI (upto [] rows i) (i : Int) = [] := by
    unfold upto
    rw [atI_nat, List.getD_eq_getElem?_getD, List.getElem?_append_right (by rw [List.length_take]; omega), List.getElem?_replicate]
    split <;> rfl
   have h3 := setI_at hbu
   rw [this] at h3
   rw [List.take_zero]; exact h3.symm
  have hu1 : setI (upto [] rows i) i (atI rows (i : Int)) = upto [] rows (i + 1) := by
   rw [setI]
   exact upto_set [] rows (by rw [atI_get hi]; exact List.getElem?_eq_getElem hi)
  obtain ⟨hq1, hq2⟩ := hq
  have hr : rows.length <= 10 := by omega
  simp (disch := first|assumption|omega) only [S0,rA,rQ,rB,rT,rE, S_row, hlt]
  rw [loopN (atI rows (i : Int)).length (fun j => [i64 j, rL (setI (upto [] rows i) i ((atI rows (i : Int)).take j))]) (.yield 3, [rL (upto [] rows (i + 1))]) (by rw [<- hu0]; rfl) (by simp)]
  ·clear hu hu0 hu1
   simp (disch := first|assumption|omega) only [S0,rA,rQ,rB,rT,rE]
  ·intro j hj hlt2
   have hb2 : InB (atI rows (i : Int)) (j : Int) := InB_nat.2 hj
   have hq3 := hq2 _ (at_mem hj)
   have ha : atI (setI (upto [] rows i) (i : Int) ((atI rows (i : Int)).take j)) (i : Int) = (atI rows (i : Int)).take j := by
    have := S_upd
    exact this.1 hbu
   have hbs : InB (setI (upto [] rows i) (i : Int) ((atI rows (i : Int)).take j)) (i : Int) := InB_nat.2 (by rw [setI, List.length_set, hu]; exact hi)
   have hta := take_at hj
   have hll : ((atI rows (i : Int)).take j).length + 1 <= 100000000000 := by rw [List.length_take]; omega
   have hll2 : ((atI rows (i : Int)).take j).length + ([atI (atI rows (i : Int)) (j : Int)] : List TRow).length <= 100000000000 := hll
   clear hu hu0 hu1
   simp (disch := first|assumption|omega) only [S0,rA,rQ,rB,rT,rE, S_row, S_set, S_mk, S_app, S_hole, S_upd, spec_l4OwnRow, hlt2, ha, hta]
  ·intro hlt2
   rw [List.take_length]
   clear hu hu0
   (refine fork_in ?_; repeat' (refine fork_eq ?_ ?_<;>intro _<;>try simp (disch := first|assumption|omega) only [S0,rA,rQ,rB,rT,rE, *]))
 ·intro hlt
  rw [upto_all]
  simp (disch := first|assumption|omega) only [S0,rA,rQ,rB,rT,rE, hlt]
theorem spec_l4Set (n : Int) (rows : List (List TRow)) (rep no : Int) (r_ballot r_vote r_state r_cmd_kind r_cmd_id r_cmd_src r_cmd_dst r_cmd_amt r_attr_seq : Int) (r_attr_deps : (List Int)) (hg : isGrp n = true) (hl : (rows.length : Int) = n) (hs : smTab rows) (hb : InB rows rep) (h1 : 1 <= no) (h2 : no <= 1000) (hx : r_attr_deps.length <= 10000000000) :
  Fun T 37 [i64 n, rL rows, i64 rep, i64 no, i64 r_ballot, i64 r_vote, i64 r_state, i64 r_cmd_kind, i64 r_cmd_id, i64 r_cmd_src, i64 r_cmd_dst, i64 r_cmd_amt, i64 r_attr_seq, rL r_attr_deps] = some [i64 (tset ⟨n, rows⟩ rep no ⟨r_ballot, r_vote, r_state, ⟨r_cmd_kind, r_cmd_id, r_cmd_src, r_cmd_dst, r_cmd_amt⟩, ⟨r_attr_seq, r_attr_deps⟩⟩).n, rL (tset ⟨n, rows⟩ rep no ⟨r_ballot, r_vote, r_state, ⟨r_cmd_kind, r_cmd_id, r_cmd_src, r_cmd_dst, r_cmd_amt⟩, ⟨r_attr_seq, r_attr_deps⟩⟩).rows] := by
 rw [Fun_k (t := tm37) rfl]; unfold tm37; unfold tset
 have hq := hs.2 _ (at_memI hb)
 have hq1 := hq.1
 simp (maxSteps := 2000000) (disch := first | assumption | omega) only [SA, SB, SC, SP, SQ, SZ, reduceIte, reduceCtorEq, Nat.reduceAdd, Nat.reduceEqDiff, spec_l4Own, hg, hl]
 rw [whileE (T := T) (.yield 1, [rL (setI rows rep (ext n (atI rows rep) no))]) (fun j : Nat => (no - (atI rows rep).length).toNat - j) (fun j => j <= (no - (atI rows rep).length).toNat) (fun j => [rL (setI rows rep (atI rows rep ++ List.replicate j (row0 n)))]) 0 (by rw [List.replicate_zero, List.append_nil, setI_at hb]; rfl) (by omega) (by simp)]
 ·have hb2 : InB (setI rows rep (ext n (atI rows rep) no)) rep := by unfold InB; rw [setI, List.length_set]; exact hb
  have ha : atI (setI rows rep (ext n (atI rows rep) no)) rep = ext n (atI rows rep) no := S_upd.1 hb
  have hb3 : InB (ext n (atI rows rep) no) (no - 1) := by unfold InB; rw [ext_len (by omega)]; omega
  simp (disch := first|assumption|omega) only [S0,rA,rQ,rB,rT,rE, S_row, S_set, S_upd, spec_l4OwnRow, ha]
 ·intro j hj
  have hb2 : InB (setI rows rep (atI rows rep ++ List.replicate j (row0 n))) rep := by unfold InB; rw [setI, List.length_set]; exact hb
  have ha : atI (setI rows rep (atI rows rep ++ List.replicate j (row0 n))) rep = atI rows rep ++ List.replicate j (row0 n) := S_upd.1 hb
  have hlen : ((atI rows rep ++ List.replicate j (row0 n)).length : Int) = (atI rows rep).length + j := by simp
  have hrep : (atI rows rep ++ List.replicate j (row0 n)) ++ [row0 n] = atI rows rep ++ List.replicate (j + 1) (row0 n) := by rw [List.append_assoc, <- List.replicate_succ']
  have hll : (atI rows rep ++ List.replicate j (row0 n)).length + ([row0 n] : List TRow).length <= 100000000000 := by simp only [List.length_append, List.length_replicate, List.length_cons, List.length_nil]; omega
  unfold row0 at hrep hll ha hb2 hlen ⊢
  by_cases hc : (atI rows rep).length + j < no
  ·have hc' : decide (((atI rows rep).length : Int) + j < no) = true := by simpa using hc
   refine .inl ⟨j + 1, ?_, by omega, by omega⟩
   simp (disch := first|assumption|omega) only [S0,rA,rQ,rB,rT,rE, S_row, S_set, S_mk, S_app, S_hole, S_upd, spec_l3None, ha, hlen, hc', hrep]
  ·have hc' : decide (((atI rows rep).length : Int) + j < no) = false := by simpa using hc
   have hj2 : j = (no - (atI rows rep).length).toNat := by omega
   refine .inr ?_
   simp (disch := first|assumption|omega) only [S0,rA,rQ,rB,rT,rE, S_row, S_set, S_mk, S_app, S_hole, S_upd, ha, hlen, hc']
   rw [hj2]; rfl
theorem impl_Table_set (n : Int) (rows : List (List TRow)) (rep no : Int) (r_ballot r_vote r_state r_cmd_kind r_cmd_id r_cmd_src r_cmd_dst r_cmd_amt r_attr_seq : Int) (r_attr_deps : (List Int)) (hg : isGrp n = true) (hs : smTab rows) (hb : InB rows rep) (h1 : 1 <= no) (h2 : no <= 1000) (hx : r_attr_deps.length <= 10000000000) :
  Fun T 98 [i64 rep, i64 no, i64 r_ballot, i64 r_vote, i64 r_state, i64 r_cmd_kind, i64 r_cmd_id, i64 r_cmd_src, i64 r_cmd_dst, i64 r_cmd_amt, i64 r_attr_seq, rL r_attr_deps, i64 n, rL rows] = some [i64 (tset ⟨n, rows⟩ rep no ⟨r_ballot, r_vote, r_state, ⟨r_cmd_kind, r_cmd_id, r_cmd_src, r_cmd_dst, r_cmd_amt⟩, ⟨r_attr_seq, r_attr_deps⟩⟩).n, rL (tset ⟨n, rows⟩ rep no ⟨r_ballot, r_vote, r_state, ⟨r_cmd_kind, r_cmd_id, r_cmd_src, r_cmd_dst, r_cmd_amt⟩, ⟨r_attr_seq, r_attr_deps⟩⟩).rows] := by
 rw [Fun_k (t := tm98) rfl]; unfold tm98; unfold tset
 have hq := hs.2 _ (at_memI hb)
 have hq1 := hq.1
 simp (disch := first|assumption|omega) only [S0,rA,rQ,rB,rT,rE]
 rw [whileE (T := T) (.yield 1, [rL (setI rows rep (ext n (atI rows rep) no))]) (fun j : Nat => (no - (atI rows rep).length).toNat - j) (fun j => j <= (no - (atI rows rep).length).toNat) (fun j => [rL (setI rows rep (atI rows rep ++ List.replicate j (row0 n)))]) 0 (by rw [List.replicate_zero, List.append_nil, setI_at hb]; rfl) (by omega) (by simp)]
 ·have hb2 : InB (setI rows rep (ext n (atI rows rep) no)) rep := by unfold InB; rw [setI, List.length_set]; exact hb
  have ha : atI (setI rows rep (ext n (atI rows rep) no)) rep = ext n (atI rows rep) no := S_upd.1 hb
  have hb3 : InB (ext n (atI rows rep) no) (no - 1) := by unfold InB; rw [ext_len (by omega)]; omega
  simp (disch := first|assumption|omega) only [S0,rA,rQ,rB,rT,rE, S_row, S_set, S_upd, impl_Row_copied, ha]
 ·intro j hj
  have hb2 : InB (setI rows rep (atI rows rep ++ List.replicate j (row0 n))) rep := by unfold InB; rw [setI, List.length_set]; exact hb
  have ha : atI (setI rows rep (atI rows rep ++ List.replicate j (row0 n))) rep = atI rows rep ++ List.replicate j (row0 n) := S_upd.1 hb
  have hlen : ((atI rows rep ++ List.replicate j (row0 n)).length : Int) = (atI rows rep).length + j := by simp
  have hrep : (atI rows rep ++ List.replicate j (row0 n)) ++ [row0 n] = atI rows rep ++ List.replicate (j + 1) (row0 n) := by rw [List.append_assoc, <- List.replicate_succ']
  have hll : (atI rows rep ++ List.replicate j (row0 n)).length + ([row0 n] : List TRow).length <= 100000000000 := by simp only [List.length_append, List.length_replicate, List.length_cons, List.length_nil]; omega
  unfold row0 at hrep hll ha hb2 hlen ⊢
  by_cases hc : (atI rows rep).length + j < no
  ·have hc' : decide (((atI rows rep).length : Int) + j < no) = true := by simpa using hc
   refine .inl ⟨j + 1, ?_, by omega, by omega⟩
   simp (disch := first|assumption|omega) only [S0,rA,rQ,rB,rT,rE, S_row, S_set, S_mk, S_app, S_hole, S_upd, impl_noneAttr, ha, hlen, hc', hrep]
  ·have hc' : decide (((atI rows rep).length : Int) + j < no) = false := by simpa using hc
   have hj2 : j = (no - (atI rows rep).length).toNat := by omega
   refine .inr ?_
   simp (disch := first|assumption|omega) only [S0,rA,rQ,rB,rT,rE, S_row, S_set, S_mk, S_app, S_hole, S_upd, ha, hlen, hc']
   rw [hj2]; rfl
theorem impl_newTable (n : Int) (hg : isGrp n = true) : Fun T 73 [i64 n] = some [i64 n, rL (List.replicate n.toNat ([] : List TRow))] := by
 rw [Fun_k (t := tm73) rfl]; unfold tm73
 have hn := isGrp_rng hg
 simp (disch := first|assumption|omega) only [S0,rA,rQ,rB,rT,rE, S_make]
theorem spec_l1Split (s : List UInt8) (b : UInt8) (hs : s.length <= 1000000000) : Fun T 32 [.str s, u8 b] = some [rL (splitB b s)] := by
 rw [Fun_k (t := tm32) rfl]; unfold tm32
 simp (disch := first|assumption|omega) only [S0,rA,rQ,rB,rT,rE]
 generalize hE : Er T (Tm.loop _ _) _ = E
 have key : ∃ q, E = some q /\ ∃ (out : List (List UInt8)) (f : Nat), q = (.yield 1, [rL out, i64 f]) /\ f <= s.length /\ out ++ splitB b (s.drop f) = splitB b s /\ b ∉ s.drop f /\ out.length <= s.length := by
  rw [<- hE]
  refine loopEx (γ := Nat × Nat × List (List UInt8)) (fun c => s.length - c.1) (fun c => c.2.1 <= c.1 /\ c.1 <= s.length /\ c.2.2 ++ splitB b (s.drop c.2.1) = splitB b s /\ b ∉ (s.take c.1).drop c.2.1 /\ c.2.2.length <= c.1) (fun c => [rL c.2.2, i64 c.2.1, i64 c.1]) _ (0, 0, []) rfl (by simp) ?_
  rintro ⟨i, f, out⟩ ⟨h1, h2, h3, h4, h5⟩
  simp only at h1 h2 h3 h4 h5
  by_cases hi : i < s.length
  ·have d : decide ((i : Int) < (s.length : Int)) = true := by simpa using hi
   have hx : (i : Int) < (s.length : Int) := by omega
   have hx0 : (0 : Int) <= i := by omega
   have es := t_sidx (s := s) (k := (i : Int)) hx0 hx
   have eds := drop_split (s := s) h1 hi
   left
   by_cases hc : atI s (i : Int) = b
   ·have ec : (atI s (i : Int) == b) = true := by simpa using hc
    have eb := t_ssub (s := s) (lo := (f : Int)) (hi := (i : Int)) (by omega) (by omega) (by omega)
    rw [Int.toNat_natCast, Int.toNat_natCast] at eb
    have z : out.length + ([(s.take i).drop f] : List (List UInt8)).length <= 100000000000 := by simp only [List.length_cons, List.length_nil]; omega
    refine ⟨(i + 1, i + 1, out ++ [(s.take i).drop f]), ?_, ⟨by simp only; omega, by simp only; omega, ?_, by simp, by simp; omega⟩, by simp only; omega⟩
    ·simp (disch := first|assumption|omega) only [S0,rA,rQ,rB,rT,rE, t_slen, d, es, u8_eq, ec, eb, S_mk, S_app]
    ·simp only
     rw [<- h3, eds, hc, splitB_app _ h4, List.append_assoc]
     rfl
   ·have ec : (atI s (i : Int) == b) = false := by simpa using hc
    refine ⟨(i + 1, f, out), ?_, ⟨by simp only; omega, by simp only; omega, h3, ?_, by simp only; omega⟩, by simp only; omega⟩
    ·simp (disch := first|assumption|omega) only [S0,rA,rQ,rB,rT,rE, t_slen, d, es, u8_eq, ec]
    ·simp only
     rw [take_drop_succ h1 hi]
     simp only [List.mem_append, List.mem_singleton, not_or]
     exact ⟨h4, fun e => hc e.symm⟩
  ·have d : decide ((i : Int) < (s.length : Int)) = false := by simpa using hi
   refine .inr ⟨(.yield 1, [rL out, i64 f]), ?_, by simp, out, f, rfl, by omega, h3, ?_, by omega⟩
   ·simp (disch := first|assumption|omega) only [S0,rA,rQ,rB,rT,rE, t_slen, d]
   ·rw [List.take_of_length_le (by omega)] at h4
    exact h4
 obtain ⟨q, rfl, out, f, rfl, h1, h2, h3, h4⟩ := key
 have eb := t_ssub (s := s) (lo := (f : Int)) (hi := (s.length : Int)) (by omega) (by omega) (by omega)
 rw [Int.toNat_natCast, Int.toNat_natCast, List.take_of_length_le (Nat.le_refl _)] at eb
 have z : out.length + ([s.drop f] : List (List UInt8)).length <= 100000000000 := by simp only [List.length_cons, List.length_nil]; omega
 have e : out ++ [s.drop f] = splitB b s := by rw [<- h2, splitB_no h3]
 simp (disch := first|assumption|omega) only [S0,rA,rQ,rB,rT,rE, t_slen, eb, S_mk, S_app, e]
theorem countString (s : List UInt8) (b : UInt8) : Fun T 86 [.str s, u8 b] = some [i64 (s.count b : Nat)] := by
 rw [Fun_ext (e := cntE) rfl]
 exact cntE_u8
theorem indexByteString (s : List UInt8) (b : UInt8) : Fun T 90 [.str s, u8 b] = some [i64 (Lib.indexByte s b)] := by
 rw [Fun_ext (e := ixE) rfl]
 exact ixE_u8
theorem lite_IndexByte (s : List UInt8) (b : UInt8) : Fun T 89 [.str s, u8 b] = some [i64 (Lib.indexByte s b)] := by
 rw [Fun_k (t := tm89) rfl]; unfold tm89
 simp (disch := first|assumption|omega) only [S0,rA,rQ,rB,rT,rE, indexByteString]
theorem strings_Count (s : List UInt8) (b : UInt8) : Fun T 85 [.str s, .str [b]] = some [i64 (s.count b : Nat)] := by
 rw [Fun_k (t := tm85) rfl]; unfold tm85
 have e1 : Prim.slen.run [.str [b]] = some [i64 1] := rfl
 have e2 : Prim.sidx.run [.str [b], i64 0] = some [u8 b] := rfl
 simp (disch := first|assumption|omega) only [S0,rA,rQ,rB,rT,rE, e1, e2, countString]
theorem lite_Index (s : List UInt8) (b : UInt8) : Fun T 88 [.str s, .str [b]] = some [i64 (Lib.indexByte s b)] := by
 rw [Fun_k (t := tm88) rfl]; unfold tm88
 have e1 : Prim.slen.run [.str [b]] = some [i64 1] := rfl
 have e2 : Prim.sidx.run [.str [b], i64 0] = some [u8 b] := rfl
 cases e : ([b] : List UInt8) == s
 ·simp (disch := first|assumption|omega) only [S0,rA,rQ,rB,rT,rE, e1, e2, t_eq, e, lite_IndexByte]
 ·have hs : s = [b] := (show [b] = s by simpa using e).symm
  have hi : Lib.indexByte s b = 0 := by rw [hs]; unfold Lib.indexByte; simp
  rw [hi]
  simp (disch := first|assumption|omega) only [S0,rA,rQ,rB,rT,rE, e1, t_eq, e]
theorem strings_Index (s : List UInt8) (b : UInt8) : Fun T 87 [.str s, .str [b]] = some [i64 (Lib.indexByte s b)] := by
 rw [Fun_k (t := tm87) rfl]; unfold tm87
 simp (disch := first|assumption|omega) only [S0,rA,rQ,rB,rT,rE, lite_Index]
theorem strings_genSplit (s : List UInt8) (b : UInt8) (hs : s.length <= 1000000000) : Fun T 80 [.str s, .str [b], i64 0, i64 (-1)] = some [rL (splitB b s)] := by
 rw [Fun_k (t := tm80) rfl]; unfold tm80
 have e0 : (([b] : List UInt8) == []) = false := rfl
 have hcl : s.count b <= s.length := List.count_le_length
 have hmin : min ((s.count b : Nat) + 1 : Int) ((s.length : Int) + 1) = ((s.count b : Nat) : Int) + 1 := by omega
 have emk : (Prim.make 16 [(.str [])]).run [i64 (((s.count b : Nat) : Int) + 1)] = some [rL (List.replicate (s.count b + 1) ([] : List UInt8))] := by
  have := S_make.2.1 (n := ((s.count b : Nat) : Int) + 1) (by omega) (by omega)
  rw [this]
  congr
 have ea : ((s.count b : Nat) : Int) + 1 - 1 = ((s.count b : Nat) : Int) := by omega
 simp (disch := first|assumption|omega) only [S0,rA,rQ,rB,rT,rE, t_eq, e0, strings_Count, t_slen, hmin, emk, ea]
 generalize hE : Er T (Tm.loop _ _) _ = E
 have key : ∃ q, E = some q /\ ∃ (r : List UInt8) (a : List (List UInt8)), q = (.yield 1, [.str r, rL a, i64 (s.count b : Nat)]) /\ a.length = s.count b + 1 /\ b ∉ r /\ a.take (s.count b) ++ splitB b r = splitB b s := by
  rw [<- hE]
  refine loopEx (γ := Nat × List UInt8 × List (List UInt8)) (fun c => s.count b - c.1) (fun c => c.1 <= s.count b /\ c.2.2.length = s.count b + 1 /\ c.2.1.count b + c.1 = s.count b /\ c.2.1.length <= s.length /\ c.2.2.take c.1 ++ splitB b c.2.1 = splitB b s) (fun c => [.str c.2.1, rL c.2.2, i64 c.1]) _ (0, s, List.replicate (s.count b + 1) []) rfl (by simp) ?_
  rintro ⟨i, r, a⟩ ⟨h1, h2, h3, h4, h5⟩
  simp only at h1 h2 h3 h4 h5
  by_cases hi : i < s.count b
  ·have d : decide ((i : Int) < ((s.count b : Nat) : Int)) = true := by simpa using hi
   have hm : b ∈ r := List.count_pos_iff.1 (by omega)
   obtain ⟨p, t, hr, hp, hix⟩ := ix_some hm
   have hbi : InB a (i : Int) := by unfold InB; omega
   have d2 : decide ((p.length : Int) < 0) = false := by simp
   have hrl : r.length = p.length + t.length + 1 := by rw [hr]; simp; omega
   have ea0 : (p.length : Int) + 0 = p.length := by omega
   have es1 := t_ssub (s := r) (lo := 0) (hi := (p.length : Int)) (by omega) (by omega) (by omega)
   have es2 := t_ssub (s := r) (lo := (p.length : Int) + 1) (hi := (r.length : Int)) (by omega) (by omega) (by omega)
   have et1 : (r.take (p.length : Int).toNat).drop (0 : Int).toNat = p := by
    rw [Int.toNat_natCast, hr]; simp
   have et2 : (r.take (r.length : Int).toNat).drop ((p.length : Int) + 1).toNat = t := by
    rw [Int.toNat_natCast, List.take_of_length_le (Nat.le_refl _), show ((p.length : Int) + 1).toNat = p.length + 1 by omega, hr]
    rw [List.drop_append]
    simp
   rw [et1] at es1
   rw [et2] at es2
   have eb1 : Prim.slen.run [.str [b]] = some [i64 1] := rfl
   have hcr : r.count b = t.count b + 1 := by
    rw [hr, List.count_append, List.count_cons_self, List.count_eq_zero.2 hp]
    omega
   refine .inl ⟨(i + 1, t, setI a (i : Int) p), ?_, ⟨by simp only; omega, by simp only [setI_len]; omega, by simp only; omega, by simp only; omega, ?_⟩, by simp only; omega⟩
   ·simp (disch := first|assumption|omega) only [S0,rA,rQ,rB,rT,rE, d, strings_Index, hix, d2, ea0, es1, S_set, eb1, t_slen, es2]
   ·simp only
    have e6 : (setI a (i : Int) p).take (i + 1) = a.take i ++ [p] := by
     have hl : i < (setI a (i : Int) p).length := by rw [setI_len]; omega
     rw [<- take_at hl]
     have e7 : atI (setI a (i : Int) p) (i : Int) = p := S_upd.1 hbi
     rw [e7]
     congr 1
     unfold setI
     rw [Int.toNat_natCast, List.take_set_of_le (Nat.le_refl _)]
    rw [e6, List.append_assoc, <- h5, hr, splitB_app _ hp]
    rfl
  ·have d : decide ((i : Int) < ((s.count b : Nat) : Int)) = false := by simpa using hi
   obtain rfl : i = s.count b := by omega
   refine .inr ⟨(.yield 1, [.str r, rL a, i64 (s.count b : Nat)]), ?_, by simp, r, a, rfl, h2, List.count_eq_zero.1 (by omega), h5⟩
   simp (disch := first|assumption|omega) only [S0,rA,rQ,rB,rT,rE, d]
 obtain ⟨q, rfl, r, a, rfl, h1, h2, h3⟩ := key
 have hb : InB a ((s.count b : Nat) : Int) := by unfold InB; omega
 have hl : s.count b < (setI a ((s.count b : Nat) : Int) r).length := by rw [setI_len]; omega
 have hll : ((s.count b : Nat) : Int) + 1 <= ((setI a ((s.count b : Nat) : Int) r).length : Int) := by omega
 have e6 : ((setI a ((s.count b : Nat) : Int) r).take (((s.count b : Nat) : Int) + 1).toNat).drop (0 : Int).toNat = splitB b s := by
  rw [show (((s.count b : Nat) : Int) + 1).toNat = s.count b + 1 by omega]
  rw [<- take_at hl]
  have e7 : atI (setI a ((s.count b : Nat) : Int) r) ((s.count b : Nat) : Int) = r := S_upd.1 hb
  rw [e7, <- h3, splitB_no h2]
  simp only [Int.toNat_zero, List.drop_zero]
  congr 1
  unfold setI
  rw [Int.toNat_natCast, List.take_set_of_le (Nat.le_refl _)]
 simp (disch := first|assumption|omega) only [S0,rA,rQ,rB,rT,rE, S_set, S_sub, e6]
theorem strings_Split (s : List UInt8) (b : UInt8) (hs : s.length <= 1000000000) : Fun T 79 [.str s, .str [b]] = some [rL (splitB b s)] := by
 rw [Fun_k (t := tm79) rfl]; unfold tm79
 simp (disch := first|assumption|omega) only [S0,rA,rQ,rB,rT,rE, strings_genSplit]
theorem impl_digits (s : List UInt8) (most : Int) (hm : 0 <= most) (hm2 : most <= 9) (hs : s.length <= 1000000000) : Fun T 92 [.str s, i64 most] = some [i64 (digM s most)] := by
 rw [Fun_k (t := tm92) rfl]; unfold tm92
 simp (disch := first|assumption|omega) only [S0,rA,rQ,rB,rT,rE, t_slen]
 have hloop : ∀ i : Nat, i <= s.length -> (s.take i).all isDig = true -> (i : Int) <= most -> 0 <= valD (s.take i) /\ valD (s.take i) <= 1000000000 := by
  intro i hi hd hm3
  obtain ⟨h1, h2⟩ := valD_rng (s.take i) hd
  refine ⟨h1, ?_⟩
  have h3 : (s.take i).length <= 9 := by rw [List.length_take]; omega
  have h4 : (10 : Int) ^ (s.take i).length <= 10 ^ 9 := by
   exact_mod_cast Nat.pow_le_pow_right (by decide) h3
  have h5 : (10 : Int) ^ 9 = 1000000000 := by decide
  omega
 have stepN : ∀ i : Nat, i < s.length -> (s.take (i + 1)).all isDig = ((s.take i).all isDig && isDig (atI s (i : Int))) := by
  intro i hi
  rw [<- take_at hi, List.all_append]
  simp
 have stepV : ∀ i : Nat, i < s.length -> valD (s.take (i + 1)) = 10 * valD (s.take i) + (((atI s (i : Int)).toNat : Int) - 48) := by
  intro i hi
  rw [<- take_at hi, valD_app]
 have badall : ∀ i : Nat, i < s.length -> isDig (atI s (i : Int)) = false -> s.all isDig = false := by
  intro i hi hd
  cases h : s.all isDig
  ·rfl
  ·rw [List.all_eq_true] at h
   rw [h _ (at_mem hi)] at hd
   cases hd
 rw [whileE (if s.all isDig && decide ((s.length : Int) <= most) then (.yield 1, [i64 (valD s)]) else (.ret, [i64 (-1)])) (fun i : Nat => s.length - i) (fun i : Nat => i <= s.length /\ (s.take i).all isDig = true /\ (i : Int) <= most) (fun i => [i64 (valD (s.take i)), i64 i]) 0 rfl (by simp; omega) (by split <;> simp)]
 rotate_left
 ·rintro i ⟨hi, hd, hmi⟩
  by_cases hlt : i < s.length
  ·have d : decide ((i : Int) < (s.length : Int)) = true := by simpa using hlt
   have es := t_sidx (s := s) (k := (i : Int)) (by omega) (by omega)
   obtain ⟨v1, v2⟩ := hloop i hi hd hmi
   cases hdig : isDig (atI s (i : Int))
   ·right
    have hb := badall i hlt hdig
    rw [hb]
    simp only [Bool.false_and, Bool.false_eq_true, if_false]
    unfold isDig at hdig
    simp only [Bool.not_eq_false', Bool.or_eq_true, decide_eq_true_eq] at hdig
    by_cases h48 : (atI s (i : Int)).toNat < 48
    ·have d1 : decide ((atI s (i : Int)).toNat < 48) = true := by simpa using h48
     simp (disch := first|assumption|omega) only [S0,rA,rQ,rB,rT,rE, d, es, u8_lt48, d1]
    ·have d1 : decide ((atI s (i : Int)).toNat < 48) = false := by simpa using h48
     have d2 : decide (57 < (atI s (i : Int)).toNat) = true := by simp; omega
     simp (disch := first|assumption|omega) only [S0,rA,rQ,rB,rT,rE, d, es, u8_lt48, d1, u8_gt57, d2]
   ·have hr := isDig_rng hdig
    have d1 : decide ((atI s (i : Int)).toNat < 48) = false := by simp; omega
    have d2 : decide (57 < (atI s (i : Int)).toNat) = false := by simp; omega
    by_cases hmx : most <= (i : Int)
    ·right
     have d3 : decide (most <= (i : Int)) = true := by simpa using hmx
     have d4 : decide ((s.length : Int) <= most) = false := by simp; omega
     rw [d4]
     simp only [Bool.and_false, Bool.false_eq_true, if_false]
     simp (disch := first|assumption|omega) only [S0,rA,rQ,rB,rT,rE, d, es, u8_lt48, d1, u8_gt57, d2, d3]
    ·have d3 : decide (most <= (i : Int)) = false := by simpa using hmx
     have er : (Prim.bin .mul).run [i64 10, i64 (valD (s.take i))] = some [i64 (10 * valD (s.take i))] := run_mulI (by omega) (by omega)
     have ed := u8_dig hdig
     have ev := stepV i hlt
     refine .inl ⟨i + 1, ?_, ⟨by omega, by rw [stepN i hlt, hd, hdig]; rfl, by omega⟩, by omega⟩
     simp (disch := first|assumption|omega) only [S0,rA,rQ,rB,rT,rE, d, es, u8_lt48, d1, u8_gt57, d2, d3, er, u8_sub, ed, ev]
  ·have d : decide ((i : Int) < (s.length : Int)) = false := by simpa using hlt
   obtain rfl : i = s.length := by omega
   rw [List.take_of_length_le (Nat.le_refl _)] at hd ⊢
   have d4 : decide ((s.length : Int) <= most) = true := by simpa using hmi
   right
   rw [hd, d4]
   simp only [Bool.and_self, if_true]
   simp (disch := first|assumption|omega) only [S0,rA,rQ,rB,rT,rE, d]
 unfold digM
 cases hA : s.all isDig && decide ((s.length : Int) <= most)
 ·simp only [Bool.false_and, Bool.false_eq_true, if_false]
  simp (disch := first|assumption|omega) only [S0,rA,rQ,rB,rT,rE]
 ·simp only [Bool.true_and, if_true]
  by_cases hne : s = []
  ·subst hne
   have e0 : (([] : List UInt8) == []) = true := rfl
   simp (disch := first|assumption|omega) only [S0,rA,rQ,rB,rT,rE, t_eq, e0]
   rfl
  ·have e0 : (s == []) = false := by simpa using hne
   have hl : 0 < s.length := List.length_pos_iff.2 hne
   have es := t_sidx (s := s) (k := 0) (by omega) (by omega)
   rw [lead_of hne]
   cases hc : atI s 0 == 48
   ·simp only [Bool.false_and, Bool.not_false, if_true]
    simp (disch := first|assumption|omega) only [S0,rA,rQ,rB,rT,rE, t_eq, e0, es, u8_eq48, hc]
   ·cases d5 : decide ((1 : Int) < (s.length : Int))
    ·simp only [Bool.and_false, Bool.not_false, if_true]
     simp (disch := first|assumption|omega) only [S0,rA,rQ,rB,rT,rE, t_eq, e0, es, u8_eq48, hc, t_slen, d5]
    ·simp only [Bool.and_true, Bool.not_true, Bool.false_eq_true, if_false]
     simp (disch := first|assumption|omega) only [S0,rA,rQ,rB,rT,rE, t_eq, e0, es, u8_eq48, hc, t_slen, d5]
theorem spec_l1Read (s : List UInt8) (hs : s.length <= 1000000000) : Fun T 33 [.str s] = some [i64 (digM s 6)] := by
 rw [Fun_k (t := tm33) rfl]; unfold tm33
 unfold digM
 cases hlen : inR ((s.length : Nat) : Int) 1 6
 ·have hk : (s.all isDig && decide ((s.length : Int) <= 6) && !lead s) = false := by
   by_cases hne : s = []
   ·subst hne; rfl
   ·have hl : 0 < s.length := List.length_pos_iff.2 hne
    have d4 : decide ((s.length : Int) <= 6) = false := by
     cases hd : decide ((s.length : Int) <= 6)
     ·rfl
     ·simp only [decide_eq_true_eq] at hd
      have : inR ((s.length : Nat) : Int) 1 6 = true := inR_iff.2 ⟨by omega, hd⟩
      rw [this] at hlen
      cases hlen
    rw [d4, Bool.and_false, Bool.false_and]
  rw [hk]
  simp only [Bool.false_eq_true, if_false]
  simp (disch := first|assumption|omega) only [S0,rA,rQ,rB,rT,rE, t_slen, spec_l1In, hlen]
 ·have hr := inR_iff.1 hlen
  have d4 : decide ((s.length : Int) <= 6) = true := by simpa using hr.2
  have hne : s ≠ [] := by intro e; rw [e] at hr; simp at hr
  have es0 := t_sidx (s := s) (k := 0) (by omega) (by omega)
  rw [d4, Bool.and_true, lead_of hne]
  have hloop : ∀ i : Nat, i <= s.length -> (s.take i).all isDig = true -> 0 <= valD (s.take i) /\ valD (s.take i) <= 1000000000 := by
   intro i hi hd
   obtain ⟨h1, h2⟩ := valD_rng (s.take i) hd
   refine ⟨h1, ?_⟩
   have h3 : (s.take i).length <= 9 := by rw [List.length_take]; omega
   have h4 : (10 : Int) ^ (s.take i).length <= 10 ^ 9 := by
    exact_mod_cast Nat.pow_le_pow_right (by decide) h3
   have h5 : (10 : Int) ^ 9 = 1000000000 := by decide
   omega
  have stepN : ∀ i : Nat, i < s.length -> (s.take (i + 1)).all isDig = ((s.take i).all isDig && isDig (atI s (i : Int))) := by
   intro i hi
   rw [<- take_at hi, List.all_append]
   simp
  have stepV : ∀ i : Nat, i < s.length -> valD (s.take (i + 1)) = 10 * valD (s.take i) + (((atI s (i : Int)).toNat : Int) - 48) := by
   intro i hi
   rw [<- take_at hi, valD_app]
  have badall : ∀ i : Nat, i < s.length -> isDig (atI s (i : Int)) = false -> s.all isDig = false := by
   intro i hi hd
   cases h : s.all isDig
   ·rfl
   ·rw [List.all_eq_true] at h
    rw [h _ (at_mem hi)] at hd
    cases hd
  cases hc : atI s 0 == 48
  ·simp only [Bool.false_and, Bool.not_false, Bool.and_true]
   simp (disch := first|assumption|omega) only [S0,rA,rQ,rB,rT,rE, t_slen, spec_l1In, hlen, es0, u8_eq48, hc]
   rw [whileE (if s.all isDig then (.yield 1, [i64 (valD s)]) else (.ret, [i64 (-1)])) (fun i : Nat => s.length - i) (fun i : Nat => i <= s.length /\ (s.take i).all isDig = true) (fun i => [i64 (valD (s.take i)), i64 i]) 0 rfl (by simp) (by split <;> simp)]
   ·cases hA : s.all isDig
    ·simp only [Bool.false_eq_true, if_false]
     simp (disch := first|assumption|omega) only [S0,rA,rQ,rB,rT,rE]
    ·simp only [if_true]
     simp (disch := first|assumption|omega) only [S0,rA,rQ,rB,rT,rE]
   ·rintro i ⟨hi, hd⟩
    by_cases hlt : i < s.length
    ·have d : decide ((i : Int) < (s.length : Int)) = true := by simpa using hlt
     have es := t_sidx (s := s) (k := (i : Int)) (by omega) (by omega)
     obtain ⟨v1, v2⟩ := hloop i hi hd
     cases hdig : isDig (atI s (i : Int))
     ·right
      have hb := badall i hlt hdig
      rw [hb]
      simp only [Bool.false_eq_true, if_false]
      unfold isDig at hdig
      simp only [Bool.not_eq_false', Bool.or_eq_true, decide_eq_true_eq] at hdig
      by_cases h48 : (atI s (i : Int)).toNat < 48
      ·have d1 : decide ((atI s (i : Int)).toNat < 48) = true := by simpa using h48
       simp (disch := first|assumption|omega) only [S0,rA,rQ,rB,rT,rE, t_slen, d, es, u8_lt48, d1]
      ·have d1 : decide ((atI s (i : Int)).toNat < 48) = false := by simpa using h48
       have d2 : decide (57 < (atI s (i : Int)).toNat) = true := by simp; omega
       simp (disch := first|assumption|omega) only [S0,rA,rQ,rB,rT,rE, t_slen, d, es, u8_lt48, d1, u8_gt57, d2]
     ·have hr := isDig_rng hdig
      have d1 : decide ((atI s (i : Int)).toNat < 48) = false := by simp; omega
      have d2 : decide (57 < (atI s (i : Int)).toNat) = false := by simp; omega
      have er : (Prim.bin .mul).run [i64 10, i64 (valD (s.take i))] = some [i64 (10 * valD (s.take i))] := run_mulI (by omega) (by omega)
      have ed := u8_dig hdig
      have ev := stepV i hlt
      refine .inl ⟨i + 1, ?_, ⟨by omega, by rw [stepN i hlt, hd, hdig]; rfl⟩, by omega⟩
      simp (disch := first|assumption|omega) only [S0,rA,rQ,rB,rT,rE, t_slen, d, es, u8_lt48, d1, u8_gt57, d2, er, u8_sub, ed, ev]
    ·have d : decide ((i : Int) < (s.length : Int)) = false := by simpa using hlt
     obtain rfl : i = s.length := by omega
     rw [List.take_of_length_le (Nat.le_refl _)] at hd ⊢
     right
     rw [hd]
     simp only [if_true]
     simp (disch := first|assumption|omega) only [S0,rA,rQ,rB,rT,rE, t_slen, d]
  ·cases d5 : decide ((1 : Int) < (s.length : Int))
   ·simp only [Bool.and_false, Bool.not_false, Bool.and_true]
    simp (disch := first|assumption|omega) only [S0,rA,rQ,rB,rT,rE, t_slen, spec_l1In, hlen, es0, u8_eq48, hc, d5]
    rw [whileE (if s.all isDig then (.yield 1, [i64 (valD s)]) else (.ret, [i64 (-1)])) (fun i : Nat => s.length - i) (fun i : Nat => i <= s.length /\ (s.take i).all isDig = true) (fun i => [i64 (valD (s.take i)), i64 i]) 0 rfl (by simp) (by split <;> simp)]
    ·cases hA : s.all isDig
     ·simp only [Bool.false_eq_true, if_false]
      simp (disch := first|assumption|omega) only [S0,rA,rQ,rB,rT,rE]
     ·simp only [if_true]
      simp (disch := first|assumption|omega) only [S0,rA,rQ,rB,rT,rE]
    ·rintro i ⟨hi, hd⟩
     by_cases hlt : i < s.length
     ·have d : decide ((i : Int) < (s.length : Int)) = true := by simpa using hlt
      have es := t_sidx (s := s) (k := (i : Int)) (by omega) (by omega)
      obtain ⟨v1, v2⟩ := hloop i hi hd
      cases hdig : isDig (atI s (i : Int))
      ·right
       have hb := badall i hlt hdig
       rw [hb]
       simp only [Bool.false_eq_true, if_false]
       unfold isDig at hdig
       simp only [Bool.not_eq_false', Bool.or_eq_true, decide_eq_true_eq] at hdig
       by_cases h48 : (atI s (i : Int)).toNat < 48
       ·have d1 : decide ((atI s (i : Int)).toNat < 48) = true := by simpa using h48
        simp (disch := first|assumption|omega) only [S0,rA,rQ,rB,rT,rE, t_slen, d, es, u8_lt48, d1]
       ·have d1 : decide ((atI s (i : Int)).toNat < 48) = false := by simpa using h48
        have d2 : decide (57 < (atI s (i : Int)).toNat) = true := by simp; omega
        simp (disch := first|assumption|omega) only [S0,rA,rQ,rB,rT,rE, t_slen, d, es, u8_lt48, d1, u8_gt57, d2]
      ·have hr := isDig_rng hdig
       have d1 : decide ((atI s (i : Int)).toNat < 48) = false := by simp; omega
       have d2 : decide (57 < (atI s (i : Int)).toNat) = false := by simp; omega
       have er : (Prim.bin .mul).run [i64 10, i64 (valD (s.take i))] = some [i64 (10 * valD (s.take i))] := run_mulI (by omega) (by omega)
       have ed := u8_dig hdig
       have ev := stepV i hlt
       refine .inl ⟨i + 1, ?_, ⟨by omega, by rw [stepN i hlt, hd, hdig]; rfl⟩, by omega⟩
       simp (disch := first|assumption|omega) only [S0,rA,rQ,rB,rT,rE, t_slen, d, es, u8_lt48, d1, u8_gt57, d2, er, u8_sub, ed, ev]
     ·have d : decide ((i : Int) < (s.length : Int)) = false := by simpa using hlt
      obtain rfl : i = s.length := by omega
      rw [List.take_of_length_le (Nat.le_refl _)] at hd ⊢
      right
      rw [hd]
      simp only [if_true]
      simp (disch := first|assumption|omega) only [S0,rA,rQ,rB,rT,rE, t_slen, d]
   ·simp only [Bool.and_true, Bool.not_true, Bool.and_false, Bool.false_eq_true, if_false]
    simp (disch := first|assumption|omega) only [S0,rA,rQ,rB,rT,rE, t_slen, spec_l1In, hlen, es0, u8_eq48, hc, d5]
theorem impl_numbers (ws : List (List UInt8)) (most : Int) (hm : 0 <= most) (hm2 : most <= 9) (hw : ∀ w ∈ ws, w.length <= 1000000000) (hl : ws.length <= 1000000001) : Fun T 91 [rL ws, i64 most] = some [rL (numR most ws).1, .bool (numR most ws).2] := by
 rw [Fun_k (t := tm91) rfl]; unfold tm91
 have em0 : (Prim.mk 1 0).run [] = some [rL ([] : List Int)] := rfl
 simp (disch := first|assumption|omega) only [S0,rA,rQ,rB,rT,rE, em0]
 rw [whileE (if allNum most ws then (.yield 1, [rL (numsOf most ws)]) else (.ret, [rL ([] : List Int), .bool false])) (fun i : Nat => ws.length - i) (fun i : Nat => i <= ws.length /\ allNum most (ws.take i) = true) (fun i => [rL (numsOf most (ws.take i)), i64 i]) 0 rfl (by simp [allNum]) (by split <;> simp)]
 rotate_left
 ·rintro i ⟨hi, hA⟩
  by_cases hlt : i < ws.length
  ·have d : decide ((i : Int) < (ws.length : Int)) = true := by simpa using hlt
   have hb : InB ws (i : Int) := InB_nat.2 hlt
   have e := impl_digits (atI ws (i : Int)) most hm hm2 (hw _ (at_mem hlt))
   rcases (show digM (atI ws (i : Int)) most < 0 \/ 0 <= digM (atI ws (i : Int)) most by omega) with h0 | h0
   ·right
    have d0 : decide (digM (atI ws (i : Int)) most < 0) = true := by simpa using h0
    rw [allNum_bad hlt h0]
    simp only [Bool.false_eq_true, if_false]
    simp (disch := first|assumption|omega) only [S0,rA,rQ,rB,rT,rE, d, S_row, e, d0, S_nil]
   ·have d0 : decide (digM (atI ws (i : Int)) most < 0) = false := by simp; omega
    have z : (numsOf most (ws.take i)).length + ([digM (atI ws (i : Int)) most] : List Int).length <= 100000000000 := by rw [numsOf_len, List.length_take]; simp only [List.length_cons, List.length_nil]; omega
    have e3 := (numsOf_succ (m := most) hlt).symm
    refine .inl ⟨i + 1, ?_, ⟨by omega, by rw [allNum_succ hlt, hA, decide_eq_true h0]; rfl⟩, by omega⟩
    simp (disch := first|assumption|omega) only [S0,rA,rQ,rB,rT,rE, d, S_row, e, d0, S_mk, S_app, e3]
  ·have d : decide ((i : Int) < (ws.length : Int)) = false := by simpa using hlt
   obtain rfl : i = ws.length := by omega
   rw [List.take_of_length_le (Nat.le_refl _)] at hA ⊢
   right
   rw [hA]
   simp only [if_true]
   simp (disch := first|assumption|omega) only [S0,rA,rQ,rB,rT,rE, d]
 ·cases hA : allNum most ws
  ·rw [numR_no hA]
   simp only [Bool.false_eq_true, if_false]
   simp (disch := first|assumption|omega) only [S0,rA,rQ,rB,rT,rE]
  ·rw [numR_yes hA]
   simp only [if_true]
   simp (disch := first|assumption|omega) only [S0,rA,rQ,rB,rT,rE]
theorem slices_Index_str (xs : List (List UInt8)) (w : List UInt8) (hx : xs.length <= 1000) : Fun T 94 [rL xs, .str w] = some [i64 (ixF (fun x => w == x) xs)] := by
 rw [Fun_k (t := tm94) rfl]; unfold tm94
 simp (disch := first|assumption|omega) only [S0,rA,rQ,rB,rT,rE]
 rw [findX 1 xs (fun x => w == x) (fun i => [i64 i])]
 ·cases h : xs.any (fun x => w == x)
  ·have e : ixF (fun x => w == x) xs = -1 := by
    have h2 := ixF_any (fun x => w == x) xs
    rw [h] at h2
    unfold ixF at h2 ⊢
    split at h2 <;> simp_all
   rw [e]
   simp (disch := first|assumption|omega) only [S0,rA,rQ,rB,rT,rE]
  ·simp (disch := first|assumption|omega) only [S0,rA,rQ,rB,rT,rE]
 ·intro i hi hb hl hp
  simp (disch := first|assumption|omega) only [S0,rA,rQ,rB,rT,rE, S_row, t_eq, hl, hp]
 ·intro i hi hb hl hp
  simp (disch := first|assumption|omega) only [S0,rA,rQ,rB,rT,rE, S_row, t_eq, hl, hp]
 ·intro hl
  simp (disch := first|assumption|omega) only [S0,rA,rQ,rB,rT,rE, hl]
theorem impl_ReadCmd (s : List UInt8) (hs : s.length <= 1000000000) : ∃ code : Int, Fun T 93 [.str s] = some [i64 (cmdB s).1.kind, i64 (cmdB s).1.id, i64 (cmdB s).1.src, i64 (cmdB s).1.dst, i64 (cmdB s).1.amt, i64 code, .bool (cmdB s).2] := by
 rw [Fun_k (t := tm93) rfl]; unfold tm93
 have hsm : ∀ w ∈ splitB 32 s, w.length <= 1000000000 := fun w hw => by have := (splitB_mem hw).2; omega
 have hne := splitB_ne 32 s
 have hll : (splitB 32 s).length <= 1000000001 := by
  rw [splitB_len]
  have : s.count 32 <= s.length := List.count_le_length
  omega
 have esp := strings_Split s 32 hs
 unfold cmdB
 generalize splitB 32 s = ws at *
 have hl0 : 0 < ws.length := List.length_pos_iff.2 hne
 have hb0 : InB ws 0 := by unfold InB; omega
 have ei := slices_Index_str [[45], [109, 111, 118, 101], [114, 101, 97, 100]] (atI ws 0) (by decide)
 rw [ixF_kind] at ei
 have hdr : ∀ w ∈ ws.drop 1, w.length <= 1000000000 := fun w hw => hsm w (List.mem_of_mem_drop hw)
 have hdl := drop1_len (ws := ws)
 have en := impl_numbers (ws.drop 1) 4 (by decide) (by decide) hdr (by omega)
 have esub := sub_tail (ws := ws) (by omega)
 have b0 : InB ([1, 5, 3] : List Int) 0 := by unfold InB; decide
 have b1 : InB ([1, 5, 3] : List Int) 1 := by unfold InB; decide
 have b2 : InB ([1, 5, 3] : List Int) 2 := by unfold InB; decide
 have a0 : atI ([1, 5, 3] : List Int) 0 = 1 := rfl
 have a1 : atI ([1, 5, 3] : List Int) 1 = 5 := rfl
 have a2 : atI ([1, 5, 3] : List Int) 2 = 3 := rfl
 rcases kindB_cases (atI ws 0) with k | k | k | k
 ·rw [k] at ei
  by_cases hl : (ws.length : Int) = 1
  ·have hd : ws.drop 1 = [] := List.eq_nil_of_length_eq_zero (by omega)
   have hA : allNum 4 (ws.drop 1) = true := by rw [hd]; rfl
   have hN := numR_yes hA
   have dl : ((ws.length : Int) == 1) = true := by simpa using hl
   have hc := cmdWs_yes (ws := ws) k (by decide) hl hA rfl
   rw [hc]
   refine ⟨0, ?_⟩
   have eg := impl_GoodCmd 0 0 0 0 0
   have eg2 : cmdOk ⟨0, 0, 0, 0, 0⟩ = true := rfl
   have er : inR 0 0 3 = true := rfl
   have ec : cmdN 0 (numsOf 4 (ws.drop 1)) = ⟨0, 0, 0, 0, 0⟩ := rfl
   rw [ec]
   simp (disch := first|assumption|omega) only [S0,rA,rQ,rB,rT,rE, esp, S_mk, S_row, ei, b0, a0, dl, esub, en, hN, impl_isAccount, er, eg, eg2]
  ·have dl : ((ws.length : Int) == 1) = false := by simpa using hl
   rw [cmdWs_no (.inr (.inl (by rw [k]; exact hl)))]
   refine ⟨2, ?_⟩
   simp (disch := first|assumption|omega) only [S0,rA,rQ,rB,rT,rE, esp, S_mk, S_row, ei, b0, a0, dl]
 ·rw [k] at ei
  by_cases hl : (ws.length : Int) = 5
  ·have dl : ((ws.length : Int) == 5) = true := by simpa using hl
   cases hA : allNum 4 (ws.drop 1)
   ·have hN := numR_no hA
    rw [cmdWs_no (.inr (.inr (.inl hA)))]
    refine ⟨3, ?_⟩
    simp (disch := first|assumption|omega) only [S0,rA,rQ,rB,rT,rE, esp, S_mk, S_row, ei, b1, a1, dl, esub, en, hN]
   ·have hN := numR_yes hA
    have hnl : (numsOf 4 (ws.drop 1)).length = 4 := by rw [numsOf_len]; omega
    have hno := cmdWs_no (ws := ws)
    have hyes := cmdWs_yes (ws := ws) k (by decide) hl hA
    rw [k] at hno
    generalize numsOf 4 (ws.drop 1) = ns at *
    have c0 : InB ns 0 := by unfold InB; omega
    have c1 : InB ns 1 := by unfold InB; omega
    have c2 : InB ns 2 := by unfold InB; omega
    have c3 : InB ns 3 := by unfold InB; omega
    have ecn : cmdN 1 ns = ⟨1, atI ns 0, atI ns 1, atI ns 2, atI ns 3⟩ := rfl
    have eg := impl_GoodCmd 1 (atI ns 0) (atI ns 1) (atI ns 2) (atI ns 3)
    rw [ecn] at hno hyes
    cases q1 : inR (atI ns 1) 0 3
    ·rw [hno (.inr (.inr (.inr (by simp [cmdOk, q1]))))]
     refine ⟨4, ?_⟩
     simp (disch := first|assumption|omega) only [S0,rA,rQ,rB,rT,rE, esp, S_mk, S_row, ei, b1, a1, dl, esub, en, hN, impl_isAccount, q1]
    cases q2 : inR (atI ns 2) 0 3
    ·rw [hno (.inr (.inr (.inr (by simp [cmdOk, q2]))))]
     refine ⟨4, ?_⟩
     simp (disch := first|assumption|omega) only [S0,rA,rQ,rB,rT,rE, esp, S_mk, S_row, ei, b1, a1, dl, esub, en, hN, impl_isAccount, q1, q2]
    cases q3 : atI ns 1 == atI ns 2
    rotate_left
    ·rw [hno (.inr (.inr (.inr (by simp [cmdOk, q3]))))]
     refine ⟨5, ?_⟩
     simp (disch := first|assumption|omega) only [S0,rA,rQ,rB,rT,rE, esp, S_mk, S_row, ei, b1, a1, dl, esub, en, hN, impl_isAccount, q1, q2, q3]
    cases q4 : cmdOk ⟨1, atI ns 0, atI ns 1, atI ns 2, atI ns 3⟩
    ·rw [hno (.inr (.inr (.inr q4)))]
     refine ⟨6, ?_⟩
     simp (disch := first|assumption|omega) only [S0,rA,rQ,rB,rT,rE, esp, S_mk, S_row, ei, b1, a1, dl, esub, en, hN, impl_isAccount, q1, q2, q3, eg, q4]
    ·rw [hyes q4]
     refine ⟨0, ?_⟩
     simp (disch := first|assumption|omega) only [S0,rA,rQ,rB,rT,rE, esp, S_mk, S_row, ei, b1, a1, dl, esub, en, hN, impl_isAccount, q1, q2, q3, eg, q4]
  ·have dl : ((ws.length : Int) == 5) = false := by simpa using hl
   rw [cmdWs_no (.inr (.inl (by rw [k]; exact hl)))]
   refine ⟨2, ?_⟩
   simp (disch := first|assumption|omega) only [S0,rA,rQ,rB,rT,rE, esp, S_mk, S_row, ei, b1, a1, dl]
 ·rw [k] at ei
  by_cases hl : (ws.length : Int) = 3
  ·have dl : ((ws.length : Int) == 3) = true := by simpa using hl
   cases hA : allNum 4 (ws.drop 1)
   ·have hN := numR_no hA
    rw [cmdWs_no (.inr (.inr (.inl hA)))]
    refine ⟨3, ?_⟩
    simp (disch := first|assumption|omega) only [S0,rA,rQ,rB,rT,rE, esp, S_mk, S_row, ei, b2, a2, dl, esub, en, hN]
   ·have hN := numR_yes hA
    have hnl : (numsOf 4 (ws.drop 1)).length = 2 := by rw [numsOf_len]; omega
    have hno := cmdWs_no (ws := ws)
    have hyes := cmdWs_yes (ws := ws) k (by decide) hl hA
    rw [k] at hno
    generalize numsOf 4 (ws.drop 1) = ns at *
    have c0 : InB ns 0 := by unfold InB; omega
    have c1 : InB ns 1 := by unfold InB; omega
    have ecn : cmdN 2 ns = ⟨2, atI ns 0, atI ns 1, 0, 0⟩ := rfl
    have eg := impl_GoodCmd 2 (atI ns 0) (atI ns 1) 0 0
    have q2 : inR 0 0 3 = true := rfl
    rw [ecn] at hno hyes
    cases q1 : inR (atI ns 1) 0 3
    ·rw [hno (.inr (.inr (.inr (by simp [cmdOk, q1]))))]
     refine ⟨4, ?_⟩
     simp (disch := first|assumption|omega) only [S0,rA,rQ,rB,rT,rE, esp, S_mk, S_row, ei, b2, a2, dl, esub, en, hN, impl_isAccount, q1]
    cases q4 : cmdOk ⟨2, atI ns 0, atI ns 1, 0, 0⟩
    ·rw [hno (.inr (.inr (.inr q4)))]
     refine ⟨6, ?_⟩
     simp (disch := first|assumption|omega) only [S0,rA,rQ,rB,rT,rE, esp, S_mk, S_row, ei, b2, a2, dl, esub, en, hN, impl_isAccount, q1, q2, eg, q4]
    ·rw [hyes q4]
     refine ⟨0, ?_⟩
     simp (disch := first|assumption|omega) only [S0,rA,rQ,rB,rT,rE, esp, S_mk, S_row, ei, b2, a2, dl, esub, en, hN, impl_isAccount, q1, q2, eg, q4]
  ·have dl : ((ws.length : Int) == 3) = false := by simpa using hl
   rw [cmdWs_no (.inr (.inl (by rw [k]; exact hl)))]
   refine ⟨2, ?_⟩
   simp (disch := first|assumption|omega) only [S0,rA,rQ,rB,rT,rE, esp, S_mk, S_row, ei, b2, a2, dl]
 ·rw [k] at ei
  rw [cmdWs_no (.inl (by rw [k]; decide))]
  refine ⟨1, ?_⟩
  have d1 : decide ((-1 : Int) < 0) = true := rfl
  simp (disch := first|assumption|omega) only [S0,rA,rQ,rB,rT,rE, esp, S_mk, S_row, ei, d1]
theorem spec_ReadCmd (s : List UInt8) (hs : s.length <= 1000000000) : ∃ code : Int, Fun T 34 [.str s] = some [i64 (cmdB s).1.kind, i64 (cmdB s).1.id, i64 (cmdB s).1.src, i64 (cmdB s).1.dst, i64 (cmdB s).1.amt, i64 code, .bool (cmdB s).2] := by
 rw [Fun_k (t := tm34) rfl]; unfold tm34
 have hsm : ∀ w ∈ splitB 32 s, w.length <= 1000000000 := fun w hw => by have := (splitB_mem hw).2; omega
 have hne := splitB_ne 32 s
 have esp : Fun T 32 [.str s, .int .u8 32] = some [rL (splitB 32 s)] := spec_l1Split s 32 hs
 unfold cmdB
 generalize splitB 32 s = ws at *
 have hl0 : 0 < ws.length := List.length_pos_iff.2 hne
 have hb0 : InB ws 0 := by unfold InB; omega
 have hdr : ∀ w ∈ ws.drop 1, w.length <= 1000000000 := fun w hw => hsm w (List.mem_of_mem_drop hw)
 have hdl := drop1_len (ws := ws)
 have esub := sub_tail (ws := ws) (by omega)
 rcases kindB_cases (atI ws 0) with k | k | k | k
 ·have q1 : (atI ws 0 == [109, 111, 118, 101]) = false := by rw [kindB_nil k]; rfl
  have q2 : (atI ws 0 == [114, 101, 97, 100]) = false := by rw [kindB_nil k]; rfl
  have q3 : (atI ws 0 == [45]) = true := by rw [kindB_nil k]; rfl
  by_cases hl : (ws.length : Int) = 1
  ·have dl : ((ws.length : Int) == 1) = true := by simpa using hl
   have emk : (Prim.make 8 [(.int .i64 0)]).run [i64 4] = some [rL (fillN (ws.drop 1) 0)] := by
    have := S_make.1 (n := 4) (by omega) (by omega)
    rw [this]
    rfl
   have hno := cmdWs_no (ws := ws)
   have hyes := cmdWs_yes (ws := ws) k (by decide) hl
   rw [k] at hno
   generalize hxs : ws.drop 1 = xs at *
   have hx4 : xs.length = 0 := by omega
   cases hA0 : allNum 4 xs
   ·rw [hno (.inr (.inr (.inl hA0)))]
    refine ⟨3, ?_⟩
    simp (disch := first|assumption|omega) only [S0,rA,rQ,rB,rT,rE, esp, S_row, t_eq, q1, q2, q3, dl, emk, esub]
    rw [whileE (if allNum 4 xs then (.yield 2, [rL (fillN xs xs.length)]) else (.ret, [i64 0, i64 0, i64 0, i64 0, i64 0, i64 3, .bool false])) (fun i : Nat => xs.length - i) (fun i : Nat => i <= xs.length /\ allNum 4 (xs.take i) = true) (fun i => [rL (fillN xs i), i64 i]) 0 rfl (by simp [allNum]) (by split <;> simp)]
    rotate_left
    ·rintro i ⟨hi, hA⟩
     by_cases hlt : i < xs.length
     ·have d : decide ((i : Int) < (xs.length : Int)) = true := by simpa using hlt
      have hb : InB xs (i : Int) := InB_nat.2 hlt
      have e := spec_l1Read (atI xs (i : Int)) (hdr _ (at_mem hlt))
      have l1 := fillN_len (ws := xs) (i := i) (by omega) (by omega)
      have l2 := fillN_len (ws := xs) (i := i + 1) (by omega) (by omega)
      have hb1 : InB (fillN xs i) (i : Int) := by unfold InB; omega
      have hb2 : InB (fillN xs (i + 1)) (i : Int) := by unfold InB; omega
      have ef := fillN_set hlt (by omega)
      have ea : atI (fillN xs (i + 1)) (i : Int) = digM (atI xs (i : Int)) 6 := by rw [<- ef]; exact S_upd.1 hb1
      by_cases h4 : 4 < ((atI xs (i : Int)).length : Int)
      ·have d4 : decide (4 < ((atI xs (i : Int)).length : Int)) = true := by simpa using h4
       right
       rw [allNum_bad hlt (digM_long h4)]
       simp only [Bool.false_eq_true, if_false]
       simp (disch := first|assumption|omega) only [S0,rA,rQ,rB,rT,rE, d, S_row, e, S_set, ef, ea, t_slen, d4]
      ·have d4 : decide (4 < ((atI xs (i : Int)).length : Int)) = false := by simpa using h4
       have e4 := digM_short (s := atI xs (i : Int)) (by omega)
       rcases (show digM (atI xs (i : Int)) 6 < 0 \/ 0 <= digM (atI xs (i : Int)) 6 by omega) with h0 | h0
       ·have d0 : decide (digM (atI xs (i : Int)) 6 < 0) = true := by simpa using h0
        right
        rw [allNum_bad hlt (by rw [e4]; exact h0)]
        simp only [Bool.false_eq_true, if_false]
        simp (disch := first|assumption|omega) only [S0,rA,rQ,rB,rT,rE, d, S_row, e, S_set, ef, ea, t_slen, d4, d0]
       ·have d0 : decide (digM (atI xs (i : Int)) 6 < 0) = false := by simp; omega
        refine .inl ⟨i + 1, ?_, ⟨by omega, by rw [allNum_succ hlt, hA, e4, decide_eq_true h0]; rfl⟩, by omega⟩
        simp (disch := first|assumption|omega) only [S0,rA,rQ,rB,rT,rE, d, S_row, e, S_set, ef, ea, t_slen, d4, d0]
     ·have d : decide ((i : Int) < (xs.length : Int)) = false := by simpa using hlt
      obtain rfl : i = xs.length := by omega
      rw [List.take_of_length_le (Nat.le_refl _)] at hA
      right
      rw [hA]
      simp only [if_true]
      simp (disch := first|assumption|omega) only [S0,rA,rQ,rB,rT,rE, d]
    ·rw [hA0]
     simp only [Bool.false_eq_true, if_false]
     simp (disch := first|assumption|omega) only [S0,rA,rQ,rB,rT,rE]
   ·have hd : xs = [] := List.eq_nil_of_length_eq_zero hx4
    have ec : cmdN 0 (numsOf 4 xs) = ⟨0, 0, 0, 0, 0⟩ := rfl
    rw [ec] at hyes
    rw [hyes hA0 rfl]
    refine ⟨0, ?_⟩
    simp (disch := first|assumption|omega) only [S0,rA,rQ,rB,rT,rE, esp, S_row, t_eq, q1, q2, q3, dl, emk, esub]
    rw [whileE (if allNum 4 xs then (.yield 2, [rL (fillN xs xs.length)]) else (.ret, [i64 0, i64 0, i64 0, i64 0, i64 0, i64 3, .bool false])) (fun i : Nat => xs.length - i) (fun i : Nat => i <= xs.length /\ allNum 4 (xs.take i) = true) (fun i => [rL (fillN xs i), i64 i]) 0 rfl (by simp [allNum]) (by split <;> simp)]
    rotate_left
    ·rintro i ⟨hi, hA⟩
     by_cases hlt : i < xs.length
     ·have d : decide ((i : Int) < (xs.length : Int)) = true := by simpa using hlt
      have hb : InB xs (i : Int) := InB_nat.2 hlt
      have e := spec_l1Read (atI xs (i : Int)) (hdr _ (at_mem hlt))
      have l1 := fillN_len (ws := xs) (i := i) (by omega) (by omega)
      have l2 := fillN_len (ws := xs) (i := i + 1) (by omega) (by omega)
      have hb1 : InB (fillN xs i) (i : Int) := by unfold InB; omega
      have hb2 : InB (fillN xs (i + 1)) (i : Int) := by unfold InB; omega
      have ef := fillN_set hlt (by omega)
      have ea : atI (fillN xs (i + 1)) (i : Int) = digM (atI xs (i : Int)) 6 := by rw [<- ef]; exact S_upd.1 hb1
      by_cases h4 : 4 < ((atI xs (i : Int)).length : Int)
      ·have d4 : decide (4 < ((atI xs (i : Int)).length : Int)) = true := by simpa using h4
       right
       rw [allNum_bad hlt (digM_long h4)]
       simp only [Bool.false_eq_true, if_false]
       simp (disch := first|assumption|omega) only [S0,rA,rQ,rB,rT,rE, d, S_row, e, S_set, ef, ea, t_slen, d4]
      ·have d4 : decide (4 < ((atI xs (i : Int)).length : Int)) = false := by simpa using h4
       have e4 := digM_short (s := atI xs (i : Int)) (by omega)
       rcases (show digM (atI xs (i : Int)) 6 < 0 \/ 0 <= digM (atI xs (i : Int)) 6 by omega) with h0 | h0
       ·have d0 : decide (digM (atI xs (i : Int)) 6 < 0) = true := by simpa using h0
        right
        rw [allNum_bad hlt (by rw [e4]; exact h0)]
        simp only [Bool.false_eq_true, if_false]
        simp (disch := first|assumption|omega) only [S0,rA,rQ,rB,rT,rE, d, S_row, e, S_set, ef, ea, t_slen, d4, d0]
       ·have d0 : decide (digM (atI xs (i : Int)) 6 < 0) = false := by simp; omega
        refine .inl ⟨i + 1, ?_, ⟨by omega, by rw [allNum_succ hlt, hA, e4, decide_eq_true h0]; rfl⟩, by omega⟩
        simp (disch := first|assumption|omega) only [S0,rA,rQ,rB,rT,rE, d, S_row, e, S_set, ef, ea, t_slen, d4, d0]
     ·have d : decide ((i : Int) < (xs.length : Int)) = false := by simpa using hlt
      obtain rfl : i = xs.length := by omega
      rw [List.take_of_length_le (Nat.le_refl _)] at hA
      right
      rw [hA]
      simp only [if_true]
      simp (disch := first|assumption|omega) only [S0,rA,rQ,rB,rT,rE, d]
    ·rw [hA0]
     simp only [if_true]
     have ez : fillN xs xs.length = [0, 0, 0, 0] := by rw [hd]; rfl
     have z0 : InB ([0, 0, 0, 0] : List Int) 0 := by unfold InB; decide
     have z1 : InB ([0, 0, 0, 0] : List Int) 1 := by unfold InB; decide
     have z2 : InB ([0, 0, 0, 0] : List Int) 2 := by unfold InB; decide
     have z3 : InB ([0, 0, 0, 0] : List Int) 3 := by unfold InB; decide
     have y0 : atI ([0, 0, 0, 0] : List Int) 0 = 0 := rfl
     have y1 : atI ([0, 0, 0, 0] : List Int) 1 = 0 := rfl
     have y2 : atI ([0, 0, 0, 0] : List Int) 2 = 0 := rfl
     have y3 : atI ([0, 0, 0, 0] : List Int) 3 = 0 := rfl
     rw [ez]
     simp (disch := first|assumption|omega) only [S0,rA,rQ,rB,rT,rE, S_row, y0, y1, y2, y3]
  ·have dl : ((ws.length : Int) == 1) = false := by simpa using hl
   rw [cmdWs_no (.inr (.inl (by rw [k]; exact hl)))]
   refine ⟨2, ?_⟩
   simp (disch := first|assumption|omega) only [S0,rA,rQ,rB,rT,rE, esp, S_row, t_eq, q1, q2, q3, dl]
 ·have q1 : (atI ws 0 == [109, 111, 118, 101]) = true := by rw [kindB_one k]; rfl
  by_cases hl : (ws.length : Int) = 5
  ·have dl : ((ws.length : Int) == 5) = true := by simpa using hl
   have emk : (Prim.make 8 [(.int .i64 0)]).run [i64 4] = some [rL (fillN (ws.drop 1) 0)] := by
    have := S_make.1 (n := 4) (by omega) (by omega)
    rw [this]
    rfl
   have hno := cmdWs_no (ws := ws)
   have hyes := cmdWs_yes (ws := ws) k (by decide) hl
   rw [k] at hno
   generalize hxs : ws.drop 1 = xs at *
   have hx4 : xs.length = 4 := by omega
   cases hA0 : allNum 4 xs
   ·rw [hno (.inr (.inr (.inl hA0)))]
    refine ⟨3, ?_⟩
    simp (disch := first|assumption|omega) only [S0,rA,rQ,rB,rT,rE, esp, S_row, t_eq, q1, dl, emk, esub]
    rw [whileE (if allNum 4 xs then (.yield 2, [rL (fillN xs xs.length)]) else (.ret, [i64 0, i64 0, i64 0, i64 0, i64 0, i64 3, .bool false])) (fun i : Nat => xs.length - i) (fun i : Nat => i <= xs.length /\ allNum 4 (xs.take i) = true) (fun i => [rL (fillN xs i), i64 i]) 0 rfl (by simp [allNum]) (by split <;> simp)]
    rotate_left
    ·rintro i ⟨hi, hA⟩
     by_cases hlt : i < xs.length
     ·have d : decide ((i : Int) < (xs.length : Int)) = true := by simpa using hlt
      have hb : InB xs (i : Int) := InB_nat.2 hlt
      have e := spec_l1Read (atI xs (i : Int)) (hdr _ (at_mem hlt))
      have l1 := fillN_len (ws := xs) (i := i) (by omega) (by omega)
      have l2 := fillN_len (ws := xs) (i := i + 1) (by omega) (by omega)
      have hb1 : InB (fillN xs i) (i : Int) := by unfold InB; omega
      have hb2 : InB (fillN xs (i + 1)) (i : Int) := by unfold InB; omega
      have ef := fillN_set hlt (by omega)
      have ea : atI (fillN xs (i + 1)) (i : Int) = digM (atI xs (i : Int)) 6 := by rw [<- ef]; exact S_upd.1 hb1
      by_cases h4 : 4 < ((atI xs (i : Int)).length : Int)
      ·have d4 : decide (4 < ((atI xs (i : Int)).length : Int)) = true := by simpa using h4
       right
       rw [allNum_bad hlt (digM_long h4)]
       simp only [Bool.false_eq_true, if_false]
       simp (disch := first|assumption|omega) only [S0,rA,rQ,rB,rT,rE, d, S_row, e, S_set, ef, ea, t_slen, d4]
      ·have d4 : decide (4 < ((atI xs (i : Int)).length : Int)) = false := by simpa using h4
       have e4 := digM_short (s := atI xs (i : Int)) (by omega)
       rcases (show digM (atI xs (i : Int)) 6 < 0 \/ 0 <= digM (atI xs (i : Int)) 6 by omega) with h0 | h0
       ·have d0 : decide (digM (atI xs (i : Int)) 6 < 0) = true := by simpa using h0
        right
        rw [allNum_bad hlt (by rw [e4]; exact h0)]
        simp only [Bool.false_eq_true, if_false]
        simp (disch := first|assumption|omega) only [S0,rA,rQ,rB,rT,rE, d, S_row, e, S_set, ef, ea, t_slen, d4, d0]
       ·have d0 : decide (digM (atI xs (i : Int)) 6 < 0) = false := by simp; omega
        refine .inl ⟨i + 1, ?_, ⟨by omega, by rw [allNum_succ hlt, hA, e4, decide_eq_true h0]; rfl⟩, by omega⟩
        simp (disch := first|assumption|omega) only [S0,rA,rQ,rB,rT,rE, d, S_row, e, S_set, ef, ea, t_slen, d4, d0]
     ·have d : decide ((i : Int) < (xs.length : Int)) = false := by simpa using hlt
      obtain rfl : i = xs.length := by omega
      rw [List.take_of_length_le (Nat.le_refl _)] at hA
      right
      rw [hA]
      simp only [if_true]
      simp (disch := first|assumption|omega) only [S0,rA,rQ,rB,rT,rE, d]
    ·rw [hA0]
     simp only [Bool.false_eq_true, if_false]
     simp (disch := first|assumption|omega) only [S0,rA,rQ,rB,rT,rE]
   ·have hnl : (numsOf 4 xs).length = 4 := by rw [numsOf_len]; omega
    have hyes := hyes hA0
    have ecn : cmdN 1 (numsOf 4 xs) = ⟨1, atI (numsOf 4 xs) 0, atI (numsOf 4 xs) 1, atI (numsOf 4 xs) 2, atI (numsOf 4 xs) 3⟩ := rfl
    rw [ecn] at hno hyes
    have eg := spec_l2Code 1 (atI (numsOf 4 xs) 0) (atI (numsOf 4 xs) 1) (atI (numsOf 4 xs) 2) (atI (numsOf 4 xs) 3)
    have ek := @cmdCode_one (atI (numsOf 4 xs) 0) (atI (numsOf 4 xs) 1) (atI (numsOf 4 xs) 2) (atI (numsOf 4 xs) 3)
    cases q4 : cmdOk ⟨1, atI (numsOf 4 xs) 0, atI (numsOf 4 xs) 1, atI (numsOf 4 xs) 2, atI (numsOf 4 xs) 3⟩
    ·rw [hno (.inr (.inr (.inr q4)))]
     rw [q4] at ek
     refine ⟨cmdCode ⟨1, atI (numsOf 4 xs) 0, atI (numsOf 4 xs) 1, atI (numsOf 4 xs) 2, atI (numsOf 4 xs) 3⟩, ?_⟩
     simp (disch := first|assumption|omega) only [S0,rA,rQ,rB,rT,rE, esp, S_row, t_eq, q1, dl, emk, esub]
     rw [whileE (if allNum 4 xs then (.yield 2, [rL (fillN xs xs.length)]) else (.ret, [i64 0, i64 0, i64 0, i64 0, i64 0, i64 3, .bool false])) (fun i : Nat => xs.length - i) (fun i : Nat => i <= xs.length /\ allNum 4 (xs.take i) = true) (fun i => [rL (fillN xs i), i64 i]) 0 rfl (by simp [allNum]) (by split <;> simp)]
     rotate_left
     ·rintro i ⟨hi, hA⟩
      by_cases hlt : i < xs.length
      ·have d : decide ((i : Int) < (xs.length : Int)) = true := by simpa using hlt
       have hb : InB xs (i : Int) := InB_nat.2 hlt
       have e := spec_l1Read (atI xs (i : Int)) (hdr _ (at_mem hlt))
       have l1 := fillN_len (ws := xs) (i := i) (by omega) (by omega)
       have l2 := fillN_len (ws := xs) (i := i + 1) (by omega) (by omega)
       have hb1 : InB (fillN xs i) (i : Int) := by unfold InB; omega
       have hb2 : InB (fillN xs (i + 1)) (i : Int) := by unfold InB; omega
       have ef := fillN_set hlt (by omega)
       have ea : atI (fillN xs (i + 1)) (i : Int) = digM (atI xs (i : Int)) 6 := by rw [<- ef]; exact S_upd.1 hb1
       by_cases h4 : 4 < ((atI xs (i : Int)).length : Int)
       ·have d4 : decide (4 < ((atI xs (i : Int)).length : Int)) = true := by simpa using h4
        right
        rw [allNum_bad hlt (digM_long h4)]
        simp only [Bool.false_eq_true, if_false]
        simp (disch := first|assumption|omega) only [S0,rA,rQ,rB,rT,rE, d, S_row, e, S_set, ef, ea, t_slen, d4]
       ·have d4 : decide (4 < ((atI xs (i : Int)).length : Int)) = false := by simpa using h4
        have e4 := digM_short (s := atI xs (i : Int)) (by omega)
        rcases (show digM (atI xs (i : Int)) 6 < 0 \/ 0 <= digM (atI xs (i : Int)) 6 by omega) with h0 | h0
        ·have d0 : decide (digM (atI xs (i : Int)) 6 < 0) = true := by simpa using h0
         right
         rw [allNum_bad hlt (by rw [e4]; exact h0)]
         simp only [Bool.false_eq_true, if_false]
         simp (disch := first|assumption|omega) only [S0,rA,rQ,rB,rT,rE, d, S_row, e, S_set, ef, ea, t_slen, d4, d0]
        ·have d0 : decide (digM (atI xs (i : Int)) 6 < 0) = false := by simp; omega
         refine .inl ⟨i + 1, ?_, ⟨by omega, by rw [allNum_succ hlt, hA, e4, decide_eq_true h0]; rfl⟩, by omega⟩
         simp (disch := first|assumption|omega) only [S0,rA,rQ,rB,rT,rE, d, S_row, e, S_set, ef, ea, t_slen, d4, d0]
      ·have d : decide ((i : Int) < (xs.length : Int)) = false := by simpa using hlt
       obtain rfl : i = xs.length := by omega
       rw [List.take_of_length_le (Nat.le_refl _)] at hA
       right
       rw [hA]
       simp only [if_true]
       simp (disch := first|assumption|omega) only [S0,rA,rQ,rB,rT,rE, d]
     rw [hA0]
     simp only [if_true]
     have efl : fillN xs xs.length = numsOf 4 xs := by
      unfold fillN
      rw [List.take_of_length_le (Nat.le_refl _), numsOf_up hA0 (by decide), hx4]
      exact List.append_nil _
     rw [efl]
     generalize numsOf 4 xs = ns at *
     have c0 : InB ns 0 := by unfold InB; omega
     have c1 : InB ns 1 := by unfold InB; omega
     have c2 : InB ns 2 := by unfold InB; omega
     have c3 : InB ns 3 := by unfold InB; omega
     simp (disch := first|assumption|omega) only [S0,rA,rQ,rB,rT,rE, S_row, eg, ek]
    ·rw [hyes q4]
     rw [q4] at ek
     refine ⟨0, ?_⟩
     simp (disch := first|assumption|omega) only [S0,rA,rQ,rB,rT,rE, esp, S_row, t_eq, q1, dl, emk, esub]
     rw [whileE (if allNum 4 xs then (.yield 2, [rL (fillN xs xs.length)]) else (.ret, [i64 0, i64 0, i64 0, i64 0, i64 0, i64 3, .bool false])) (fun i : Nat => xs.length - i) (fun i : Nat => i <= xs.length /\ allNum 4 (xs.take i) = true) (fun i => [rL (fillN xs i), i64 i]) 0 rfl (by simp [allNum]) (by split <;> simp)]
     rotate_left
     ·rintro i ⟨hi, hA⟩
      by_cases hlt : i < xs.length
      ·have d : decide ((i : Int) < (xs.length : Int)) = true := by simpa using hlt
       have hb : InB xs (i : Int) := InB_nat.2 hlt
       have e := spec_l1Read (atI xs (i : Int)) (hdr _ (at_mem hlt))
       have l1 := fillN_len (ws := xs) (i := i) (by omega) (by omega)
       have l2 := fillN_len (ws := xs) (i := i + 1) (by omega) (by omega)
       have hb1 : InB (fillN xs i) (i : Int) := by unfold InB; omega
       have hb2 : InB (fillN xs (i + 1)) (i : Int) := by unfold InB; omega
       have ef := fillN_set hlt (by omega)
       have ea : atI (fillN xs (i + 1)) (i : Int) = digM (atI xs (i : Int)) 6 := by rw [<- ef]; exact S_upd.1 hb1
       by_cases h4 : 4 < ((atI xs (i : Int)).length : Int)
       ·have d4 : decide (4 < ((atI xs (i : Int)).length : Int)) = true := by simpa using h4
        right
        rw [allNum_bad hlt (digM_long h4)]
        simp only [Bool.false_eq_true, if_false]
        simp (disch := first|assumption|omega) only [S0,rA,rQ,rB,rT,rE, d, S_row, e, S_set, ef, ea, t_slen, d4]
       ·have d4 : decide (4 < ((atI xs (i : Int)).length : Int)) = false := by simpa using h4
        have e4 := digM_short (s := atI xs (i : Int)) (by omega)
        rcases (show digM (atI xs (i : Int)) 6 < 0 \/ 0 <= digM (atI xs (i : Int)) 6 by omega) with h0 | h0
        ·have d0 : decide (digM (atI xs (i : Int)) 6 < 0) = true := by simpa using h0
         right
         rw [allNum_bad hlt (by rw [e4]; exact h0)]
         simp only [Bool.false_eq_true, if_false]
         simp (disch := first|assumption|omega) only [S0,rA,rQ,rB,rT,rE, d, S_row, e, S_set, ef, ea, t_slen, d4, d0]
        ·have d0 : decide (digM (atI xs (i : Int)) 6 < 0) = false := by simp; omega
         refine .inl ⟨i + 1, ?_, ⟨by omega, by rw [allNum_succ hlt, hA, e4, decide_eq_true h0]; rfl⟩, by omega⟩
         simp (disch := first|assumption|omega) only [S0,rA,rQ,rB,rT,rE, d, S_row, e, S_set, ef, ea, t_slen, d4, d0]
      ·have d : decide ((i : Int) < (xs.length : Int)) = false := by simpa using hlt
       obtain rfl : i = xs.length := by omega
       rw [List.take_of_length_le (Nat.le_refl _)] at hA
       right
       rw [hA]
       simp only [if_true]
       simp (disch := first|assumption|omega) only [S0,rA,rQ,rB,rT,rE, d]
     rw [hA0]
     simp only [if_true]
     have efl : fillN xs xs.length = numsOf 4 xs := by
      unfold fillN
      rw [List.take_of_length_le (Nat.le_refl _), numsOf_up hA0 (by decide), hx4]
      exact List.append_nil _
     rw [efl]
     generalize numsOf 4 xs = ns at *
     have c0 : InB ns 0 := by unfold InB; omega
     have c1 : InB ns 1 := by unfold InB; omega
     have c2 : InB ns 2 := by unfold InB; omega
     have c3 : InB ns 3 := by unfold InB; omega
     simp (disch := first|assumption|omega) only [S0,rA,rQ,rB,rT,rE, S_row, eg, ek]
  ·have dl : ((ws.length : Int) == 5) = false := by simpa using hl
   rw [cmdWs_no (.inr (.inl (by rw [k]; exact hl)))]
   refine ⟨2, ?_⟩
   simp (disch := first|assumption|omega) only [S0,rA,rQ,rB,rT,rE, esp, S_row, t_eq, q1, dl]
 ·have q1 : (atI ws 0 == [109, 111, 118, 101]) = false := by rw [kindB_two k]; rfl
  have q2 : (atI ws 0 == [114, 101, 97, 100]) = true := by rw [kindB_two k]; rfl
  by_cases hl : (ws.length : Int) = 3
  ·have dl : ((ws.length : Int) == 3) = true := by simpa using hl
   have emk : (Prim.make 8 [(.int .i64 0)]).run [i64 4] = some [rL (fillN (ws.drop 1) 0)] := by
    have := S_make.1 (n := 4) (by omega) (by omega)
    rw [this]
    rfl
   have hno := cmdWs_no (ws := ws)
   have hyes := cmdWs_yes (ws := ws) k (by decide) hl
   rw [k] at hno
   generalize hxs : ws.drop 1 = xs at *
   have hx4 : xs.length = 2 := by omega
   cases hA0 : allNum 4 xs
   ·rw [hno (.inr (.inr (.inl hA0)))]
    refine ⟨3, ?_⟩
    simp (disch := first|assumption|omega) only [S0,rA,rQ,rB,rT,rE, esp, S_row, t_eq, q1, q2, dl, emk, esub]
    rw [whileE (if allNum 4 xs then (.yield 2, [rL (fillN xs xs.length)]) else (.ret, [i64 0, i64 0, i64 0, i64 0, i64 0, i64 3, .bool false])) (fun i : Nat => xs.length - i) (fun i : Nat => i <= xs.length /\ allNum 4 (xs.take i) = true) (fun i => [rL (fillN xs i), i64 i]) 0 rfl (by simp [allNum]) (by split <;> simp)]
    rotate_left
    ·rintro i ⟨hi, hA⟩
     by_cases hlt : i < xs.length
     ·have d : decide ((i : Int) < (xs.length : Int)) = true := by simpa using hlt
      have hb : InB xs (i : Int) := InB_nat.2 hlt
      have e := spec_l1Read (atI xs (i : Int)) (hdr _ (at_mem hlt))
      have l1 := fillN_len (ws := xs) (i := i) (by omega) (by omega)
      have l2 := fillN_len (ws := xs) (i := i + 1) (by omega) (by omega)
      have hb1 : InB (fillN xs i) (i : Int) := by unfold InB; omega
      have hb2 : InB (fillN xs (i + 1)) (i : Int) := by unfold InB; omega
      have ef := fillN_set hlt (by omega)
      have ea : atI (fillN xs (i + 1)) (i : Int) = digM (atI xs (i : Int)) 6 := by rw [<- ef]; exact S_upd.1 hb1
      by_cases h4 : 4 < ((atI xs (i : Int)).length : Int)
      ·have d4 : decide (4 < ((atI xs (i : Int)).length : Int)) = true := by simpa using h4
       right
       rw [allNum_bad hlt (digM_long h4)]
       simp only [Bool.false_eq_true, if_false]
       simp (disch := first|assumption|omega) only [S0,rA,rQ,rB,rT,rE, d, S_row, e, S_set, ef, ea, t_slen, d4]
      ·have d4 : decide (4 < ((atI xs (i : Int)).length : Int)) = false := by simpa using h4
       have e4 := digM_short (s := atI xs (i : Int)) (by omega)
       rcases (show digM (atI xs (i : Int)) 6 < 0 \/ 0 <= digM (atI xs (i : Int)) 6 by omega) with h0 | h0
       ·have d0 : decide (digM (atI xs (i : Int)) 6 < 0) = true := by simpa using h0
        right
        rw [allNum_bad hlt (by rw [e4]; exact h0)]
        simp only [Bool.false_eq_true, if_false]
        simp (disch := first|assumption|omega) only [S0,rA,rQ,rB,rT,rE, d, S_row, e, S_set, ef, ea, t_slen, d4, d0]
       ·have d0 : decide (digM (atI xs (i : Int)) 6 < 0) = false := by simp; omega
        refine .inl ⟨i + 1, ?_, ⟨by omega, by rw [allNum_succ hlt, hA, e4, decide_eq_true h0]; rfl⟩, by omega⟩
        simp (disch := first|assumption|omega) only [S0,rA,rQ,rB,rT,rE, d, S_row, e, S_set, ef, ea, t_slen, d4, d0]
     ·have d : decide ((i : Int) < (xs.length : Int)) = false := by simpa using hlt
      obtain rfl : i = xs.length := by omega
      rw [List.take_of_length_le (Nat.le_refl _)] at hA
      right
      rw [hA]
      simp only [if_true]
      simp (disch := first|assumption|omega) only [S0,rA,rQ,rB,rT,rE, d]
    ·rw [hA0]
     simp only [Bool.false_eq_true, if_false]
     simp (disch := first|assumption|omega) only [S0,rA,rQ,rB,rT,rE]
   ·have hnl : (numsOf 4 xs).length = 2 := by rw [numsOf_len]; omega
    have hyes := hyes hA0
    have ecn : cmdN 2 (numsOf 4 xs) = ⟨2, atI (numsOf 4 xs) 0, atI (numsOf 4 xs) 1, 0, 0⟩ := rfl
    rw [ecn] at hno hyes
    have eg := spec_l2Code 2 (atI (numsOf 4 xs) 0) (atI (numsOf 4 xs) 1) (0) (0)
    have ek := @cmdCode_two (atI (numsOf 4 xs) 0) (atI (numsOf 4 xs) 1)
    cases q4 : cmdOk ⟨2, atI (numsOf 4 xs) 0, atI (numsOf 4 xs) 1, 0, 0⟩
    ·rw [hno (.inr (.inr (.inr q4)))]
     rw [q4] at ek
     refine ⟨cmdCode ⟨2, atI (numsOf 4 xs) 0, atI (numsOf 4 xs) 1, 0, 0⟩, ?_⟩
     simp (disch := first|assumption|omega) only [S0,rA,rQ,rB,rT,rE, esp, S_row, t_eq, q1, q2, dl, emk, esub]
     rw [whileE (if allNum 4 xs then (.yield 2, [rL (fillN xs xs.length)]) else (.ret, [i64 0, i64 0, i64 0, i64 0, i64 0, i64 3, .bool false])) (fun i : Nat => xs.length - i) (fun i : Nat => i <= xs.length /\ allNum 4 (xs.take i) = true) (fun i => [rL (fillN xs i), i64 i]) 0 rfl (by simp [allNum]) (by split <;> simp)]
     rotate_left
     ·rintro i ⟨hi, hA⟩
      by_cases hlt : i < xs.length
      ·have d : decide ((i : Int) < (xs.length : Int)) = true := by simpa using hlt
       have hb : InB xs (i : Int) := InB_nat.2 hlt
       have e := spec_l1Read (atI xs (i : Int)) (hdr _ (at_mem hlt))
       have l1 := fillN_len (ws := xs) (i := i) (by omega) (by omega)
       have l2 := fillN_len (ws := xs) (i := i + 1) (by omega) (by omega)
       have hb1 : InB (fillN xs i) (i : Int) := by unfold InB; omega
       have hb2 : InB (fillN xs (i + 1)) (i : Int) := by unfold InB; omega
       have ef := fillN_set hlt (by omega)
       have ea : atI (fillN xs (i + 1)) (i : Int) = digM (atI xs (i : Int)) 6 := by rw [<- ef]; exact S_upd.1 hb1
       by_cases h4 : 4 < ((atI xs (i : Int)).length : Int)
       ·have d4 : decide (4 < ((atI xs (i : Int)).length : Int)) = true := by simpa using h4
        right
        rw [allNum_bad hlt (digM_long h4)]
        simp only [Bool.false_eq_true, if_false]
        simp (disch := first|assumption|omega) only [S0,rA,rQ,rB,rT,rE, d, S_row, e, S_set, ef, ea, t_slen, d4]
       ·have d4 : decide (4 < ((atI xs (i : Int)).length : Int)) = false := by simpa using h4
        have e4 := digM_short (s := atI xs (i : Int)) (by omega)
        rcases (show digM (atI xs (i : Int)) 6 < 0 \/ 0 <= digM (atI xs (i : Int)) 6 by omega) with h0 | h0
        ·have d0 : decide (digM (atI xs (i : Int)) 6 < 0) = true := by simpa using h0
         right
         rw [allNum_bad hlt (by rw [e4]; exact h0)]
         simp only [Bool.false_eq_true, if_false]
         simp (disch := first|assumption|omega) only [S0,rA,rQ,rB,rT,rE, d, S_row, e, S_set, ef, ea, t_slen, d4, d0]
        ·have d0 : decide (digM (atI xs (i : Int)) 6 < 0) = false := by simp; omega
         refine .inl ⟨i + 1, ?_, ⟨by omega, by rw [allNum_succ hlt, hA, e4, decide_eq_true h0]; rfl⟩, by omega⟩
         simp (disch := first|assumption|omega) only [S0,rA,rQ,rB,rT,rE, d, S_row, e, S_set, ef, ea, t_slen, d4, d0]
      ·have d : decide ((i : Int) < (xs.length : Int)) = false := by simpa using hlt
       obtain rfl : i = xs.length := by omega
       rw [List.take_of_length_le (Nat.le_refl _)] at hA
       right
       rw [hA]
       simp only [if_true]
       simp (disch := first|assumption|omega) only [S0,rA,rQ,rB,rT,rE, d]
     rw [hA0]
     simp only [if_true]
     have efl : fillN xs xs.length = numsOf 4 xs ++ [0, 0] := by
      unfold fillN
      rw [List.take_of_length_le (Nat.le_refl _), numsOf_up hA0 (by decide), hx4]
      rfl
     rw [efl]
     generalize numsOf 4 xs = ns at *
     have g0 : InB (ns ++ [0, 0]) 0 := by unfold InB; simp; omega
     have g1 : InB (ns ++ [0, 0]) 1 := by unfold InB; simp; omega
     have g2 : InB (ns ++ [0, 0]) 2 := by unfold InB; simp; omega
     have g3 : InB (ns ++ [0, 0]) 3 := by unfold InB; simp; omega
     have y0 : atI (ns ++ [0, 0]) 0 = atI ns 0 := by obtain ⟨a, b, rfl⟩ := list2 hnl; rfl
     have y1 : atI (ns ++ [0, 0]) 1 = atI ns 1 := by obtain ⟨a, b, rfl⟩ := list2 hnl; rfl
     have y2 : atI (ns ++ [0, 0]) 2 = 0 := by obtain ⟨a, b, rfl⟩ := list2 hnl; rfl
     have y3 : atI (ns ++ [0, 0]) 3 = 0 := by obtain ⟨a, b, rfl⟩ := list2 hnl; rfl
     simp (disch := first|assumption|omega) only [S0,rA,rQ,rB,rT,rE, S_row, y0, y1, y2, y3, eg, ek]
    ·rw [hyes q4]
     rw [q4] at ek
     refine ⟨0, ?_⟩
     simp (disch := first|assumption|omega) only [S0,rA,rQ,rB,rT,rE, esp, S_row, t_eq, q1, q2, dl, emk, esub]
     rw [whileE (if allNum 4 xs then (.yield 2, [rL (fillN xs xs.length)]) else (.ret, [i64 0, i64 0, i64 0, i64 0, i64 0, i64 3, .bool false])) (fun i : Nat => xs.length - i) (fun i : Nat => i <= xs.length /\ allNum 4 (xs.take i) = true) (fun i => [rL (fillN xs i), i64 i]) 0 rfl (by simp [allNum]) (by split <;> simp)]
     rotate_left
     ·rintro i ⟨hi, hA⟩
      by_cases hlt : i < xs.length
      ·have d : decide ((i : Int) < (xs.length : Int)) = true := by simpa using hlt
       have hb : InB xs (i : Int) := InB_nat.2 hlt
       have e := spec_l1Read (atI xs (i : Int)) (hdr _ (at_mem hlt))
       have l1 := fillN_len (ws := xs) (i := i) (by omega) (by omega)
       have l2 := fillN_len (ws := xs) (i := i + 1) (by omega) (by omega)
       have hb1 : InB (fillN xs i) (i : Int) := by unfold InB; omega
       have hb2 : InB (fillN xs (i + 1)) (i : Int) := by unfold InB; omega
       have ef := fillN_set hlt (by omega)
       have ea : atI (fillN xs (i + 1)) (i : Int) = digM (atI xs (i : Int)) 6 := by rw [<- ef]; exact S_upd.1 hb1
       by_cases h4 : 4 < ((atI xs (i : Int)).length : Int)
       ·have d4 : decide (4 < ((atI xs (i : Int)).length : Int)) = true := by simpa using h4
        right
        rw [allNum_bad hlt (digM_long h4)]
        simp only [Bool.false_eq_true, if_false]
        simp (disch := first|assumption|omega) only [S0,rA,rQ,rB,rT,rE, d, S_row, e, S_set, ef, ea, t_slen, d4]
       ·have d4 : decide (4 < ((atI xs (i : Int)).length : Int)) = false := by simpa using h4
        have e4 := digM_short (s := atI xs (i : Int)) (by omega)
        rcases (show digM (atI xs (i : Int)) 6 < 0 \/ 0 <= digM (atI xs (i : Int)) 6 by omega) with h0 | h0
        ·have d0 : decide (digM (atI xs (i : Int)) 6 < 0) = true := by simpa using h0
         right
         rw [allNum_bad hlt (by rw [e4]; exact h0)]
         simp only [Bool.false_eq_true, if_false]
         simp (disch := first|assumption|omega) only [S0,rA,rQ,rB,rT,rE, d, S_row, e, S_set, ef, ea, t_slen, d4, d0]
        ·have d0 : decide (digM (atI xs (i : Int)) 6 < 0) = false := by simp; omega
         refine .inl ⟨i + 1, ?_, ⟨by omega, by rw [allNum_succ hlt, hA, e4, decide_eq_true h0]; rfl⟩, by omega⟩
         simp (disch := first|assumption|omega) only [S0,rA,rQ,rB,rT,rE, d, S_row, e, S_set, ef, ea, t_slen, d4, d0]
      ·have d : decide ((i : Int) < (xs.length : Int)) = false := by simpa using hlt
       obtain rfl : i = xs.length := by omega
       rw [List.take_of_length_le (Nat.le_refl _)] at hA
       right
       rw [hA]
       simp only [if_true]
       simp (disch := first|assumption|omega) only [S0,rA,rQ,rB,rT,rE, d]
     rw [hA0]
     simp only [if_true]
     have efl : fillN xs xs.length = numsOf 4 xs ++ [0, 0] := by
      unfold fillN
      rw [List.take_of_length_le (Nat.le_refl _), numsOf_up hA0 (by decide), hx4]
      rfl
     rw [efl]
     generalize numsOf 4 xs = ns at *
     have g0 : InB (ns ++ [0, 0]) 0 := by unfold InB; simp; omega
     have g1 : InB (ns ++ [0, 0]) 1 := by unfold InB; simp; omega
     have g2 : InB (ns ++ [0, 0]) 2 := by unfold InB; simp; omega
     have g3 : InB (ns ++ [0, 0]) 3 := by unfold InB; simp; omega
     have y0 : atI (ns ++ [0, 0]) 0 = atI ns 0 := by obtain ⟨a, b, rfl⟩ := list2 hnl; rfl
     have y1 : atI (ns ++ [0, 0]) 1 = atI ns 1 := by obtain ⟨a, b, rfl⟩ := list2 hnl; rfl
     have y2 : atI (ns ++ [0, 0]) 2 = 0 := by obtain ⟨a, b, rfl⟩ := list2 hnl; rfl
     have y3 : atI (ns ++ [0, 0]) 3 = 0 := by obtain ⟨a, b, rfl⟩ := list2 hnl; rfl
     simp (disch := first|assumption|omega) only [S0,rA,rQ,rB,rT,rE, S_row, y0, y1, y2, y3, eg, ek]
  ·have dl : ((ws.length : Int) == 3) = false := by simpa using hl
   rw [cmdWs_no (.inr (.inl (by rw [k]; exact hl)))]
   refine ⟨2, ?_⟩
   simp (disch := first|assumption|omega) only [S0,rA,rQ,rB,rT,rE, esp, S_row, t_eq, q1, q2, dl]
 ·obtain ⟨q3, q1, q2⟩ := kindB_neg k
  rw [cmdWs_no (.inl (by rw [k]; decide))]
  refine ⟨1, ?_⟩
  simp (disch := first|assumption|omega) only [S0,rA,rQ,rB,rT,rE, esp, S_row, t_eq, q1, q2, q3]
theorem lite_Cut_no (s : List UInt8) (b : UInt8) (h : b ∉ s) : Fun T 97 [.str s, .str [b]] = some [.str s, .str [], .bool false] := by
 rw [Fun_k (t := tm97) rfl]; unfold tm97
 have e := lite_Index s b
 rw [ix_none h] at e
 have d : decide ((0 : Int) <= -1) = false := rfl
 simp (disch := first|assumption|omega) only [S0,rA,rQ,rB,rT,rE, e, d]
theorem lite_Cut_at (p t : List UInt8) (b : UInt8) (h : b ∉ p) (hpl : p.length <= 1000000000) : Fun T 97 [.str (p ++ b :: t), .str [b]] = some [.str p, .str t, .bool true] := by
 rw [Fun_k (t := tm97) rfl]; unfold tm97
 have e := lite_Index (p ++ b :: t) b
 rw [ix_app t h] at e
 have d : decide ((0 : Int) <= (p.length : Int)) = true := by simp
 have hl : (p ++ b :: t).length = p.length + t.length + 1 := by simp; omega
 have e1 : Prim.slen.run [.str [b]] = some [i64 1] := rfl
 generalize hs : p ++ b :: t = s at *
 have es1 := t_ssub (s := s) (lo := 0) (hi := (p.length : Int)) (by omega) (by omega) (by omega)
 have es2 := t_ssub (s := s) (lo := (p.length : Int) + 1) (hi := (s.length : Int)) (by omega) (by omega) (by omega)
 have et1 : (s.take (p.length : Int).toNat).drop (0 : Int).toNat = p := by
  rw [Int.toNat_natCast, <- hs]; simp
 have et2 : (s.take (s.length : Int).toNat).drop ((p.length : Int) + 1).toNat = t := by
  rw [Int.toNat_natCast, List.take_of_length_le (Nat.le_refl _), show ((p.length : Int) + 1).toNat = p.length + 1 by omega, <- hs]
  rw [List.drop_append]
  simp
 rw [et1] at es1
 rw [et2] at es2
 simp (disch := first|assumption|omega) only [S0,rA,rQ,rB,rT,rE, e, d, es1, e1, t_slen, es2]
theorem strings_Cut_no (s : List UInt8) (b : UInt8) (h : b ∉ s) : Fun T 96 [.str s, .str [b]] = some [.str s, .str [], .bool false] := by
 rw [Fun_k (t := tm96) rfl]; unfold tm96
 simp (disch := first|assumption|omega) only [S0,rA,rQ,rB,rT,rE, lite_Cut_no]
theorem strings_Cut_at (p t : List UInt8) (b : UInt8) (h : b ∉ p) (hpl : p.length <= 1000000000) : Fun T 96 [.str (p ++ b :: t), .str [b]] = some [.str p, .str t, .bool true] := by
 rw [Fun_k (t := tm96) rfl]; unfold tm96
 simp (disch := first|assumption|omega) only [S0,rA,rQ,rB,rT,rE, lite_Cut_at]
theorem impl_ReadAttr (n : Int) (s : List UInt8) (hs : s.length <= 1000000000) : Fun T 95 [i64 n, .str s] = some [i64 (attrB n s).1.seq, rL (attrB n s).1.deps, .bool (attrB n s).2] := by
 rw [Fun_k (t := tm95) rfl]; unfold tm95
 by_cases hm : (58 : UInt8) ∈ s
 ·obtain ⟨p, t, hst, hp, _⟩ := ix_some hm
  rw [attrB_cut hst hp]
  have hsl : s.length = p.length + t.length + 1 := by rw [hst]; simp; omega
  have ec := strings_Cut_at p t 58 hp (by omega)
  rw [<- hst] at ec
  have ed := impl_digits p 3 (by decide) (by decide) (by omega)
  have esp := strings_Split t 44 (by omega)
  have htm : ∀ w ∈ splitB 44 t, w.length <= 1000000000 := fun w hw => by have := (splitB_mem hw).2; omega
  have htl : (splitB 44 t).length <= 1000000001 := by
   rw [splitB_len]
   have : t.count 44 <= t.length := List.count_le_length
   omega
  have en := impl_numbers (splitB 44 t) 1 (by decide) (by decide) htm htl
  have eg := impl_GoodAttr n (digM p 3) (numsOf 1 (splitB 44 t)) (by rw [numsOf_len]; omega)
  cases hA : allNum 1 (splitB 44 t)
  ·have hN := numR_no hA
   simp only [Bool.not_false, Bool.true_or, if_true]
   simp (disch := first|assumption|omega) only [S0,rA,rQ,rB,rT,rE, ec, ed, esp, en, hN]
   rfl
  ·have hN := numR_yes hA
   cases d4 : decide (40 < (s.length : Int))
   ·cases hG : isGrp n && attrOk n ⟨digM p 3, numsOf 1 (splitB 44 t)⟩
    ·simp only [Bool.not_true, Bool.not_false, Bool.or_true, if_true]
     simp (disch := first|assumption|omega) only [S0,rA,rQ,rB,rT,rE, ec, ed, esp, en, hN, t_slen, d4, eg, hG]
     rfl
    ·simp only [Bool.not_true, Bool.or_false, Bool.false_eq_true, if_false]
     simp (disch := first|assumption|omega) only [S0,rA,rQ,rB,rT,rE, ec, ed, esp, en, hN, t_slen, d4, eg, hG]
   ·simp only [Bool.not_true, Bool.or_true, Bool.true_or, if_true]
    simp (disch := first|assumption|omega) only [S0,rA,rQ,rB,rT,rE, ec, ed, esp, en, hN, t_slen, d4]
    rfl
 ·rw [attrB_none hm]
  have ec := strings_Cut_no s 58 hm
  have ed := impl_digits s 3 (by decide) (by decide) hs
  have esp : Fun T 79 [.str [], .str [44]] = some [rL [[]]] := strings_Split [] 44 (by simp)
  have en := impl_numbers [[]] 1 (by decide) (by decide) (by simp) (by simp)
  have hN : numR 1 [[]] = ([], false) := rfl
  simp (disch := first|assumption|omega) only [S0,rA,rQ,rB,rT,rE, ec, ed, esp, en, hN]
  rfl
theorem spec_GoodAttr (n s : Int) (xs : List Int) (hx : xs.length <= 1099511627776) : Fun T 36 [i64 n, i64 s, rL xs] = some [.bool (isGrp n && attrOk n ⟨s, xs⟩)] := by
 rw [Fun_k (t := tm36) rfl]; unfold tm36
 (refine fork_in ?_; repeat' (refine fork_eq ?_ ?_<;>intro _<;>try simp (disch := first|assumption|omega) only [S0,rA,rQ,rB,rT,rE,spec_IsGroup,spec_l3Attr, *]))
theorem spec_ReadAttr (n : Int) (s : List UInt8) (hs : s.length <= 1000000000) : Fun T 35 [i64 n, .str s] = some [i64 (attrB n s).1.seq, rL (attrB n s).1.deps, .bool (attrB n s).2] := by
 rw [Fun_k (t := tm35) rfl]; unfold tm35
 have esp : Fun T 32 [.str s, .int .u8 58] = some [rL (splitB 58 s)] := spec_l1Split s 58 hs
 have hsm : ∀ w ∈ splitB 58 s, w.length <= s.length := fun w hw => (splitB_mem hw).2
 unfold attrB attrWs
 generalize splitB 58 s = ps at *
 cases d4 : decide (40 < (s.length : Int))
 rotate_left
 ·simp only [Bool.true_or, if_true]
  simp (disch := first|assumption|omega) only [S0,rA,rQ,rB,rT,rE, esp, t_slen, d4]
  rfl
 cases d2 : (ps.length : Int) == 2
 ·simp only [Bool.not_false, Bool.or_true, Bool.true_or, if_true]
  simp (disch := first|assumption|omega) only [S0,rA,rQ,rB,rT,rE, esp, t_slen, d4, d2]
  rfl
 ·have hl2 : (ps.length : Int) = 2 := by simpa using d2
  have b0 : InB ps 0 := by unfold InB; omega
  have b1 : InB ps 1 := by unfold InB; omega
  have m0 := hsm _ (at_memI b0)
  have m1 := hsm _ (at_memI b1)
  have er := spec_l1Read (atI ps 0) (by omega)
  have esp2 : Fun T 32 [.str (atI ps 1), .int .u8 44] = some [rL (splitB 44 (atI ps 1))] := spec_l1Split (atI ps 1) 44 (by omega)
  have htm : ∀ w ∈ splitB 44 (atI ps 1), w.length <= 1000000000 := fun w hw => by have := (splitB_mem hw).2; omega
  have htl : (splitB 44 (atI ps 1)).length <= 1000000001 := by
   rw [splitB_len]
   have : (atI ps 1).count 44 <= (atI ps 1).length := List.count_le_length
   omega
  simp (disch := first|assumption|omega) only [S0,rA,rQ,rB,rT,rE, esp, t_slen, d4, d2, S_row, er, esp2]
  generalize splitB 44 (atI ps 1) = ws at *
  rw [whileE (.yield 1, [rL (numsOf 6 ws)]) (fun i : Nat => ws.length - i) (fun i : Nat => i <= ws.length) (fun i => [i64 i, rL (numsOf 6 (ws.take i))]) 0 rfl (by simp) (by simp)]
  rotate_left
  ·intro i hi
   by_cases hlt : i < ws.length
   ·have d : decide ((i : Int) < (ws.length : Int)) = true := by simpa using hlt
    have hb : InB ws (i : Int) := InB_nat.2 hlt
    have e := spec_l1Read (atI ws (i : Int)) (htm _ (at_mem hlt))
    have z : (numsOf 6 (ws.take i)).length + ([digM (atI ws (i : Int)) 6] : List Int).length <= 100000000000 := by rw [numsOf_len, List.length_take]; simp only [List.length_cons, List.length_nil]; omega
    have e3 := (numsOf_succ (m := 6) hlt).symm
    refine .inl ⟨i + 1, ?_, by omega, by omega⟩
    simp (disch := first|assumption|omega) only [S0,rA,rQ,rB,rT,rE, d, S_row, e, S_mk, S_app, e3]
   ·have d : decide ((i : Int) < (ws.length : Int)) = false := by simpa using hlt
    obtain rfl : i = ws.length := by omega
    right
    rw [List.take_of_length_le (Nat.le_refl _)]
    simp (disch := first|assumption|omega) only [S0,rA,rQ,rB,rT,rE, d]
  ·have eg := spec_GoodAttr n (digM (atI ps 0) 6) (numsOf 6 ws) (by rw [numsOf_len]; omega)
   cases hG : isGrp n && attrOk n ⟨digM (atI ps 0) 6, numsOf 6 ws⟩
   ·simp only [Bool.not_true, Bool.not_false, Bool.or_true, if_true]
    simp (disch := first|assumption|omega) only [S0,rA,rQ,rB,rT,rE, eg, hG]
    rfl
   ·simp only [Bool.not_true, Bool.or_false, Bool.false_eq_true, if_false]
    simp (disch := first|assumption|omega) only [S0,rA,rQ,rB,rT,rE, eg, hG]
theorem spec_l1Num : ∀ n : Nat, n <= 1000000 -> Fun T 23 [i64 n] = some [.str (numD n)] := by
 intro n
 induction n using Nat.strongRecOn with
 | _ n ih =>
  intro hn
  have hdig : ∀ k : Nat, k < 10 -> (Prim.conv .u8).run [i64 (48 + (k : Int))] = some [.int .u8 (48 + (k : Int))] /\ Prim.bstr.run [.rows 1 [[.int .u8 (48 + (k : Int))]]] = some [.str [UInt8.ofNat (48 + k)]] := by
   intro k hk
   constructor
   ·show some [D.int .u8 (IntKind.u8.wrap (48 + (k : Int)))] = _
    have : IntKind.u8.wrap (48 + (k : Int)) = 48 + (k : Int) := by simp [IntKind.wrap, IntKind.bits, IntKind.signed]; omega
    rw [this]
   ·show some [D.str [UInt8.ofNat (48 + (k : Int)).toNat]] = _
    rw [show (48 + (k : Int)).toNat = 48 + k by omega]
  have hmk : ∀ x : Int, (Prim.mk 1 1).run [.int .u8 x] = some [.rows 1 [[.int .u8 x]]] := fun _ => rfl
  rw [Fun_k (t := tm23) rfl]; unfold tm23
  by_cases h : n < 10
  ·have d : decide ((n : Int) < 10) = true := by simp; omega
   obtain ⟨e1, e2⟩ := hdig n h
   rw [numD_lt h]
   simp (disch := first|assumption|omega) only [S0,rA,rQ,rB,rT,rE, d, e1, hmk, e2]
  ·have d : decide ((n : Int) < 10) = false := by simp; omega
   have eq : (Prim.bin .quo).run [i64 n, i64 10] = some [i64 ((n / 10 : Nat) : Int)] := by
    show (if (10 : Int) = 0 then none else some (D.int .i64 (IntKind.i64.wrap ((n : Int).tdiv 10)))).map (fun d => [d]) = _
    rw [if_neg (by decide)]
    have : (n : Int).tdiv 10 = ((n / 10 : Nat) : Int) := by rw [Int.tdiv_eq_ediv_of_nonneg (by omega)]; omega
    rw [this, wrap_i64 (by omega) (by omega)]
    rfl
   have em : (Prim.bin .rem).run [i64 n, i64 10] = some [i64 ((n % 10 : Nat) : Int)] := by
    show (if (10 : Int) = 0 then none else some (D.int .i64 ((n : Int).tmod 10))).map (fun d => [d]) = _
    rw [if_neg (by decide)]
    have : (n : Int).tmod 10 = ((n % 10 : Nat) : Int) := by rw [Int.tmod_eq_emod_of_nonneg (by omega)]; omega
    rw [this]
    rfl
   have ei := ih (n / 10) (by omega) (by omega)
   obtain ⟨e1, e2⟩ := hdig (n % 10) (by omega)
   have hl := numD_len (n / 10)
   have ea := t_add (a := numD (n / 10)) (b := [UInt8.ofNat (48 + n % 10)]) (by simp only [List.length_cons, List.length_nil]; omega)
   rw [numD_ge (by omega)]
   simp (disch := first|assumption|omega) only [S0,rA,rQ,rB,rT,rE, d, eq, em, ei, e1, hmk, e2, ea]
theorem spec_l1NumT (n : Int) (h0 : 0 <= n) (h1 : n <= 9999) : Fun T 23 [i64 n] = some [.str (numT n)] := by
 have := spec_l1Num n.toNat (by omega)
 rw [show ((n.toNat : Nat) : Int) = n by omega] at this
 exact this
theorem spec_l2Text (k i f t a : Int) (h : cmdOk ⟨k, i, f, t, a⟩ = true) : Fun T 24 [i64 k, i64 i, i64 f, i64 t, i64 a] = some [.str (cmdT ⟨k, i, f, t, a⟩)] := by
 rw [Fun_k (t := tm24) rfl]; unfold tm24
 have hr := cmdOk_rng h
 simp only at hr
 obtain ⟨⟨i0, i1⟩, ⟨f0, f1⟩, ⟨t0, t1⟩, a0, a1⟩ := hr
 have li := numT_len i1
 have lf := numT_len f1
 have lt := numT_len t1
 have la := numT_len a1
 have ni := spec_l1NumT i i0 i1
 have nf := spec_l1NumT f f0 f1
 have nt := spec_l1NumT t t0 t1
 have na := spec_l1NumT a a0 a1
 have hk := cmdOk_kind h
 simp only at hk
 unfold cmdT
 rcases hk with rfl | rfl | rfl
 ·simp (disch := first|assumption|omega) only [S0,rA,rQ,rB,rT,rE]
 ·have g1 := t_add (a := [109, 111, 118, 101, 32]) (b := numT i) (by simp only [List.length_cons, List.length_nil]; omega)
  have g2 := t_add (a := [109, 111, 118, 101, 32] ++ numT i) (b := [32]) (by simp only [List.length_append, List.length_cons, List.length_nil]; omega)
  have g3 := t_add (a := [109, 111, 118, 101, 32] ++ numT i ++ [32]) (b := numT f) (by simp only [List.length_append, List.length_cons, List.length_nil]; omega)
  have g4 := t_add (a := [109, 111, 118, 101, 32] ++ numT i ++ [32] ++ numT f) (b := [32]) (by simp only [List.length_append, List.length_cons, List.length_nil]; omega)
  have g5 := t_add (a := [109, 111, 118, 101, 32] ++ numT i ++ [32] ++ numT f ++ [32]) (b := numT t) (by simp only [List.length_append, List.length_cons, List.length_nil]; omega)
  have g6 := t_add (a := [109, 111, 118, 101, 32] ++ numT i ++ [32] ++ numT f ++ [32] ++ numT t) (b := [32]) (by simp only [List.length_append, List.length_cons, List.length_nil]; omega)
  have g7 := t_add (a := [109, 111, 118, 101, 32] ++ numT i ++ [32] ++ numT f ++ [32] ++ numT t ++ [32]) (b := numT a) (by simp only [List.length_append, List.length_cons, List.length_nil]; omega)
  simp (disch := first|assumption|omega) only [S0,rA,rQ,rB,rT,rE, ni, nf, nt, na, g1, g2, g3, g4, g5, g6, g7]
 ·have g1 := t_add (a := [114, 101, 97, 100, 32]) (b := numT i) (by simp only [List.length_cons, List.length_nil]; omega)
  have g2 := t_add (a := [114, 101, 97, 100, 32] ++ numT i) (b := [32]) (by simp only [List.length_append, List.length_cons, List.length_nil]; omega)
  have g3 := t_add (a := [114, 101, 97, 100, 32] ++ numT i ++ [32]) (b := numT f) (by simp only [List.length_append, List.length_cons, List.length_nil]; omega)
  simp (disch := first|assumption|omega) only [S0,rA,rQ,rB,rT,rE, ni, nf, g1, g2, g3]
theorem spec_l3List (xs : List Int) (hr : ∀ x ∈ xs, 0 <= x /\ x <= 9999) (hx : xs.length <= 1000) : Fun T 26 [rL xs] = some [.str (joinB 44 (xs.map numT))] := by
 rw [Fun_k (t := tm26) rfl]; unfold tm26
 simp (disch := first|assumption|omega) only [S0,rA,rQ,rB,rT,rE]
 have hj : ∀ i : Nat, i <= xs.length -> (joinB 44 ((xs.take i).map numT)).length <= 10010000 := by
  intro i hi
  have := joinB_len (b := 44) (ws := (xs.take i).map numT) (by
   intro w hw
   obtain ⟨x, h1, rfl⟩ := List.mem_map.1 hw
   exact numT_len (hr x (List.mem_of_mem_take h1)).2)
  rw [List.length_map, List.length_take] at this
  omega
 rw [whileE (.yield 1, [.str (joinB 44 (xs.map numT))]) (fun i : Nat => xs.length - i) (fun i : Nat => i <= xs.length) (fun i => [.str (joinB 44 ((xs.take i).map numT)), i64 i]) 0 rfl (by simp) (by simp)]
 rotate_left
 ·intro i hi
  by_cases hlt : i < xs.length
  ·have d : decide ((i : Int) < (xs.length : Int)) = true := by simpa using hlt
   have hb : InB xs (i : Int) := InB_nat.2 hlt
   have hm := hr _ (at_mem hlt)
   have e := spec_l1NumT (atI xs (i : Int)) hm.1 hm.2
   have l1 := numT_len hm.2
   have l2 := hj i hi
   refine .inl ⟨i + 1, ?_, by omega, by omega⟩
   by_cases h0 : 0 < i
   ·have d0 : decide ((0 : Int) < (i : Int)) = true := by simpa using h0
    have g1 := t_add (a := joinB 44 ((xs.take i).map numT)) (b := [44]) (by simp only [List.length_cons, List.length_nil]; omega)
    have g2 := t_add (a := joinB 44 ((xs.take i).map numT) ++ [44]) (b := numT (atI xs (i : Int))) (by simp only [List.length_append, List.length_cons, List.length_nil]; omega)
    have e3 : joinB 44 ((xs.take i).map numT) ++ [44] ++ numT (atI xs (i : Int)) = joinB 44 ((xs.take (i + 1)).map numT) := by
     rw [<- take_at hlt, List.map_append]
     refine (joinB_snoc ?_).symm
     intro hn
     have := congrArg List.length hn
     simp only [List.length_map, List.length_take, List.length_nil] at this
     omega
    simp (disch := first|assumption|omega) only [S0,rA,rQ,rB,rT,rE, d, S_row, e, d0, g1, g2, e3]
   ·obtain rfl : i = 0 := by omega
    have d0 : decide ((0 : Int) < ((0 : Nat) : Int)) = false := rfl
    have g2 := t_add (a := joinB 44 ((xs.take 0).map numT)) (b := numT (atI xs ((0 : Nat) : Int))) (by omega)
    have e3 : joinB 44 ((xs.take 0).map numT) ++ numT (atI xs ((0 : Nat) : Int)) = joinB 44 ((xs.take (0 + 1)).map numT) := by
     rw [<- take_at hlt]
     simp [joinB]
    simp (disch := first|assumption|omega) only [S0,rA,rQ,rB,rT,rE, d, S_row, e, d0, g2, e3]
  ·have d : decide ((i : Int) < (xs.length : Int)) = false := by simpa using hlt
   obtain rfl : i = xs.length := by omega
   right
   rw [List.take_of_length_le (Nat.le_refl _)]
   simp (disch := first|assumption|omega) only [S0,rA,rQ,rB,rT,rE, d]
 ·simp (disch := first|assumption|omega) only [S0,rA,rQ,rB,rT,rE]
theorem spec_l3Text (sq : Int) (xs : List Int) (h0 : 0 <= sq) (h1 : sq <= 9999) (hr : ∀ x ∈ xs, 0 <= x /\ x <= 9999) (hx : xs.length <= 1000) : Fun T 25 [i64 sq, rL xs] = some [.str (attrT ⟨sq, xs⟩)] /\ (attrT ⟨sq, xs⟩).length <= 20000000 := by
 have l1 := numT_len h1
 have l2 : (joinB 44 (xs.map numT)).length <= 10001 * xs.length := by
  have := joinB_len (b := 44) (ws := xs.map numT) (by
   intro w hw
   obtain ⟨x, h1, rfl⟩ := List.mem_map.1 hw
   exact numT_len (hr x h1).2)
  rwa [List.length_map] at this
 refine ⟨?_, by simp only [attrT, List.length_append, List.length_cons]; omega⟩
 rw [Fun_k (t := tm25) rfl]; unfold tm25
 have e := spec_l1NumT sq h0 h1
 have e2 := spec_l3List xs hr hx
 have g1 := t_add (a := numT sq) (b := [58]) (by simp only [List.length_cons, List.length_nil]; omega)
 have g2 := t_add (a := numT sq ++ [58]) (b := joinB 44 (xs.map numT)) (by simp only [List.length_append, List.length_cons, List.length_nil]; omega)
 have e3 : numT sq ++ [58] ++ joinB 44 (xs.map numT) = attrT ⟨sq, xs⟩ := by simp [attrT]
 simp (disch := first|assumption|omega) only [S0,rA,rQ,rB,rT,rE, e, g1, e2, g2, e3]
theorem spec_l14Row (rep no bal vot sta k i f t a sq : Int) (xs : List Int) (h0 : 0 <= rep /\ rep <= 9999) (hn : ∀ x ∈ [no, bal, vot, sta], 0 <= x /\ x <= 9999) (hc : cmdOk ⟨k, i, f, t, a⟩ = true) (h1 : 0 <= sq /\ sq <= 9999) (hr : ∀ x ∈ xs, 0 <= x /\ x <= 9999) (hx : xs.length <= 1000) :
  Fun T 22 [i64 rep, i64 no, i64 bal, i64 vot, i64 sta, i64 k, i64 i, i64 f, i64 t, i64 a, i64 sq, rL xs] = some [.str (rowT rep no ⟨bal, vot, sta, ⟨k, i, f, t, a⟩, ⟨sq, xs⟩⟩)] := by
 rw [Fun_k (t := tm22) rfl]; unfold tm22
 have e0 := spec_l1NumT rep h0.1 h0.2
 have ec := spec_l2Text k i f t a hc
 obtain ⟨ea, la⟩ := spec_l3Text sq xs h1.1 h1.2 hr hx
 have lc : (cmdT ⟨k, i, f, t, a⟩).length <= 100000 := by
  have hr := cmdOk_rng hc
  simp only at hr
  obtain ⟨⟨i0, i1⟩, ⟨f0, f1⟩, ⟨t0, t1⟩, a0, a1⟩ := hr
  have li := numT_len i1
  have lf := numT_len f1
  have lt := numT_len t1
  have la := numT_len a1
  unfold cmdT
  split
  ·simp only [List.length_append, List.length_cons, List.length_nil]; omega
  ·split
   ·simp only [List.length_append, List.length_cons, List.length_nil]; omega
   ·simp
 have hL : [no, bal, vot, sta].length = 4 := rfl
 have hfin : numT rep ++ [no, bal, vot, sta].flatMap (fun x => 32 :: numT x) ++ [124] ++ cmdT ⟨k, i, f, t, a⟩ ++ [124] ++ attrT ⟨sq, xs⟩ = rowT rep no ⟨bal, vot, sta, ⟨k, i, f, t, a⟩, ⟨sq, xs⟩⟩ := by
  simp [rowT]
 have l0 := numT_len h0.2
 have emk : (Prim.mk 1 4).run [i64 no, i64 bal, i64 vot, i64 sta] = some [rL [no, bal, vot, sta]] := S_mk.2.2.2.1
 generalize [no, bal, vot, sta] = L at *
 simp (disch := first|assumption|omega) only [S0,rA,rQ,rB,rT,rE, e0, emk]
 have hj : ∀ j : Nat, j <= L.length -> (numT rep ++ (L.take j).flatMap (fun x => 32 :: numT x)).length <= 10000 + 10001 * 4 := by
  intro j hj
  have := flat_len (xs := L.take j) (fun x hx => hn x (List.mem_of_mem_take hx))
  rw [List.length_take] at this
  rw [List.length_append]
  omega
 rw [whileE (.yield 1, [.str (numT rep ++ L.flatMap (fun x => 32 :: numT x))]) (fun j : Nat => L.length - j) (fun j : Nat => j <= L.length) (fun j => [.str (numT rep ++ (L.take j).flatMap (fun x => 32 :: numT x)), i64 j]) 0 (by simp [Atom.val]) (by simp) (by simp)]
 rotate_left
 ·intro j hjl
  by_cases hlt : j < L.length
  ·have d : decide ((j : Int) < (L.length : Int)) = true := by simpa using hlt
   have hb : InB L (j : Int) := InB_nat.2 hlt
   have hm := hn _ (at_mem hlt)
   have e := spec_l1NumT (atI L (j : Int)) hm.1 hm.2
   have l1 := numT_len hm.2
   have l2 := hj j hjl
   have e9 : ([32] ++ numT (atI L (j : Int))).length = (numT (atI L (j : Int))).length + 1 := by simp
   have g1 := t_add (a := [32]) (b := numT (atI L (j : Int))) (by simp only [List.length_cons, List.length_nil]; omega)
   have g2 := t_add (a := numT rep ++ (L.take j).flatMap (fun x => 32 :: numT x)) (b := [32] ++ numT (atI L (j : Int))) (by omega)
   have e3 : numT rep ++ (L.take j).flatMap (fun x => 32 :: numT x) ++ ([32] ++ numT (atI L (j : Int))) = numT rep ++ (L.take (j + 1)).flatMap (fun x => 32 :: numT x) := by
    rw [<- take_at hlt]
    simp
   refine .inl ⟨j + 1, ?_, by omega, by omega⟩
   simp (disch := first|assumption|omega) only [S0,rA,rQ,rB,rT,rE, d, S_row, e, g1, g2, e3]
  ·have d : decide ((j : Int) < (L.length : Int)) = false := by simpa using hlt
   obtain rfl : j = L.length := by omega
   right
   rw [List.take_of_length_le (Nat.le_refl _)]
   simp (disch := first|assumption|omega) only [S0,rA,rQ,rB,rT,rE, d]
 ·have lF := hj L.length (Nat.le_refl _)
  rw [List.take_of_length_le (Nat.le_refl _)] at lF
  generalize numT rep ++ L.flatMap (fun x => 32 :: numT x) = A at *
  have g1 := t_add (a := A) (b := [124]) (by simp only [List.length_cons, List.length_nil]; omega)
  have g2 := t_add (a := A ++ [124]) (b := cmdT ⟨k, i, f, t, a⟩) (by simp only [List.length_append, List.length_cons, List.length_nil]; omega)
  have g3 := t_add (a := A ++ [124] ++ cmdT ⟨k, i, f, t, a⟩) (b := [124]) (by simp only [List.length_append, List.length_cons, List.length_nil]; omega)
  have g4 := t_add (a := A ++ [124] ++ cmdT ⟨k, i, f, t, a⟩ ++ [124]) (b := attrT ⟨sq, xs⟩) (by simp only [List.length_append, List.length_cons, List.length_nil]; omega)
  simp (disch := first|assumption|omega) only [S0,rA,rQ,rB,rT,rE, g1, ec, g2, g3, ea, g4, hfin]
theorem spec_RowText (n rep no bal vot sta k i f t a sq : Int) (xs : List Int) (hx : xs.length <= 1099511627776) :
  Fun T 9 [i64 n, i64 rep, i64 no, i64 bal, i64 vot, i64 sta, i64 k, i64 i, i64 f, i64 t, i64 a, i64 sq, rL xs] = some [.str (textR n rep no ⟨bal, vot, sta, ⟨k, i, f, t, a⟩, ⟨sq, xs⟩⟩).1, .bool (textR n rep no ⟨bal, vot, sta, ⟨k, i, f, t, a⟩, ⟨sq, xs⟩⟩).2] := by
 rw [Fun_k (t := tm9) rfl]; unfold tm9
 unfold textR
 cases hg : isGrp n
 ·simp (disch := first|assumption|omega) only [S0,rA,rQ,rB,rT,rE, spec_IsGroup, hg]
 cases hi : inst n rep no
 ·have e := spec_l3Inst n rep no hg
  simp (disch := first|assumption|omega) only [S0,rA,rQ,rB,rT,rE, spec_IsGroup, hg, e, hi]
 have e := spec_l3Inst n rep no hg
 have er := spec_l4Row n bal vot sta k i f t a sq xs hg hx
 cases hr : rowOk n ⟨bal, vot, sta, ⟨k, i, f, t, a⟩, ⟨sq, xs⟩⟩
 ·simp (disch := first|assumption|omega) only [S0,rA,rQ,rB,rT,rE, spec_IsGroup, hg, e, hi, er, hr]
 have h1 := inst_rng hi
 have hn := isGrp_rng hg
 have h2 := rowOk_rng hr
 have h3 := rowOk_cmd hr
 have h4 := attrOk_rng (rowOk_attr hr hg)
 simp only at h2 h3 h4
 have et := spec_l14Row rep no bal vot sta k i f t a sq xs ⟨by omega, by omega⟩ (by
  intro x hx
  simp only [List.mem_cons, List.not_mem_nil, or_false] at hx
  omega) h3 ⟨h4.1, by omega⟩ (fun x hx => ⟨(h4.2.2.2 x hx).1, by have := (h4.2.2.2 x hx).2; omega⟩) (by omega)
 simp (disch := first|assumption|omega) only [S0,rA,rQ,rB,rT,rE, spec_IsGroup, hg, e, hi, er, hr, et]
theorem spec_ReadRow (n : Int) (s : List UInt8) (hs : s.length <= 1000000000) : Fun T 31 [i64 n, .str s] = some [i64 (readB n s).1, i64 (readB n s).2.1, i64 (readB n s).2.2.1.ballot, i64 (readB n s).2.2.1.vote, i64 (readB n s).2.2.1.state,
  i64 (readB n s).2.2.1.cmd.kind, i64 (readB n s).2.2.1.cmd.id, i64 (readB n s).2.2.1.cmd.src, i64 (readB n s).2.2.1.cmd.dst, i64 (readB n s).2.2.1.cmd.amt, i64 (readB n s).2.2.1.attr.seq, rL (readB n s).2.2.1.attr.deps, .bool (readB n s).2.2.2] := by
 rw [Fun_k (t := tm31) rfl]; unfold tm31
 have esp : Fun T 32 [.str s, .int .u8 124] = some [rL (splitB 124 s)] := spec_l1Split s 124 hs
 have hsm : ∀ w ∈ splitB 124 s, w.length <= s.length := fun w hw => (splitB_mem hw).2
 have ht := @readB_text n s
 unfold readB at ht ⊢
 generalize splitB 124 s = ps at *
 cases hg : isGrp n
 ·rw [readWs_no (.inr (.inr (.inr (.inr (.inl (by rw [hg]; rfl))))))]
  simp (disch := first|assumption|omega) only [S0,rA,rQ,rB,rT,rE, esp, spec_IsGroup, hg]
  rfl
 by_cases hl3 : (ps.length : Int) = 3
 rotate_left
 ·have d3 : ((ps.length : Int) == 3) = false := by simpa using hl3
  rw [readWs_no (.inl hl3)]
  simp (disch := first|assumption|omega) only [S0,rA,rQ,rB,rT,rE, esp, spec_IsGroup, hg, d3]
  rfl
 have d3 : ((ps.length : Int) == 3) = true := by simpa using hl3
 have b0 : InB ps 0 := by unfold InB; omega
 have b1 : InB ps 1 := by unfold InB; omega
 have b2 : InB ps 2 := by unfold InB; omega
 have m0 := hsm _ (at_memI b0)
 have m1 := hsm _ (at_memI b1)
 have m2 := hsm _ (at_memI b2)
 have hyes := readWs_yes (n := n) hl3
 have hno := readWs_no (n := n) (ps := ps)
 have esp2 : Fun T 32 [.str (atI ps 0), .int .u8 32] = some [rL (splitB 32 (atI ps 0))] := spec_l1Split (atI ps 0) 32 (by omega)
 have htm : ∀ w ∈ splitB 32 (atI ps 0), w.length <= 1000000000 := fun w hw => by have := (splitB_mem hw).2; omega
 have htl : (splitB 32 (atI ps 0)).length <= 1000000001 := by
  rw [splitB_len]
  have : (atI ps 0).count 32 <= (atI ps 0).length := List.count_le_length
  omega
 obtain ⟨code, eC⟩ := spec_ReadCmd (atI ps 1) (by omega)
 have eA := spec_ReadAttr n (atI ps 2) (by omega)
 have lA := attrB_len (n := n) (s := atI ps 2)
 simp (disch := first|assumption|omega) only [S0,rA,rQ,rB,rT,rE, esp, spec_IsGroup, hg, d3, S_row, esp2]
 generalize splitB 32 (atI ps 0) = ws at *
 rw [whileE (.yield 1, [rL (numsOf 6 ws)]) (fun i : Nat => ws.length - i) (fun i : Nat => i <= ws.length) (fun i => [rL (numsOf 6 (ws.take i)), i64 i]) 0 rfl (by simp) (by simp)]
 rotate_left
 ·intro i hi
  by_cases hlt : i < ws.length
  ·have d : decide ((i : Int) < (ws.length : Int)) = true := by simpa using hlt
   have hb : InB ws (i : Int) := InB_nat.2 hlt
   have e := spec_l1Read (atI ws (i : Int)) (htm _ (at_mem hlt))
   have z : (numsOf 6 (ws.take i)).length + ([digM (atI ws (i : Int)) 6] : List Int).length <= 100000000000 := by rw [numsOf_len, List.length_take]; simp only [List.length_cons, List.length_nil]; omega
   have e3 := (numsOf_succ (m := 6) hlt).symm
   refine .inl ⟨i + 1, ?_, by omega, by omega⟩
   simp (disch := first|assumption|omega) only [S0,rA,rQ,rB,rT,rE, d, S_row, e, S_mk, S_app, e3]
  ·have d : decide ((i : Int) < (ws.length : Int)) = false := by simpa using hlt
   obtain rfl : i = ws.length := by omega
   right
   rw [List.take_of_length_le (Nat.le_refl _)]
   simp (disch := first|assumption|omega) only [S0,rA,rQ,rB,rT,rE, d]
 have hnl : (numsOf 6 ws).length = ws.length := numsOf_len
 by_cases hl5 : ws.length = 5
 rotate_left
 ·have d5 : (((numsOf 6 ws).length : Int) == 5) = false := by rw [hnl]; simp; omega
  rw [hno (.inr (.inl hl5))]
  simp (disch := first|assumption|omega) only [S0,rA,rQ,rB,rT,rE, S_row, eC, eA, d5]
  rfl
 have d5 : (((numsOf 6 ws).length : Int) == 5) = true := by rw [hnl, hl5]; rfl
 have hyes := hyes hl5
 generalize numsOf 6 ws = ns at *
 generalize cmdB (atI ps 1) = cb at *
 generalize attrB n (atI ps 2) = ab at *
 obtain ⟨⟨k, i, f, t, a⟩, co⟩ := cb
 obtain ⟨⟨sq, xs⟩, ao⟩ := ab
 simp only at eC eA hyes hno lA
 cases co
 ·rw [hno (.inr (.inr (.inl rfl)))]
  simp (disch := first|assumption|omega) only [S0,rA,rQ,rB,rT,rE, S_row, eC, eA, d5]
  rfl
 cases ao
 ·rw [hno (.inr (.inr (.inr (.inl rfl))))]
  simp (disch := first|assumption|omega) only [S0,rA,rQ,rB,rT,rE, S_row, eC, eA, d5]
  rfl
 have c0 : InB ns 0 := by unfold InB; omega
 have c1 : InB ns 1 := by unfold InB; omega
 have c2 : InB ns 2 := by unfold InB; omega
 have c3 : InB ns 3 := by unfold InB; omega
 have c4 : InB ns 4 := by unfold InB; omega
 have eT := spec_RowText n (atI ns 0) (atI ns 1) (atI ns 2) (atI ns 3) (atI ns 4) k i f t a sq xs (by omega)
 cases hin : inst n (atI ns 0) (atI ns 1)
 ·rw [hno (.inr (.inr (.inr (.inr (.inl (by rw [hg, hin]; rfl))))))]
  have eR : textR n (atI ns 0) (atI ns 1) ⟨atI ns 2, atI ns 3, atI ns 4, ⟨k, i, f, t, a⟩, ⟨sq, xs⟩⟩ = ([], false) := by
   unfold textR; rw [hin, hg]; rfl
  rw [eR] at eT
  simp (disch := first|assumption|omega) only [S0,rA,rQ,rB,rT,rE, S_row, eC, eA, d5, eT]
  rfl
 cases hro : rowOk n (rowN ns ⟨k, i, f, t, a⟩ ⟨sq, xs⟩)
 ·rw [hno (.inr (.inr (.inr (.inr (.inr hro)))))]
  have eR : textR n (atI ns 0) (atI ns 1) ⟨atI ns 2, atI ns 3, atI ns 4, ⟨k, i, f, t, a⟩, ⟨sq, xs⟩⟩ = ([], false) := by
   unfold textR
   unfold rowN at hro
   rw [hro, Bool.and_false]
   rfl
  rw [eR] at eT
  simp (disch := first|assumption|omega) only [S0,rA,rQ,rB,rT,rE, S_row, eC, eA, d5, eT]
  rfl
 have hy := hyes rfl rfl (by rw [hg, hin]; rfl) hro
 rw [hy] at ht ⊢
 have ht := ht rfl
 unfold rowN at ht hro ⊢
 simp only at ht
 have eR : textR n (atI ns 0) (atI ns 1) ⟨atI ns 2, atI ns 3, atI ns 4, ⟨k, i, f, t, a⟩, ⟨sq, xs⟩⟩ = (s, true) := by
  unfold textR
  rw [hro, hin, hg, ht]
  rfl
 rw [eR] at eT
 simp (disch := first|assumption|omega) only [S0,rA,rQ,rB,rT,rE, S_row, eC, eA, d5, eT, t_ne]
theorem impl_ReadRow (n : Int) (s : List UInt8) (hs : s.length <= 1000000000) : Fun T 78 [i64 n, .str s] = some [i64 (readB n s).1, i64 (readB n s).2.1, i64 (readB n s).2.2.1.ballot, i64 (readB n s).2.2.1.vote, i64 (readB n s).2.2.1.state,
  i64 (readB n s).2.2.1.cmd.kind, i64 (readB n s).2.2.1.cmd.id, i64 (readB n s).2.2.1.cmd.src, i64 (readB n s).2.2.1.cmd.dst, i64 (readB n s).2.2.1.cmd.amt, i64 (readB n s).2.2.1.attr.seq, rL (readB n s).2.2.1.attr.deps, .bool (readB n s).2.2.2] := by
 rw [Fun_k (t := tm78) rfl]; unfold tm78
 have esp := strings_Split s 124 hs
 have hsm : ∀ w ∈ splitB 124 s, w.length <= s.length := fun w hw => (splitB_mem hw).2
 unfold readB
 generalize splitB 124 s = ps at *
 by_cases hl3 : (ps.length : Int) = 3
 rotate_left
 ·have d3 : ((ps.length : Int) == 3) = false := by simpa using hl3
  rw [readWs_no (.inl hl3)]
  simp (disch := first|assumption|omega) only [S0,rA,rQ,rB,rT,rE, esp, d3]
  rfl
 have d3 : ((ps.length : Int) == 3) = true := by simpa using hl3
 have b0 : InB ps 0 := by unfold InB; omega
 have b1 : InB ps 1 := by unfold InB; omega
 have b2 : InB ps 2 := by unfold InB; omega
 have m0 := hsm _ (at_memI b0)
 have m1 := hsm _ (at_memI b1)
 have m2 := hsm _ (at_memI b2)
 have hyes := readW4_yes (n := n) hl3
 have hno := readW4_no (n := n) (ps := ps)
 have esp2 := strings_Split (atI ps 0) 32 (by omega)
 have htm : ∀ w ∈ splitB 32 (atI ps 0), w.length <= 1000000000 := fun w hw => by have := (splitB_mem hw).2; omega
 have htl : (splitB 32 (atI ps 0)).length <= 1000000001 := by
  rw [splitB_len]
  have : (atI ps 0).count 32 <= (atI ps 0).length := List.count_le_length
  omega
 obtain ⟨code, eC⟩ := impl_ReadCmd (atI ps 1) (by omega)
 have eA := impl_ReadAttr n (atI ps 2) (by omega)
 have lA := attrB_len (n := n) (s := atI ps 2)
 generalize splitB 32 (atI ps 0) = ws at *
 have en := impl_numbers ws 4 (by decide) (by decide) htm htl
 cases hA : allNum 4 ws
 ·have hN := numR_no hA
  rw [hno (.inr (.inl hA))]
  simp (disch := first|assumption|omega) only [S0,rA,rQ,rB,rT,rE, esp, d3, S_row, esp2, en, hN, eC, eA]
  rfl
 have hN := numR_yes hA
 have hnl : (numsOf 4 ws).length = ws.length := numsOf_len
 have hyes := hyes hA
 generalize numsOf 4 ws = ns at *
 generalize cmdB (atI ps 1) = cb at *
 generalize attrB n (atI ps 2) = ab at *
 obtain ⟨⟨k, i, f, t, a⟩, co⟩ := cb
 obtain ⟨⟨sq, xs⟩, ao⟩ := ab
 simp only at eC eA hyes hno lA
 cases co
 ·rw [hno (.inr (.inr (.inr (.inl rfl))))]
  simp (disch := first|assumption|omega) only [S0,rA,rQ,rB,rT,rE, esp, d3, S_row, esp2, en, hN, eC, eA]
  rfl
 cases ao
 ·rw [hno (.inr (.inr (.inr (.inr (.inl rfl)))))]
  simp (disch := first|assumption|omega) only [S0,rA,rQ,rB,rT,rE, esp, d3, S_row, esp2, en, hN, eC, eA]
  rfl
 by_cases hl5 : ws.length = 5
 rotate_left
 ·have d5 : ((ns.length : Int) == 5) = false := by rw [hnl]; simp; omega
  rw [hno (.inr (.inr (.inl hl5)))]
  simp (disch := first|assumption|omega) only [S0,rA,rQ,rB,rT,rE, esp, d3, S_row, esp2, en, hN, eC, eA, d5]
  rfl
 have d5 : ((ns.length : Int) == 5) = true := by rw [hnl, hl5]; rfl
 have hyes := hyes hl5
 have c0 : InB ns 0 := by unfold InB; omega
 have c1 : InB ns 1 := by unfold InB; omega
 have c2 : InB ns 2 := by unfold InB; omega
 have c3 : InB ns 3 := by unfold InB; omega
 have c4 : InB ns 4 := by unfold InB; omega
 cases hin : isGrp n && inst n (atI ns 0) (atI ns 1)
 ·rw [hno (.inr (.inr (.inr (.inr (.inr (.inl hin))))))]
  simp (disch := first|assumption|omega) only [S0,rA,rQ,rB,rT,rE, esp, d3, S_row, esp2, en, hN, eC, eA, d5, impl_isInstance, hin]
  rfl
 have hg : isGrp n = true := by
  simp only [Bool.and_eq_true] at hin
  exact hin.1
 have eG := impl_goodRow n (atI ns 2) (atI ns 3) (atI ns 4) k i f t a sq xs hg (by omega)
 cases hro : rowOk n (rowN ns ⟨k, i, f, t, a⟩ ⟨sq, xs⟩)
 ·rw [hno (.inr (.inr (.inr (.inr (.inr (.inr hro))))))]
  unfold rowN at hro
  simp (disch := first|assumption|omega) only [S0,rA,rQ,rB,rT,rE, esp, d3, S_row, esp2, en, hN, eC, eA, d5, impl_isInstance, hin, eG, hro]
  rfl
 rw [hyes rfl rfl hin hro]
 unfold rowN at hro ⊢
 simp (disch := first|assumption|omega) only [S0,rA,rQ,rB,rT,rE, esp, d3, S_row, esp2, en, hN, eC, eA, d5, impl_isInstance, hin, eG, hro]
theorem impl_sumOf (s : List UInt8) (h : Int) (hs : s.length <= 1000) (h0 : 0 <= h) (h1 : h < 65521) : Fun T 76 [.str s, i64 h, i64 33] = some [i64 (sumB s h)] := by
 rw [Fun_k (t := tm76) rfl]; unfold tm76
 simp (disch := first|assumption|omega) only [S0,rA,rQ,rB,rT,rE, t_slen]
 rw [whileE (.yield 1, [i64 (sumB s h)]) (fun i : Nat => s.length - i) (fun i : Nat => i <= s.length) (fun i => [i64 (sumB (s.take i) h), i64 i]) 0 rfl (by simp) (by simp)]
 rotate_left
 ·intro i hi
  by_cases hlt : i < s.length
  ·have d : decide ((i : Int) < (s.length : Int)) = true := by simpa using hlt
   have es := t_sidx (s := s) (k := (i : Int)) (by omega) (by omega)
   have hc : (atI s (i : Int)).toNat < 256 := UInt8.toNat_lt _
   obtain ⟨v0, v1⟩ := sumB_rng (s.take i) h h0 h1
   have ec : (Prim.conv .i64).run [u8 (atI s (i : Int))] = some [i64 (((atI s (i : Int)).toNat : Nat) : Int)] := u8_conv (by omega) (by omega)
   have er : (Prim.bin .mul).run [i64 (sumB (s.take i) h), i64 33] = some [i64 (33 * sumB (s.take i) h)] := by rw [run_mulI (by omega) (by omega), Int.mul_comm]
   have em : (Prim.bin .rem).run [i64 (33 * sumB (s.take i) h + (((atI s (i : Int)).toNat : Nat) : Int)), i64 65521] = some [i64 (sumB (s.take (i + 1)) h)] := by
    show (if (65521 : Int) = 0 then none else some (D.int .i64 ((33 * sumB (s.take i) h + (((atI s (i : Int)).toNat : Nat) : Int)).tmod 65521))).map (fun d => [d]) = _
    rw [if_neg (by decide), Int.tmod_eq_emod_of_nonneg (by omega), <- take_at hlt, sumB_app]
    rfl
   refine .inl ⟨i + 1, ?_, by omega, by omega⟩
   simp (disch := first|assumption|omega) only [S0,rA,rQ,rB,rT,rE, t_slen, d, es, ec, er, em]
  ·have d : decide ((i : Int) < (s.length : Int)) = false := by simpa using hlt
   obtain rfl : i = s.length := by omega
   right
   rw [List.take_of_length_le (Nat.le_refl _)]
   simp (disch := first|assumption|omega) only [S0,rA,rQ,rB,rT,rE, t_slen, d]
 ·simp (disch := first|assumption|omega) only [S0,rA,rQ,rB,rT,rE]
theorem impl_twoBytes (x : Int) (n0 : 0 <= x) (n1 : x < 65521) : Fun T 77 [i64 x] = some [.str (tailF x)] := by
 rw [Fun_k (t := tm77) rfl]; unfold tm77
 have hcv : ∀ k : Int, 0 <= k -> k <= 255 -> (Prim.conv .u8).run [i64 k] = some [.int .u8 k] := by
  intro k h0 h1
  show some [D.int .u8 (IntKind.u8.wrap k)] = _
  have : IntKind.u8.wrap k = k := by simp [IntKind.wrap, IntKind.bits, IntKind.signed]; omega
  rw [this]
 have eq : (Prim.bin .quo).run [i64 x, i64 256] = some [i64 (x / 256)] := by
  show (if (256 : Int) = 0 then none else some (D.int .i64 (IntKind.i64.wrap (x.tdiv 256)))).map (fun d => [d]) = _
  rw [if_neg (by decide), Int.tdiv_eq_ediv_of_nonneg n0, wrap_i64 (by omega) (by omega)]
  rfl
 have em : (Prim.bin .rem).run [i64 x, i64 256] = some [i64 (x % 256)] := by
  show (if (256 : Int) = 0 then none else some (D.int .i64 (x.tmod 256))).map (fun d => [d]) = _
  rw [if_neg (by decide), Int.tmod_eq_emod_of_nonneg n0]
  rfl
 have c1 := hcv (x / 256) (by omega) (by omega)
 have c2 := hcv (x % 256) (by omega) (by omega)
 have ek : (Prim.mk 1 2).run [.int .u8 (x / 256), .int .u8 (x % 256)] = some [.rows 1 [[.int .u8 (x / 256)], [.int .u8 (x % 256)]]] := rfl
 have eb : Prim.bstr.run [.rows 1 [[.int .u8 (x / 256)], [.int .u8 (x % 256)]]] = some [.str (tailF x)] := rfl
 simp (disch := first|assumption|omega) only [S0,rA,rQ,rB,rT,rE, eq, em, c1, c2, ek, eb]
theorem impl_frame (w : List UInt8) (hw : w.length <= 200) : Fun T 75 [.str w] = some [.str (frameB w)] := by
 rw [Fun_k (t := tm75) rfl]; unfold tm75
 have hcv : ∀ k : Int, 0 <= k -> k <= 255 -> (Prim.conv .u8).run [i64 k] = some [.int .u8 k] := by
  intro k h0 h1
  show some [D.int .u8 (IntKind.u8.wrap k)] = _
  have : IntKind.u8.wrap k = k := by simp [IntKind.wrap, IntKind.bits, IntKind.signed]; omega
  rw [this]
 have c1 := hcv (w.length : Int) (by omega) (by omega)
 have ek : (Prim.mk 1 1).run [.int .u8 (w.length : Int)] = some [.rows 1 [[.int .u8 (w.length : Int)]]] := rfl
 have eb : Prim.bstr.run [.rows 1 [[.int .u8 (w.length : Int)]]] = some [.str [UInt8.ofNat w.length]] := by
  show some [D.str [UInt8.ofNat ((w.length : Int)).toNat]] = _
  rw [Int.toNat_natCast]
 have g1 := t_add (a := [UInt8.ofNat w.length]) (b := w) (by simp only [List.length_cons, List.length_nil]; omega)
 have hh : [UInt8.ofNat w.length] ++ w = headF w := rfl
 rw [hh] at g1
 have hl : (headF w).length = w.length + 1 := by simp [headF]
 have es := impl_sumOf (headF w) 7 (by omega) (by decide) (by decide)
 obtain ⟨n0, n1⟩ := sumB_rng (headF w) 7 (by decide) (by decide)
 have et := impl_twoBytes (sumB (headF w) 7) n0 n1
 have htl : (tailF (sumB (headF w) 7)).length = 2 := rfl
 have g2 := t_add (a := headF w) (b := tailF (sumB (headF w) 7)) (by omega)
 have g3 := t_add (a := headF w ++ tailF (sumB (headF w) 7)) (b := [1]) (by simp only [List.length_append, List.length_cons, List.length_nil]; omega)
 have hf : headF w ++ tailF (sumB (headF w) 7) ++ [1] = frameB w := rfl
 simp (disch := first|assumption|omega) only [S0,rA,rQ,rB,rT,rE, t_slen, c1, ek, eb, g1, es, et, g2, g3, hf]
theorem impl_frames (s : List UInt8) (hs : s.length <= 1000000000) : Fun T 74 [.str s] = some [rL (framesB s)] := by
 rw [Fun_k (t := tm74) rfl]; unfold tm74
 have em0 : (Prim.mk 1 0).run [] = some [rL ([] : List (List UInt8))] := rfl
 simp (disch := first|assumption|omega) only [S0,rA,rQ,rB,rT,rE, em0]
 generalize hE : Er T (Tm.loop _ _) _ = E
 have key : ∃ q, E = some q /\ q = (.yield 1, [rL (framesB s)]) := by
  rw [<- hE]
  refine loopEx (γ := List UInt8 × List (List UInt8)) (fun c => c.1.length) (fun c => c.2 ++ framesB c.1 = framesB s /\ c.2.length + c.1.length <= s.length) (fun c => [.str c.1, rL c.2]) _ (s, []) rfl ⟨by simp, by simp⟩ ?_
  rintro ⟨t, out⟩ ⟨h1, h2⟩
  simp only at h1 h2
  by_cases hne : t = []
  ·subst hne
   have e0 : (([] : List UInt8) == []) = true := rfl
   have hf : framesB [] = [] := framesB_stop (by decide)
   rw [hf, List.append_nil] at h1
   refine .inr ⟨(.yield 1, [rL out]), ?_, by simp, by rw [h1]⟩
   simp (disch := first|assumption|omega) only [S0,rA,rQ,rB,rT,rE, t_ne, e0]
  have e0 : (t == []) = false := by simpa using hne
  have hl0 : 0 < t.length := List.length_pos_iff.2 hne
  have es := t_sidx (s := t) (k := 0) (by omega) (by omega)
  have hc : (atI t 0).toNat < 256 := UInt8.toNat_lt _
  have ec : (Prim.conv .i64).run [u8 (atI t 0)] = some [i64 (lenF t : Nat)] := u8_conv (by omega) (by omega)
  have hlf : lenF t < 256 := hc
  cases hok : okF t
  ·have hstop := framesB_stop hok
   rw [hstop, List.append_nil] at h1
   refine .inr ⟨(.yield 1, [rL out]), ?_, by simp, by rw [h1]⟩
   by_cases k200 : 200 < ((lenF t : Nat) : Int)
   ·have d1 : decide (200 < ((lenF t : Nat) : Int)) = true := by simpa using k200
    simp (disch := first|assumption|omega) only [S0,rA,rQ,rB,rT,rE, t_ne, e0, es, ec, d1]
   have d1 : decide (200 < ((lenF t : Nat) : Int)) = false := by simpa using k200
   by_cases k4 : (t.length : Int) < ((lenF t : Nat) : Int) + 4
   ·have d2 : decide ((t.length : Int) < ((lenF t : Nat) : Int) + 4) = true := by simpa using k4
    simp (disch := first|assumption|omega) only [S0,rA,rQ,rB,rT,rE, t_ne, e0, es, ec, d1, t_slen, d2]
   have d2 : decide ((t.length : Int) < ((lenF t : Nat) : Int) + 4) = false := by simpa using k4
   have eb1 := t_ssub (s := t) (lo := 1) (hi := ((lenF t : Nat) : Int) + 1) (by omega) (by omega) (by omega)
   have ep : (t.take (((lenF t : Nat) : Int) + 1).toNat).drop (1 : Int).toNat = payF t := by
    rw [show (((lenF t : Nat) : Int) + 1).toNat = lenF t + 1 by omega]; rfl
   rw [ep] at eb1
   have ef := impl_frame (payF t) (Nat.le_trans payF_len (by omega))
   have eb2 := t_ssub (s := t) (lo := 0) (hi := ((lenF t : Nat) : Int) + 4) (by omega) (by omega) (by omega)
   have ep2 : (t.take (((lenF t : Nat) : Int) + 4).toNat).drop (0 : Int).toNat = t.take (lenF t + 4) := by
    rw [show (((lenF t : Nat) : Int) + 4).toNat = lenF t + 4 by omega]; simp
   rw [ep2] at eb2
   have dn : (frameB (payF t) == t.take (lenF t + 4)) = false := by
    simp only [okF] at hok
    rw [decide_eq_true (show lenF t <= 200 by omega), decide_eq_true (show lenF t + 4 <= t.length by omega)] at hok
    simpa using hok
   simp (disch := first|assumption|omega) only [S0,rA,rQ,rB,rT,rE, t_ne, e0, es, ec, d1, t_slen, d2, eb1, ef, eb2, dn]
  ·obtain ⟨r1, r2⟩ := okF_rng hok
   have d1 : decide (200 < ((lenF t : Nat) : Int)) = false := by simp; omega
   have d2 : decide ((t.length : Int) < ((lenF t : Nat) : Int) + 4) = false := by simp; omega
   have eb1 := t_ssub (s := t) (lo := 1) (hi := ((lenF t : Nat) : Int) + 1) (by omega) (by omega) (by omega)
   have ep : (t.take (((lenF t : Nat) : Int) + 1).toNat).drop (1 : Int).toNat = payF t := by
    rw [show (((lenF t : Nat) : Int) + 1).toNat = lenF t + 1 by omega]; rfl
   rw [ep] at eb1
   have ef := impl_frame (payF t) (Nat.le_trans payF_len (by omega))
   have eb2 := t_ssub (s := t) (lo := 0) (hi := ((lenF t : Nat) : Int) + 4) (by omega) (by omega) (by omega)
   have ep2 : (t.take (((lenF t : Nat) : Int) + 4).toNat).drop (0 : Int).toNat = t.take (lenF t + 4) := by
    rw [show (((lenF t : Nat) : Int) + 4).toNat = lenF t + 4 by omega]; simp
   rw [ep2] at eb2
   have eb3 := t_ssub (s := t) (lo := ((lenF t : Nat) : Int) + 4) (hi := (t.length : Int)) (by omega) (by omega) (by omega)
   have ep3 : (t.take (t.length : Int).toNat).drop (((lenF t : Nat) : Int) + 4).toNat = t.drop (lenF t + 4) := by
    rw [Int.toNat_natCast, List.take_of_length_le (Nat.le_refl _), show (((lenF t : Nat) : Int) + 4).toNat = lenF t + 4 by omega]
   rw [ep3] at eb3
   have dn : (frameB (payF t) == t.take (lenF t + 4)) = true := by
    simp only [okF, Bool.and_eq_true] at hok
    exact hok.2
   have z : out.length + ([payF t] : List (List UInt8)).length <= 100000000000 := by simp only [List.length_cons, List.length_nil]; omega
   refine .inl ⟨(t.drop (lenF t + 4), out ++ [payF t]), ?_, ⟨?_, ?_⟩, ?_⟩
   ·simp (disch := first|assumption|omega) only [S0,rA,rQ,rB,rT,rE, t_ne, e0, es, ec, d1, t_slen, d2, eb1, ef, eb2, dn, S_mk, S_app, eb3]
   ·simp only
    rw [<- h1, framesB_go hok, List.append_assoc]
    rfl
   ·simp only [List.length_append, List.length_cons, List.length_nil, List.length_drop]
    omega
   ·simp only [List.length_drop]
    omega
 obtain ⟨q, rfl, rfl⟩ := key
 simp (disch := first|assumption|omega) only [S0,rA,rQ,rB,rT,rE]
theorem spec_l14Frame (w : List UInt8) (hw : w.length <= 200) : Fun T 30 [.str w] = some [.str (frameB w)] := by
 rw [Fun_k (t := tm30) rfl]; unfold tm30
 have hcv : ∀ k : Int, 0 <= k -> k <= 255 -> (Prim.conv .u8).run [i64 k] = some [.int .u8 k] := by
  intro k h0 h1
  show some [D.int .u8 (IntKind.u8.wrap k)] = _
  have : IntKind.u8.wrap k = k := by simp [IntKind.wrap, IntKind.bits, IntKind.signed]; omega
  rw [this]
 have c1 := hcv (w.length : Int) (by omega) (by omega)
 have ek : (Prim.mk 1 1).run [.int .u8 (w.length : Int)] = some [.rows 1 [[.int .u8 (w.length : Int)]]] := rfl
 have eb : Prim.bstr.run [.rows 1 [[.int .u8 (w.length : Int)]]] = some [.str [UInt8.ofNat w.length]] := by
  show some [D.str [UInt8.ofNat ((w.length : Int)).toNat]] = _
  rw [Int.toNat_natCast]
 have g1 := t_add (a := [UInt8.ofNat w.length]) (b := w) (by simp only [List.length_cons, List.length_nil]; omega)
 have hh : [UInt8.ofNat w.length] ++ w = headF w := rfl
 rw [hh] at g1
 have hl : (headF w).length = w.length + 1 := by simp [headF]
 have hfin : headF w ++ (tailF (sumB (headF w) 7) ++ [1]) = frameB w := by unfold frameB; rw [List.append_assoc]
 simp (disch := first|assumption|omega) only [S0,rA,rQ,rB,rT,rE, t_slen, c1, ek, eb, g1]
 generalize headF w = s at *
 have h0 : (0 : Int) <= 7 := by decide
 have h1 : (7 : Int) < 65521 := by decide
 generalize h7 : (7 : Int) = h at h0 h1
 subst h7
 rw [whileE (.yield 1, [i64 (sumB s 7)]) (fun i : Nat => s.length - i) (fun i : Nat => i <= s.length) (fun i => [i64 (sumB (s.take i) 7), i64 i]) 0 rfl (by simp) (by simp)]
 rotate_left
 ·intro i hi
  by_cases hlt : i < s.length
  ·have d : decide ((i : Int) < (s.length : Int)) = true := by simpa using hlt
   have es := t_sidx (s := s) (k := (i : Int)) (by omega) (by omega)
   have hc : (atI s (i : Int)).toNat < 256 := UInt8.toNat_lt _
   obtain ⟨v0, v1⟩ := sumB_rng (s.take i) 7 h0 h1
   have ec : (Prim.conv .i64).run [u8 (atI s (i : Int))] = some [i64 (((atI s (i : Int)).toNat : Nat) : Int)] := u8_conv (by omega) (by omega)
   have er : (Prim.bin .mul).run [i64 33, i64 (sumB (s.take i) 7)] = some [i64 (33 * sumB (s.take i) 7)] := run_mulI (by omega) (by omega)
   have em : (Prim.bin .rem).run [i64 (33 * sumB (s.take i) 7 + (((atI s (i : Int)).toNat : Nat) : Int)), i64 65521] = some [i64 (sumB (s.take (i + 1)) 7)] := by
    show (if (65521 : Int) = 0 then none else some (D.int .i64 ((33 * sumB (s.take i) 7 + (((atI s (i : Int)).toNat : Nat) : Int)).tmod 65521))).map (fun d => [d]) = _
    rw [if_neg (by decide), Int.tmod_eq_emod_of_nonneg (by omega), <- take_at hlt, sumB_app]
    rfl
   refine .inl ⟨i + 1, ?_, by omega, by omega⟩
   simp (disch := first|assumption|omega) only [S0,rA,rQ,rB,rT,rE, t_slen, d, es, ec, er, em]
  ·have d : decide ((i : Int) < (s.length : Int)) = false := by simpa using hlt
   obtain rfl : i = s.length := by omega
   right
   rw [List.take_of_length_le (Nat.le_refl _)]
   simp (disch := first|assumption|omega) only [S0,rA,rQ,rB,rT,rE, t_slen, d]
 obtain ⟨n0, n1⟩ := sumB_rng s 7 (by decide) (by decide)
 generalize sumB s 7 = x at *
 have eq : (Prim.bin .quo).run [i64 x, i64 256] = some [i64 (x / 256)] := by
  show (if (256 : Int) = 0 then none else some (D.int .i64 (IntKind.i64.wrap (x.tdiv 256)))).map (fun d => [d]) = _
  rw [if_neg (by decide), Int.tdiv_eq_ediv_of_nonneg n0, wrap_i64 (by omega) (by omega)]
  rfl
 have em : (Prim.bin .rem).run [i64 x, i64 256] = some [i64 (x % 256)] := by
  show (if (256 : Int) = 0 then none else some (D.int .i64 (x.tmod 256))).map (fun d => [d]) = _
  rw [if_neg (by decide), Int.tmod_eq_emod_of_nonneg n0]
  rfl
 have c1 := hcv (x / 256) (by omega) (by omega)
 have c2 := hcv (x % 256) (by omega) (by omega)
 have ek : (Prim.mk 1 3).run [.int .u8 (x / 256), .int .u8 (x % 256), .int .u8 1] = some [.rows 1 [[.int .u8 (x / 256)], [.int .u8 (x % 256)], [.int .u8 1]]] := rfl
 have eb : Prim.bstr.run [.rows 1 [[.int .u8 (x / 256)], [.int .u8 (x % 256)], [.int .u8 1]]] = some [.str (tailF x ++ [1])] := rfl
 have htl : (tailF x ++ [1]).length = 3 := rfl
 have g2 := t_add (a := s) (b := tailF x ++ [1]) (by omega)
 simp (disch := first|assumption|omega) only [S0,rA,rQ,rB,rT,rE, eq, em, c1, c2, ek, eb, g2, hfin]
theorem spec_l14Frames (s : List UInt8) (hs : s.length <= 1000000000) : ∃ p : Int, Fun T 29 [.str s] = some [rL (framesB s), i64 p] := by
 rw [Fun_k (t := tm29) rfl]; unfold tm29
 simp (disch := first|assumption|omega) only [S0,rA,rQ,rB,rT,rE]
 generalize hE : Er T (Tm.loop _ _) _ = E
 have key : ∃ q, E = some q /\ ∃ p : Nat, q = (.yield 1, [rL (framesB s), i64 p]) := by
  rw [<- hE]
  refine loopEx (γ := Nat × List (List UInt8)) (fun c => s.length - c.1) (fun c => c.1 <= s.length /\ c.2 ++ framesB (s.drop c.1) = framesB s /\ c.2.length <= c.1) (fun c => [rL c.2, i64 c.1]) _ (0, []) rfl ⟨by simp, by simp, by simp⟩ ?_
  rintro ⟨f, out⟩ ⟨h3, h1, h2⟩
  simp only at h1 h2 h3
  by_cases hlt : f < s.length
  rotate_left
  ·have hd : s.drop f = [] := List.drop_eq_nil_of_le (by omega)
   have hf : framesB [] = [] := framesB_stop (by decide)
   rw [hd, hf, List.append_nil] at h1
   have d : decide ((f : Int) < (s.length : Int)) = false := by simpa using hlt
   refine .inr ⟨(.yield 1, [rL out, i64 f]), ?_, by simp, f, by rw [h1]⟩
   simp (disch := first|assumption|omega) only [S0,rA,rQ,rB,rT,rE, t_slen, d]
  have d : decide ((f : Int) < (s.length : Int)) = true := by simpa using hlt
  have es := t_sidx (s := s) (k := (f : Int)) (by omega) (by omega)
  have hc : (atI s (f : Int)).toNat < 256 := UInt8.toNat_lt _
  have hk := lenF_drop hlt
  have hpay := payF_drop (s := s) (f := f)
  have hcut := cutF_drop (s := s) (f := f) (m := lenF (s.drop f) + 4)
  have htl : (s.drop f).length = s.length - f := List.length_drop
  have ec : (Prim.conv .i64).run [u8 (atI s (f : Int))] = some [i64 (lenF (s.drop f) : Nat)] := by rw [hk]; exact u8_conv (by omega) (by omega)
  rw [<- hk] at hc
  have hdd : s.drop (f + (lenF (s.drop f) + 4)) = (s.drop f).drop (lenF (s.drop f) + 4) := by rw [List.drop_drop]
  generalize s.drop f = t at *
  cases hok : okF t
  ·have hstop := framesB_stop hok
   rw [hstop, List.append_nil] at h1
   refine .inr ⟨(.yield 1, [rL out, i64 f]), ?_, by simp, f, by rw [h1]⟩
   by_cases k200 : 200 < ((lenF t : Nat) : Int)
   ·have d1 : decide (200 < ((lenF t : Nat) : Int)) = true := by simpa using k200
    simp (disch := first|assumption|omega) only [S0,rA,rQ,rB,rT,rE, t_slen, d, es, ec, d1]
   have d1 : decide (200 < ((lenF t : Nat) : Int)) = false := by simpa using k200
   by_cases k4 : (s.length : Int) < (f : Int) + ((lenF t : Nat) : Int) + 4
   ·have d2 : decide ((s.length : Int) < (f : Int) + ((lenF t : Nat) : Int) + 4) = true := by simpa using k4
    simp (disch := first|assumption|omega) only [S0,rA,rQ,rB,rT,rE, t_slen, d, es, ec, d1, d2]
   have d2 : decide ((s.length : Int) < (f : Int) + ((lenF t : Nat) : Int) + 4) = false := by simpa using k4
   have eb1 := t_ssub (s := s) (lo := (f : Int) + 1) (hi := (f : Int) + 1 + ((lenF t : Nat) : Int)) (by omega) (by omega) (by omega)
   have ep : (s.take ((f : Int) + 1 + ((lenF t : Nat) : Int)).toNat).drop ((f : Int) + 1).toNat = payF t := by
    rw [show ((f : Int) + 1 + ((lenF t : Nat) : Int)).toNat = f + 1 + lenF t by omega, show ((f : Int) + 1).toNat = f + 1 by omega]; exact hpay.symm
   rw [ep] at eb1
   have ef := spec_l14Frame (payF t) (Nat.le_trans payF_len (by omega))
   have eb2 := t_ssub (s := s) (lo := (f : Int)) (hi := (f : Int) + ((lenF t : Nat) : Int) + 4) (by omega) (by omega) (by omega)
   have ep2 : (s.take ((f : Int) + ((lenF t : Nat) : Int) + 4).toNat).drop (f : Int).toNat = t.take (lenF t + 4) := by
    rw [show ((f : Int) + ((lenF t : Nat) : Int) + 4).toNat = f + (lenF t + 4) by omega, Int.toNat_natCast]; exact hcut.symm
   rw [ep2] at eb2
   have dn : (frameB (payF t) == t.take (lenF t + 4)) = false := by
    simp only [okF] at hok
    rw [decide_eq_true (show lenF t <= 200 by omega), decide_eq_true (show lenF t + 4 <= t.length by omega)] at hok
    simpa using hok
   simp (disch := first|assumption|omega) only [S0,rA,rQ,rB,rT,rE, t_slen, d, es, ec, d1, d2, eb1, ef, eb2, t_ne, dn]
  ·obtain ⟨r1, r2⟩ := okF_rng hok
   have d1 : decide (200 < ((lenF t : Nat) : Int)) = false := by simp; omega
   have d2 : decide ((s.length : Int) < (f : Int) + ((lenF t : Nat) : Int) + 4) = false := by simp; omega
   have eb1 := t_ssub (s := s) (lo := (f : Int) + 1) (hi := (f : Int) + 1 + ((lenF t : Nat) : Int)) (by omega) (by omega) (by omega)
   have ep : (s.take ((f : Int) + 1 + ((lenF t : Nat) : Int)).toNat).drop ((f : Int) + 1).toNat = payF t := by
    rw [show ((f : Int) + 1 + ((lenF t : Nat) : Int)).toNat = f + 1 + lenF t by omega, show ((f : Int) + 1).toNat = f + 1 by omega]; exact hpay.symm
   rw [ep] at eb1
   have ef := spec_l14Frame (payF t) (Nat.le_trans payF_len (by omega))
   have eb2 := t_ssub (s := s) (lo := (f : Int)) (hi := (f : Int) + ((lenF t : Nat) : Int) + 4) (by omega) (by omega) (by omega)
   have ep2 : (s.take ((f : Int) + ((lenF t : Nat) : Int) + 4).toNat).drop (f : Int).toNat = t.take (lenF t + 4) := by
    rw [show ((f : Int) + ((lenF t : Nat) : Int) + 4).toNat = f + (lenF t + 4) by omega, Int.toNat_natCast]; exact hcut.symm
   rw [ep2] at eb2
   have dn : (frameB (payF t) == t.take (lenF t + 4)) = true := by
    simp only [okF, Bool.and_eq_true] at hok
    exact hok.2
   have z : out.length + ([payF t] : List (List UInt8)).length <= 100000000000 := by simp only [List.length_cons, List.length_nil]; omega
   have ei : (f : Int) + (((lenF t : Nat) : Int) + 4) = ((f + (lenF t + 4) : Nat) : Int) := by omega
   refine .inl ⟨(f + (lenF t + 4), out ++ [payF t]), ?_, ⟨?_, ?_, ?_⟩, ?_⟩
   ·simp (disch := first|assumption|omega) only [S0,rA,rQ,rB,rT,rE, t_slen, d, es, ec, d1, d2, eb1, ef, eb2, t_ne, dn, S_mk, S_app, ei]
   ·simp only
    omega
   ·simp only
    rw [<- h1, hdd, framesB_go hok, List.append_assoc]
    rfl
   ·simp only [List.length_append, List.length_cons, List.length_nil]
    omega
   ·simp only
    omega
 obtain ⟨q, rfl, p, rfl⟩ := key
 refine ⟨p, ?_⟩
 simp (disch := first|assumption|omega) only [S0,rA,rQ,rB,rT,rE]
theorem spec_l14Fold (n : Int) (s : List UInt8) (hg : isGrp n = true) (hs : s.length <= 20000) : Fun T 27 [i64 n, .str s] = some [i64 (fldB n (framesB s) 0 (newT n)).2.n, rL (fldB n (framesB s) 0 (newT n)).2.rows, i64 (fldB n (framesB s) 0 (newT n)).1] := by
 rw [Fun_k (t := tm27) rfl]; unfold tm27
 have hn := isGrp_rng hg
 have e0 := spec_l4New n hg
 obtain ⟨p, ef⟩ := spec_l14Frames s (by omega)
 obtain ⟨hws, hwl⟩ := framesB_mem s
 simp (disch := first|assumption|omega) only [S0,rA,rQ,rB,rT,rE, e0, ef]
 have hfi := fldB_inv hg (framesB s) 0 (newT n) (TInv_new (by omega))
 generalize framesB s = ws at *
 rw [whileE (.yield 1, [i64 (fldB n ws 0 (newT n)).1, i64 n, rL (fldB n ws 0 (newT n)).2.rows]) (fun c : Nat × Int × TTable => ws.length - c.1) (fun c => c.1 <= ws.length /\ TInv n c.2.2 /\ 0 <= c.2.1 /\ c.2.1 <= 1000 * (c.1 : Int) /\ fldB n (ws.drop c.1) c.2.1 c.2.2 = fldB n ws 0 (newT n)) (fun c => [i64 c.2.1, i64 c.1, i64 n, rL c.2.2.rows]) (0, 0, newT n) rfl ⟨by simp, TInv_new (by omega), by simp, by simp, by simp⟩ (by simp)]
 rotate_left
 ·rintro ⟨i, l, t⟩ ⟨h1, hT, h2, h3, h4⟩
  simp only at h1 hT h2 h3 h4
  by_cases hlt : i < ws.length
  ·have d : decide ((i : Int) < (ws.length : Int)) = true := by simpa using hlt
   have hb : InB ws (i : Int) := InB_nat.2 hlt
   have hwl := hws _ (at_mem hlt)
   have e := spec_ReadRow n (atI ws (i : Int)) (by omega)
   rw [drop_cons hlt, fldB] at h4
   cases hok : (readB n (atI ws (i : Int))).2.2.2
   ·rw [hok] at h4 e
    simp only [Bool.false_eq_true, if_false] at h4
    right
    rw [<- h4]
    simp (disch := first|assumption|omega) only [S0,rA,rQ,rB,rT,rE, d, S_row, e]
   ·rw [hok] at h4 e
    simp only [if_true] at h4
    have hi2 := inst_rng (readB_inst hok).2
    have hb2 : InB t.rows (readB n (atI ws (i : Int))).1 := by have := hT.2.1; unfold InB; omega
    have hrl := readB_len (n := n) (s := atI ws (i : Int))
    have est := spec_l4Set n t.rows (readB n (atI ws (i : Int))).1 (readB n (atI ws (i : Int))).2.1 (readB n (atI ws (i : Int))).2.2.1.ballot (readB n (atI ws (i : Int))).2.2.1.vote (readB n (atI ws (i : Int))).2.2.1.state (readB n (atI ws (i : Int))).2.2.1.cmd.kind (readB n (atI ws (i : Int))).2.2.1.cmd.id (readB n (atI ws (i : Int))).2.2.1.cmd.src (readB n (atI ws (i : Int))).2.2.1.cmd.dst (readB n (atI ws (i : Int))).2.2.1.cmd.amt (readB n (atI ws (i : Int))).2.2.1.attr.seq (readB n (atI ws (i : Int))).2.2.1.attr.deps hg hT.2.1 (TInv_sm hT (by omega)) hb2 hi2.2.2.1 (by omega) (by omega)
    have htn : t.n = n := hT.1
    have eta : (⟨n, t.rows⟩ : TTable) = t := by rw [<- htn]
    rw [eta] at est
    have er : (⟨(readB n (atI ws (i : Int))).2.2.1.ballot, (readB n (atI ws (i : Int))).2.2.1.vote, (readB n (atI ws (i : Int))).2.2.1.state, ⟨(readB n (atI ws (i : Int))).2.2.1.cmd.kind, (readB n (atI ws (i : Int))).2.2.1.cmd.id, (readB n (atI ws (i : Int))).2.2.1.cmd.src, (readB n (atI ws (i : Int))).2.2.1.cmd.dst, (readB n (atI ws (i : Int))).2.2.1.cmd.amt⟩, ⟨(readB n (atI ws (i : Int))).2.2.1.attr.seq, (readB n (atI ws (i : Int))).2.2.1.attr.deps⟩⟩ : TRow) = (readB n (atI ws (i : Int))).2.2.1 := rfl
    rw [er] at est
    have hT2 := TInv_set hT (by omega) hb2 hi2.2.2.1 hi2.2.2.2 hrl
    rw [hT2.1] at est
    refine .inl ⟨(i + 1, l + (((atI ws (i : Int)).length : Int) + 4), tset t (readB n (atI ws (i : Int))).1 (readB n (atI ws (i : Int))).2.1 (readB n (atI ws (i : Int))).2.2.1), ?_, ⟨by simp only; omega, hT2, by simp only; omega, by simp only; omega, h4⟩, by simp only; omega⟩
    simp (disch := first|assumption|omega) only [S0,rA,rQ,rB,rT,rE, d, S_row, e, est, t_slen]
  ·have d : decide ((i : Int) < (ws.length : Int)) = false := by simpa using hlt
   have hd : ws.drop i = [] := List.drop_eq_nil_of_le (by omega)
   rw [hd] at h4
   right
   rw [<- h4]
   simp (disch := first|assumption|omega) only [S0,rA,rQ,rB,rT,rE, d]
   rfl
 ·have hfn : (fldB n ws 0 (newT n)).2.n = n := hfi.1
  rw [hfn]
  simp (disch := first|assumption|omega) only [S0,rA,rQ,rB,rT,rE]
theorem impl_FoldLog (n : Int) (s : List UInt8) : Fun T 72 [i64 n, .str s] = some [i64 (fldR n s).1.n, rL (fldR n s).1.rows, i64 (fldR n s).2.1, .bool (fldR n s).2.2] := by
 rw [Fun_k (t := tm72) rfl]; unfold tm72
 unfold fldR
 cases hg : isGrp n
 ·simp (disch := first|assumption|omega) only [S0,rA,rQ,rB,rT,rE, impl_IsGroup, hg]
  rfl
 cases d : decide (20000 < (s.length : Int))
 rotate_left
 ·simp (disch := first|assumption|omega) only [S0,rA,rQ,rB,rT,rE, impl_IsGroup, hg, t_slen, d]
  rfl
 have hs : s.length <= 20000 := by simp only [decide_eq_false_iff_not] at d; omega
 simp only [Bool.not_false, Bool.and_self, if_true]
 have hn := isGrp_rng hg
 have e0 := impl_newTable n hg
 have ef := impl_frames s (by omega)
 obtain ⟨hws, hwl⟩ := framesB_mem s
 simp (disch := first|assumption|omega) only [S0,rA,rQ,rB,rT,rE, impl_IsGroup, hg, t_slen, d, e0, ef]
 have hfi := fldB_inv hg (framesB s) 0 (newT n) (TInv_new (by omega))
 generalize framesB s = ws at *
 rw [whileE (.yield 1, [i64 (fldB n ws 0 (newT n)).1, i64 n, rL (fldB n ws 0 (newT n)).2.rows]) (fun c : Nat × Int × TTable => ws.length - c.1) (fun c => c.1 <= ws.length /\ TInv n c.2.2 /\ 0 <= c.2.1 /\ c.2.1 <= 1000 * (c.1 : Int) /\ fldB n (ws.drop c.1) c.2.1 c.2.2 = fldB n ws 0 (newT n)) (fun c => [i64 c.2.1, i64 c.1, i64 n, rL c.2.2.rows]) (0, 0, newT n) rfl ⟨by simp, TInv_new (by omega), by simp, by simp, by simp⟩ (by simp)]
 rotate_left
 ·rintro ⟨i, l, t⟩ ⟨h1, hT, h2, h3, h4⟩
  simp only at h1 hT h2 h3 h4
  by_cases hlt : i < ws.length
  ·have d : decide ((i : Int) < (ws.length : Int)) = true := by simpa using hlt
   have hb : InB ws (i : Int) := InB_nat.2 hlt
   have hwl := hws _ (at_mem hlt)
   have e := impl_ReadRow n (atI ws (i : Int)) (by omega)
   rw [drop_cons hlt, fldB] at h4
   cases hok : (readB n (atI ws (i : Int))).2.2.2
   ·rw [hok] at h4 e
    simp only [Bool.false_eq_true, if_false] at h4
    right
    rw [<- h4]
    simp (disch := first|assumption|omega) only [S0,rA,rQ,rB,rT,rE, d, S_row, e]
   ·rw [hok] at h4 e
    simp only [if_true] at h4
    have hi2 := inst_rng (readB_inst hok).2
    have hb2 : InB t.rows (readB n (atI ws (i : Int))).1 := by have := hT.2.1; unfold InB; omega
    have hrl := readB_len (n := n) (s := atI ws (i : Int))
    have est := impl_Table_set n t.rows (readB n (atI ws (i : Int))).1 (readB n (atI ws (i : Int))).2.1 (readB n (atI ws (i : Int))).2.2.1.ballot (readB n (atI ws (i : Int))).2.2.1.vote (readB n (atI ws (i : Int))).2.2.1.state (readB n (atI ws (i : Int))).2.2.1.cmd.kind (readB n (atI ws (i : Int))).2.2.1.cmd.id (readB n (atI ws (i : Int))).2.2.1.cmd.src (readB n (atI ws (i : Int))).2.2.1.cmd.dst (readB n (atI ws (i : Int))).2.2.1.cmd.amt (readB n (atI ws (i : Int))).2.2.1.attr.seq (readB n (atI ws (i : Int))).2.2.1.attr.deps hg (TInv_sm hT (by omega)) hb2 hi2.2.2.1 (by omega) (by omega)
    have htn : t.n = n := hT.1
    have eta : (⟨n, t.rows⟩ : TTable) = t := by rw [<- htn]
    rw [eta] at est
    have er : (⟨(readB n (atI ws (i : Int))).2.2.1.ballot, (readB n (atI ws (i : Int))).2.2.1.vote, (readB n (atI ws (i : Int))).2.2.1.state, ⟨(readB n (atI ws (i : Int))).2.2.1.cmd.kind, (readB n (atI ws (i : Int))).2.2.1.cmd.id, (readB n (atI ws (i : Int))).2.2.1.cmd.src, (readB n (atI ws (i : Int))).2.2.1.cmd.dst, (readB n (atI ws (i : Int))).2.2.1.cmd.amt⟩, ⟨(readB n (atI ws (i : Int))).2.2.1.attr.seq, (readB n (atI ws (i : Int))).2.2.1.attr.deps⟩⟩ : TRow) = (readB n (atI ws (i : Int))).2.2.1 := rfl
    rw [er] at est
    have hT2 := TInv_set hT (by omega) hb2 hi2.2.2.1 hi2.2.2.2 hrl
    rw [hT2.1] at est
    refine .inl ⟨(i + 1, l + (((atI ws (i : Int)).length : Int) + 4), tset t (readB n (atI ws (i : Int))).1 (readB n (atI ws (i : Int))).2.1 (readB n (atI ws (i : Int))).2.2.1), ?_, ⟨by simp only; omega, hT2, by simp only; omega, by simp only; omega, h4⟩, by simp only; omega⟩
    simp (disch := first|assumption|omega) only [S0,rA,rQ,rB,rT,rE, d, S_row, e, est, t_slen]
  ·have d : decide ((i : Int) < (ws.length : Int)) = false := by simpa using hlt
   have hd : ws.drop i = [] := List.drop_eq_nil_of_le (by omega)
   rw [hd] at h4
   right
   rw [<- h4]
   simp (disch := first|assumption|omega) only [S0,rA,rQ,rB,rT,rE, d]
   rfl
 ·have hfn : (fldB n ws 0 (newT n)).2.n = n := hfi.1
  rw [hfn]
  simp (disch := first|assumption|omega) only [S0,rA,rQ,rB,rT,rE]
theorem strconv_FormatInt (n : Int) (h0 : 0 <= n) (h1 : n <= 9999) : Fun T 62 [i64 n, i64 10] = some [.str (numT n)] := by
 rw [Fun_ext (e := fmtE) rfl]
 exact fmtE_num h0 h1
theorem strconv_Itoa0 (n : Int) (h0 : 0 <= n) (h1 : n <= 9999) : Fun T 61 [i64 n] = some [.str (numT n)] := by
 rw [Fun_k (t := tm61) rfl]; unfold tm61
 simp (disch := first|assumption|omega) only [S0,rA,rQ,rB,rT,rE, strconv_FormatInt]
theorem strconv_Itoa (n : Int) (h0 : 0 <= n) (h1 : n <= 9999) : Fun T 60 [i64 n] = some [.str (numT n)] := by
 rw [Fun_k (t := tm60) rfl]; unfold tm60
 simp (disch := first|assumption|omega) only [S0,rA,rQ,rB,rT,rE, strconv_Itoa0]
theorem strings_Join (xs : List (List UInt8)) (b : UInt8) (hne : xs ≠ []) (hl : xs.length <= 100000) (hw : ∀ w ∈ xs, w.length <= 10000) : Fun T 65 [rL xs, .str [b]] = some [.str (joinB b xs)] := by
 rw [Fun_ext (e := joinE) rfl]
 exact joinE_B hne hl hw
theorem impl_joined (xs : List Int) (b : UInt8) (hne : xs ≠ []) (hl : xs.length <= 1000) (hr : ∀ x ∈ xs, 0 <= x /\ x <= 9999) : Fun T 59 [.str [b], rL xs] = some [.str (joinB b (xs.map numT))] := by
 rw [Fun_k (t := tm59) rfl]; unfold tm59
 have em0 : (Prim.mk 1 0).run [] = some [rL ([] : List (List UInt8))] := rfl
 simp (disch := first|assumption|omega) only [S0,rA,rQ,rB,rT,rE, em0]
 rw [whileE (.yield 1, [rL (xs.map numT)]) (fun i : Nat => xs.length - i) (fun i : Nat => i <= xs.length) (fun i => [rL ((xs.take i).map numT), i64 i]) 0 rfl (by simp) (by simp)]
 rotate_left
 ·intro i hi
  by_cases hlt : i < xs.length
  ·have d : decide ((i : Int) < (xs.length : Int)) = true := by simpa using hlt
   have hb : InB xs (i : Int) := InB_nat.2 hlt
   have hm := hr _ (at_mem hlt)
   have e := strconv_Itoa (atI xs (i : Int)) hm.1 hm.2
   have z : ((xs.take i).map numT).length + ([numT (atI xs (i : Int))] : List (List UInt8)).length <= 100000000000 := by rw [List.length_map, List.length_take]; simp only [List.length_cons, List.length_nil]; omega
   have e3 : (xs.take i).map numT ++ [numT (atI xs (i : Int))] = (xs.take (i + 1)).map numT := by
    rw [<- take_at hlt]
    simp
   refine .inl ⟨i + 1, ?_, by omega, by omega⟩
   simp (disch := first|assumption|omega) only [S0,rA,rQ,rB,rT,rE, d, S_row, e, S_mk, S_app, e3]
  ·have d : decide ((i : Int) < (xs.length : Int)) = false := by simpa using hlt
   obtain rfl : i = xs.length := by omega
   right
   rw [List.take_of_length_le (Nat.le_refl _)]
   simp (disch := first|assumption|omega) only [S0,rA,rQ,rB,rT,rE, d]
 ·have ej := strings_Join (xs.map numT) b (by simpa using hne) (by rw [List.length_map]; omega) (by
   intro w hw
   obtain ⟨x, h1, rfl⟩ := List.mem_map.1 hw
   exact numT_len (hr x h1).2)
  simp (disch := first|assumption|omega) only [S0,rA,rQ,rB,rT,rE, ej]
theorem impl_spelled (xs : List Int) (hne : xs ≠ []) (hl : xs.length <= 1000) (hr : ∀ x ∈ xs, 0 <= x /\ x <= 9999) : Fun T 58 [rL xs] = some [.str (joinB 32 (xs.map numT))] := by
 rw [Fun_k (t := tm58) rfl]; unfold tm58
 have e := impl_joined xs 32 hne hl hr
 simp (disch := first|assumption|omega) only [S0,rA,rQ,rB,rT,rE, e]
theorem impl_attrText (sq : Int) (xs : List Int) (hne : xs ≠ []) (h0 : 0 <= sq) (h1 : sq <= 9999) (hr : ∀ x ∈ xs, 0 <= x /\ x <= 9999) (hx : xs.length <= 1000) : Fun T 71 [i64 sq, rL xs] = some [.str (attrT ⟨sq, xs⟩)] /\ (attrT ⟨sq, xs⟩).length <= 20000000 := by
 have l1 := numT_len h1
 have l2 : (joinB 44 (xs.map numT)).length <= 10001 * xs.length := by
  have := joinB_len (b := 44) (ws := xs.map numT) (by
   intro w hw
   obtain ⟨x, h1, rfl⟩ := List.mem_map.1 hw
   exact numT_len (hr x h1).2)
  rwa [List.length_map] at this
 refine ⟨?_, by simp only [attrT, List.length_append, List.length_cons]; omega⟩
 rw [Fun_k (t := tm71) rfl]; unfold tm71
 have e := strconv_Itoa sq h0 h1
 have e2 := impl_joined xs 44 hne hx hr
 have g1 := t_add (a := numT sq) (b := [58]) (by simp only [List.length_cons, List.length_nil]; omega)
 have g2 := t_add (a := numT sq ++ [58]) (b := joinB 44 (xs.map numT)) (by simp only [List.length_append, List.length_cons, List.length_nil]; omega)
 have e3 : numT sq ++ [58] ++ joinB 44 (xs.map numT) = attrT ⟨sq, xs⟩ := by simp [attrT]
 simp (disch := first|assumption|omega) only [S0,rA,rQ,rB,rT,rE, e, g1, e2, g2, e3]
theorem impl_cmdText (k i f t a : Int) (h : cmdOk ⟨k, i, f, t, a⟩ = true) : Fun T 70 [i64 k, i64 i, i64 f, i64 t, i64 a] = some [.str (cmdT ⟨k, i, f, t, a⟩)] := by
 rw [Fun_k (t := tm70) rfl]; unfold tm70
 have hr := cmdOk_rng h
 simp only at hr
 obtain ⟨⟨i0, i1⟩, ⟨f0, f1⟩, ⟨t0, t1⟩, a0, a1⟩ := hr
 have li := numT_len i1
 have lf := numT_len f1
 have lt := numT_len t1
 have la := numT_len a1
 have hk := cmdOk_kind h
 simp only at hk
 unfold cmdT
 rcases hk with rfl | rfl | rfl
 ·simp (disch := first|assumption|omega) only [S0,rA,rQ,rB,rT,rE]
 ·have e := impl_spelled [i, f, t, a] (by simp) (by simp) (by
   intro x hx
   simp only [List.mem_cons, List.not_mem_nil, or_false] at hx
   omega)
  have g1 := t_add (a := [109, 111, 118, 101, 32]) (b := joinB 32 ([i, f, t, a].map numT)) (by simp only [List.map_cons, List.map_nil, joinB, List.length_append, List.length_cons, List.length_nil]; omega)
  have e3 : [109, 111, 118, 101, 32] ++ joinB 32 ([i, f, t, a].map numT) = [109, 111, 118, 101, 32] ++ numT i ++ [32] ++ numT f ++ [32] ++ numT t ++ [32] ++ numT a := by simp [joinB]
  simp (disch := first|assumption|omega) only [S0,rA,rQ,rB,rT,rE, S_mk, e, g1, e3]
 ·have e := impl_spelled [i, f] (by simp) (by simp) (by
   intro x hx
   simp only [List.mem_cons, List.not_mem_nil, or_false] at hx
   omega)
  have g1 := t_add (a := [114, 101, 97, 100, 32]) (b := joinB 32 ([i, f].map numT)) (by simp only [List.map_cons, List.map_nil, joinB, List.length_append, List.length_cons, List.length_nil]; omega)
  have e3 : [114, 101, 97, 100, 32] ++ joinB 32 ([i, f].map numT) = [114, 101, 97, 100, 32] ++ numT i ++ [32] ++ numT f := by simp [joinB]
  simp (disch := first|assumption|omega) only [S0,rA,rQ,rB,rT,rE, S_mk, e, g1, e3]
theorem impl_rowText (rep no bal vot sta k i f t a sq : Int) (xs : List Int) (hne : xs ≠ []) (hn : ∀ x ∈ [rep, no, bal, vot, sta], 0 <= x /\ x <= 9999) (hc : cmdOk ⟨k, i, f, t, a⟩ = true) (h1 : 0 <= sq /\ sq <= 9999) (hr : ∀ x ∈ xs, 0 <= x /\ x <= 9999) (hx : xs.length <= 1000) :
  Fun T 57 [i64 rep, i64 no, i64 bal, i64 vot, i64 sta, i64 k, i64 i, i64 f, i64 t, i64 a, i64 sq, rL xs] = some [.str (rowT rep no ⟨bal, vot, sta, ⟨k, i, f, t, a⟩, ⟨sq, xs⟩⟩)] := by
 rw [Fun_k (t := tm57) rfl]; unfold tm57
 have e0 := impl_spelled [rep, no, bal, vot, sta] (by simp) (by simp) hn
 have ec := impl_cmdText k i f t a hc
 obtain ⟨ea, la⟩ := impl_attrText sq xs hne h1.1 h1.2 hr hx
 have lc := cmdT_len hc
 have lA := joinB_len (b := 32) (ws := [rep, no, bal, vot, sta].map numT) (by
  intro w hw
  obtain ⟨x, h1, rfl⟩ := List.mem_map.1 hw
  exact numT_len (hn x h1).2)
 have hfin : joinB 32 ([rep, no, bal, vot, sta].map numT) ++ [124] ++ cmdT ⟨k, i, f, t, a⟩ ++ [124] ++ attrT ⟨sq, xs⟩ = rowT rep no ⟨bal, vot, sta, ⟨k, i, f, t, a⟩, ⟨sq, xs⟩⟩ := by
  simp [rowT, joinB]
 have emk : (Prim.mk 1 5).run [i64 rep, i64 no, i64 bal, i64 vot, i64 sta] = some [rL [rep, no, bal, vot, sta]] := S_mk.2.2.2.2.1
 rw [List.length_map, show [rep, no, bal, vot, sta].length = 5 from rfl] at lA
 generalize joinB 32 ([rep, no, bal, vot, sta].map numT) = A at *
 have g1 := t_add (a := A) (b := [124]) (by simp only [List.length_cons, List.length_nil]; omega)
 have g2 := t_add (a := A ++ [124]) (b := cmdT ⟨k, i, f, t, a⟩) (by simp only [List.length_append, List.length_cons, List.length_nil]; omega)
 have g3 := t_add (a := A ++ [124] ++ cmdT ⟨k, i, f, t, a⟩) (b := [124]) (by simp only [List.length_append, List.length_cons, List.length_nil]; omega)
 have g4 := t_add (a := A ++ [124] ++ cmdT ⟨k, i, f, t, a⟩ ++ [124]) (b := attrT ⟨sq, xs⟩) (by simp only [List.length_append, List.length_cons, List.length_nil]; omega)
 simp (disch := first|assumption|omega) only [S0,rA,rQ,rB,rT,rE, emk, e0, g1, ec, g2, g3, ea, g4, hfin]
theorem impl_RowText (n rep no bal vot sta k i f t a sq : Int) (xs : List Int) (hx : xs.length <= 1099511627776) :
  Fun T 43 [i64 n, i64 rep, i64 no, i64 bal, i64 vot, i64 sta, i64 k, i64 i, i64 f, i64 t, i64 a, i64 sq, rL xs] = some [.str (textR n rep no ⟨bal, vot, sta, ⟨k, i, f, t, a⟩, ⟨sq, xs⟩⟩).1, .bool (textR n rep no ⟨bal, vot, sta, ⟨k, i, f, t, a⟩, ⟨sq, xs⟩⟩).2] := by
 rw [Fun_k (t := tm43) rfl]; unfold tm43
 unfold textR
 cases hi : isGrp n && inst n rep no
 ·simp (disch := first|assumption|omega) only [S0,rA,rQ,rB,rT,rE, impl_isInstance, hi]
 have hg : isGrp n = true := by
  simp only [Bool.and_eq_true] at hi
  exact hi.1
 have hi2 : inst n rep no = true := by
  simp only [Bool.and_eq_true] at hi
  exact hi.2
 have er := impl_goodRow n bal vot sta k i f t a sq xs hg hx
 cases hr : rowOk n ⟨bal, vot, sta, ⟨k, i, f, t, a⟩, ⟨sq, xs⟩⟩
 ·simp (disch := first|assumption|omega) only [S0,rA,rQ,rB,rT,rE, impl_isInstance, hi, er, hr]
 have h1 := inst_rng hi2
 have hn := isGrp_rng hg
 have h2 := rowOk_rng hr
 have h3 := rowOk_cmd hr
 have h4 := attrOk_rng (rowOk_attr hr hg)
 simp only at h2 h3 h4
 have hne : xs ≠ [] := by
  intro e
  rw [e] at h4
  simp only [List.length_nil] at h4
  omega
 have et := impl_rowText rep no bal vot sta k i f t a sq xs hne (by
  intro x hx
  simp only [List.mem_cons, List.not_mem_nil, or_false] at hx
  omega) h3 ⟨h4.1, by omega⟩ (fun x hx => ⟨(h4.2.2.2 x hx).1, by have := (h4.2.2.2 x hx).2; omega⟩) (by omega)
 simp (disch := first|assumption|omega) only [S0,rA,rQ,rB,rT,rE, impl_isInstance, hi, er, hr, et]
theorem spec_AddLog (n : Int) (s : List UInt8) (rep no bal vot sta k i f t a sq : Int) (xs : List Int) (hx : xs.length <= 1099511627776) : Fun T 8 [i64 n, .str s, i64 rep, i64 no, i64 bal, i64 vot, i64 sta, i64 k, i64 i, i64 f, i64 t, i64 a, i64 sq, rL xs] = some [.str (addR n s rep no ⟨bal, vot, sta, ⟨k, i, f, t, a⟩, ⟨sq, xs⟩⟩).1, .bool (addR n s rep no ⟨bal, vot, sta, ⟨k, i, f, t, a⟩, ⟨sq, xs⟩⟩).2] := by
 rw [Fun_k (t := tm8) rfl]; unfold tm8
 have eT := spec_RowText n rep no bal vot sta k i f t a sq xs hx
 unfold addR
 cases ho : (textR n rep no ⟨bal, vot, sta, ⟨k, i, f, t, a⟩, ⟨sq, xs⟩⟩).2
 ·rw [ho] at eT
  simp only [Bool.false_and, Bool.false_eq_true, if_false]
  simp (disch := first|assumption|omega) only [S0,rA,rQ,rB,rT,rE, eT]
 rw [ho] at eT
 have hok : (isGrp n && inst n rep no && rowOk n ⟨bal, vot, sta, ⟨k, i, f, t, a⟩, ⟨sq, xs⟩⟩) = true := by
  unfold textR at ho
  cases h : (isGrp n && inst n rep no && rowOk n ⟨bal, vot, sta, ⟨k, i, f, t, a⟩, ⟨sq, xs⟩⟩)
  ·rw [h] at ho; cases ho
  ·rfl
 have ht : (textR n rep no ⟨bal, vot, sta, ⟨k, i, f, t, a⟩, ⟨sq, xs⟩⟩).1 = rowT rep no ⟨bal, vot, sta, ⟨k, i, f, t, a⟩, ⟨sq, xs⟩⟩ := by
  unfold textR
  rw [hok]
  rfl
 rw [ht] at eT
 simp only [Bool.and_eq_true] at hok
 obtain ⟨⟨hg, hi⟩, hr⟩ := hok
 have hfew := rowT_few hg hi hr
 generalize rowT rep no ⟨bal, vot, sta, ⟨k, i, f, t, a⟩, ⟨sq, xs⟩⟩ = w at *
 cases d1 : decide (20000 < (s.length : Int))
 rotate_left
 ·simp only [Bool.not_true, Bool.and_false, Bool.false_and, Bool.false_eq_true, if_false]
  simp (disch := first|assumption|omega) only [S0,rA,rQ,rB,rT,rE, eT, t_slen, d1]
 have hs : s.length <= 20000 := by simp only [decide_eq_false_iff_not] at d1; omega
 have eF := spec_l14Fold n s hg hs
 have ef := spec_l14Frame w (by omega)
 have hfl := frameB_len (w := w)
 have g1 := t_add (a := s) (b := frameB w) (by omega)
 have el : ((s ++ frameB w).length : Int) = (s.length : Int) + (w.length : Int) + 4 := by rw [List.length_append, hfl]; omega
 cases d2 : decide ((fldB n (framesB s) 0 (newT n)).1 < (s.length : Int))
 ·cases d3 : decide (20000 < (s.length : Int) + (w.length : Int) + 4)
  ·simp only [Bool.not_false, Bool.and_self, if_true]
   simp (disch := first|assumption|omega) only [S0,rA,rQ,rB,rT,rE, eT, t_slen, d1, eF, ef, g1, d2, el, d3]
  ·simp only [Bool.not_true, Bool.and_false, Bool.false_eq_true, if_false]
   simp (disch := first|assumption|omega) only [S0,rA,rQ,rB,rT,rE, eT, t_slen, d1, eF, ef, g1, d2, el, d3]
 ·simp only [Bool.not_true, Bool.and_false, Bool.false_and, Bool.false_eq_true, if_false]
  simp (disch := first|assumption|omega) only [S0,rA,rQ,rB,rT,rE, eT, t_slen, d1, eF, ef, g1, d2]
theorem impl_AddLog (n : Int) (s : List UInt8) (rep no bal vot sta k i f t a sq : Int) (xs : List Int) (hs0 : s.length <= 1000000000) (hx : xs.length <= 1099511627776) : Fun T 42 [i64 n, .str s, i64 rep, i64 no, i64 bal, i64 vot, i64 sta, i64 k, i64 i, i64 f, i64 t, i64 a, i64 sq, rL xs] = some [.str (addR n s rep no ⟨bal, vot, sta, ⟨k, i, f, t, a⟩, ⟨sq, xs⟩⟩).1, .bool (addR n s rep no ⟨bal, vot, sta, ⟨k, i, f, t, a⟩, ⟨sq, xs⟩⟩).2] := by
 rw [Fun_k (t := tm42) rfl]; unfold tm42
 have eT := impl_RowText n rep no bal vot sta k i f t a sq xs hx
 have eF := impl_FoldLog n s
 unfold addR
 cases ho : (textR n rep no ⟨bal, vot, sta, ⟨k, i, f, t, a⟩, ⟨sq, xs⟩⟩).2
 ·rw [ho] at eT
  simp only [Bool.false_and, Bool.false_eq_true, if_false]
  simp (disch := first|assumption|omega) only [S0,rA,rQ,rB,rT,rE, eT, eF]
 rw [ho] at eT
 have hok : (isGrp n && inst n rep no && rowOk n ⟨bal, vot, sta, ⟨k, i, f, t, a⟩, ⟨sq, xs⟩⟩) = true := by
  unfold textR at ho
  cases h : (isGrp n && inst n rep no && rowOk n ⟨bal, vot, sta, ⟨k, i, f, t, a⟩, ⟨sq, xs⟩⟩)
  ·rw [h] at ho; cases ho
  ·rfl
 have ht : (textR n rep no ⟨bal, vot, sta, ⟨k, i, f, t, a⟩, ⟨sq, xs⟩⟩).1 = rowT rep no ⟨bal, vot, sta, ⟨k, i, f, t, a⟩, ⟨sq, xs⟩⟩ := by
  unfold textR
  rw [hok]
  rfl
 rw [ht] at eT
 simp only [Bool.and_eq_true] at hok
 obtain ⟨⟨hg, hi⟩, hr⟩ := hok
 have hfew := rowT_few hg hi hr
 generalize rowT rep no ⟨bal, vot, sta, ⟨k, i, f, t, a⟩, ⟨sq, xs⟩⟩ = w at *
 unfold fldR at eF
 rw [hg] at eF
 cases d1 : decide (20000 < (s.length : Int))
 rotate_left
 ·rw [d1] at eF
  simp only [Bool.not_true, Bool.and_false, Bool.false_and, Bool.false_eq_true, if_false] at eF ⊢
  simp (disch := first|assumption|omega) only [S0,rA,rQ,rB,rT,rE, eT, eF]
 rw [d1] at eF
 have hs : s.length <= 20000 := by simp only [decide_eq_false_iff_not] at d1; omega
 simp only [Bool.not_false, Bool.and_self, if_true] at eF
 have hle := fldB_le (n := n) (framesB s) 0 (newT n)
 have hsum := sumL_frames s
 have ef := impl_frame w (by omega)
 have hfl := frameB_len (w := w)
 have g1 := t_add (a := s) (b := frameB w) (by omega)
 have d4 : decide (200 < (w.length : Int)) = false := by simp; omega
 generalize (fldB n (framesB s) 0 (newT n)).1 = l at *
 have d2 : decide (l < (s.length : Int)) = !(l == (s.length : Int)) := by
  by_cases h : l = (s.length : Int)
  ·rw [h]; simp
  ·have h2 : l < (s.length : Int) := by omega
   rw [decide_eq_true h2, beq_eq_false_iff_ne.2 h]
   rfl
 rw [d2]
 cases d5 : l == (s.length : Int)
 ·simp only [Bool.not_false, Bool.not_true, Bool.and_false, Bool.false_and, Bool.false_eq_true, if_false]
  simp (disch := first|assumption|omega) only [S0,rA,rQ,rB,rT,rE, eT, eF, t_slen, d5]
 ·cases d3 : decide (20000 < (s.length : Int) + (w.length : Int) + 4)
  ·simp only [Bool.not_true, Bool.not_false, Bool.and_self, if_true]
   simp (disch := first|assumption|omega) only [S0,rA,rQ,rB,rT,rE, eT, eF, t_slen, d5, d4, d3, ef, g1]
  ·simp only [Bool.not_true, Bool.not_false, Bool.and_false, Bool.false_eq_true, if_false]
   simp (disch := first|assumption|omega) only [S0,rA,rQ,rB,rT,rE, eT, eF, t_slen, d5, d4, d3]
theorem law (n : Int) (s : List UInt8) (rep : Int) (no : Int) (r_ballot r_vote r_state r_cmd_kind r_cmd_id r_cmd_src r_cmd_dst r_cmd_amt r_attr_seq : Int) (r_attr_deps : (List Int)) (hw_r : wf_TRow ⟨r_ballot, r_vote, r_state, ⟨r_cmd_kind, r_cmd_id, r_cmd_src, r_cmd_dst, r_cmd_amt⟩, ⟨r_attr_seq, r_attr_deps⟩⟩) : Fun T 0 [i64 n, .str s, i64 rep, i64 no, i64 r_ballot, i64 r_vote, i64 r_state, i64 r_cmd_kind, i64 r_cmd_id, i64 r_cmd_src, i64 r_cmd_dst, i64 r_cmd_amt, i64 r_attr_seq, rL r_attr_deps] = some [.bool true] := by
 rw [Fun_k (t := tm0) rfl]; unfold tm0
 by_cases c_s : (1048576 : Int) < (s.length : Int)
 ·have d : decide ((1048576 : Int) < (s.length : Int)) = true := by simpa using c_s
  simp (disch := first|assumption|omega) only [S0,rA,rQ,rB,rT,rE, t_slen, d]
 have d : decide ((1048576 : Int) < (s.length : Int)) = false := by simpa using c_s
 have hs0 : s.length <= 1000000000 := by omega
 by_cases c_r : ((sz_TRow ⟨r_ballot, r_vote, r_state, ⟨r_cmd_kind, r_cmd_id, r_cmd_src, r_cmd_dst, r_cmd_amt⟩, ⟨r_attr_seq, r_attr_deps⟩⟩ : Nat) : Int) <= 1048576
 rotate_left
 ·have e : szR (1048576) (sz_TRow ⟨r_ballot, r_vote, r_state, ⟨r_cmd_kind, r_cmd_id, r_cmd_src, r_cmd_dst, r_cmd_amt⟩, ⟨r_attr_seq, r_attr_deps⟩⟩) = -1 := if_neg c_r
  (refine fork_in ?_; repeat' (refine fork_eq ?_ ?_<;>intro _<;>try simp (disch := first|assumption|omega) only [S0,rA,rQ,rB,rT,rE,t_slen,d,lsz_TRow,lt0,ltm1, *]))
 have e_r : szR (1048576) (sz_TRow ⟨r_ballot, r_vote, r_state, ⟨r_cmd_kind, r_cmd_id, r_cmd_src, r_cmd_dst, r_cmd_amt⟩, ⟨r_attr_seq, r_attr_deps⟩⟩) = 1048576 - ((sz_TRow ⟨r_ballot, r_vote, r_state, ⟨r_cmd_kind, r_cmd_id, r_cmd_src, r_cmd_dst, r_cmd_amt⟩, ⟨r_attr_seq, r_attr_deps⟩⟩ : Nat) : Int) := if_pos c_r
 have s1_r : sz_TRow ⟨r_ballot, r_vote, r_state, ⟨r_cmd_kind, r_cmd_id, r_cmd_src, r_cmd_dst, r_cmd_amt⟩, ⟨r_attr_seq, r_attr_deps⟩⟩ <= 1048576 := by omega
 have s2_r : sz_TRow ⟨r_ballot, r_vote, r_state, ⟨r_cmd_kind, r_cmd_id, r_cmd_src, r_cmd_dst, r_cmd_amt⟩, ⟨r_attr_seq, r_attr_deps⟩⟩ <= 1099511627776 := by omega
 have szu_r := s1_r
 rw [szu_TRow] at szu_r
 simp only at szu_r
 have m1_r_attr_deps : r_attr_deps.length <= 1099511627776 := by first | omega | (have h := s2_r; rw [szL_zero] at h; exact h)
 have m2_r_attr_deps : ctL (fun _ => 1) r_attr_deps <= 1125899906842624 := by have := ctL_le (c := (fun _ => 1)) (f := (fun _ => 0)) (m := 16) (by omega) (fun _ => by simp) r_attr_deps; simp only [szL_zero] at *; omega
 (refine fork_in ?_; repeat' (refine fork_eq ?_ ?_<;>intro _<;>try simp (disch := first|assumption|omega) only [S0,rA,rQ,rB,rT,rE,lsz_TRow,lto_TRow,t_slen,d,spec_AddLog,impl_AddLog,leq_TRow,lt0,ltm1,t_ne, *]))
theorem hpure : ∀ ds, WTs [.int .i64, .str, .int .i64, .int .i64, .int .i64, .int .i64, .int .i64, .int .i64, .int .i64, .int .i64, .int .i64, .int .i64, .int .i64, .sl 8 [.int .i64]] ds -> ∃ n, callN T n 0 ds = some [.bool true] := by
 intro ds h
 simp only [WTs] at h
 obtain ⟨d0, r0, rfl, w0, d1, r1, rfl, w1, d2, r2, rfl, w2, d3, r3, rfl, w3, d4, r4, rfl, w4, d5, r5, rfl, w5, d6, r6, rfl, w6, d7, r7, rfl, w7, d8, r8, rfl, w8, d9, r9, rfl, w9, d10, r10, rfl, w10, d11, r11, rfl, w11, d12, r12, rfl, w12, d13, r13, rfl, w13, rfl⟩ := h
 obtain ⟨n, rfl, hn1, hn2⟩ := WT_int w0
 obtain ⟨s, rfl, hs⟩ := WT_str w1
 obtain ⟨rep, rfl, hrep1, hrep2⟩ := WT_int w2
 obtain ⟨no, rfl, hno1, hno2⟩ := WT_int w3
 obtain ⟨r, e_r, hw_r⟩ := dec_TRow [d4, d5, d6, d7, d8, d9, d10, d11, d12, d13] (by simp only [WTs]; exact ⟨_, _, rfl, w4, _, _, rfl, w5, _, _, rfl, w6, _, _, rfl, w7, _, _, rfl, w8, _, _, rfl, w9, _, _, rfl, w10, _, _, rfl, w11, _, _, rfl, w12, _, _, rfl, w13, rfl⟩)
 simp only [Enc.enc, List.cons.injEq, and_true] at e_r
 obtain ⟨rfl, rfl, rfl, rfl, rfl, rfl, rfl, rfl, rfl, rfl⟩ := e_r
 exact pure_of (law n s rep no (r.ballot) (r.vote) (r.state) (r.cmd.kind) (r.cmd.id) (r.cmd.src) (r.cmd.dst) (r.cmd.amt) (r.attr.seq) (r.attr.deps) hw_r)
end FnExactAddLog
end Go.Proofs.YtnlhnfifkninpaaGreatDoor
