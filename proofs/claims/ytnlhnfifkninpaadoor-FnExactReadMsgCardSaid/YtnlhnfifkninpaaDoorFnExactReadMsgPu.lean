/- What the terms of FnExactReadMsg come to. -/
import Derived.Test.YtnlhnfifkninpaaDoorFnExactReadMsgTab
namespace Go.Proofs.YtnlhnfifkninpaaDoor
namespace FnExactReadMsg
open Go Go.Proofs.YtnlhnfifkninpaaDoor.Rf
open Nat renaming reduceAdd → rA, reduceEqDiff → rQ
open Int renaming reduceBEq → rB, reduceLT → rT, reduceLE → rE
set_option linter.unusedSimpArgs false
set_option linter.unusedVariables false
set_option linter.unnecessarySimpa false
set_option maxHeartbeats 4000000
set_option maxRecDepth 10000
theorem leq_TCmd (x_kind x_id x_src x_dst x_amt : Int) (y_kind y_id y_src y_dst y_amt : Int) : Fun T 60 [i64 x_kind, i64 x_id, i64 x_src, i64 x_dst, i64 x_amt, i64 y_kind, i64 y_id, i64 y_src, i64 y_dst, i64 y_amt] = some [.bool (decide ((⟨x_kind, x_id, x_src, x_dst, x_amt⟩ : TCmd) = ⟨y_kind, y_id, y_src, y_dst, y_amt⟩))] := by
 rw [Fun_k (t := tm60) rfl]; unfold tm60
 have e : decide ((⟨x_kind, x_id, x_src, x_dst, x_amt⟩ : TCmd) = ⟨y_kind, y_id, y_src, y_dst, y_amt⟩) = ((x_kind == y_kind) && (x_id == y_id) && (x_src == y_src) && (x_dst == y_dst) && (x_amt == y_amt)) := by
  simp only [TCmd.mk.injEq, Bool.beq_eq_decide_eq, Bool.decide_and, Bool.and_assoc]
 rw [e]
 (refine fork_in ?_; repeat' (refine fork_eq ?_ ?_<;>intro _<;>try simp (disch := first|assumption|omega) only [S0,rA,rQ,rB,rT,rE, *]))
theorem leq_LI (xs ys : (List Int)) (hs : szL (fun _ => 0) xs <= 1099511627776) : Fun T 62 [rL xs, rL ys] = some [.bool (decide (xs = ys))] := by
 rw [Fun_k (t := tm62) rfl]; unfold tm62
 have hx : xs.length <= 1099511627776 := Nat.le_trans szL_len hs
 by_cases hl : ys.length = xs.length
 ·simp (disch := first|assumption|omega) only [S0,rA,rQ,rB,rT,rE, *]
  rw [scanX 1 xs.length (fun i => decide (atI xs i = atI ys i)) [.bool false], allB_eq hl.symm]
  ·(refine fork_in ?_; repeat' (refine fork_eq ?_ ?_<;>intro _<;>try simp (disch := first|assumption|omega) only [S0,rA,rQ,rB,rT,rE, *]))
  ·intro i hi hp
   have hb : InB xs (i : Int) := InB_nat.2 hi
   have hb' : InB ys (i : Int) := InB_nat.2 (by omega)
   have h2 : decide ((i : Int) < xs.length) = true := by simp; omega
   have h3 : (atI xs i == atI ys i) = true := by simpa using hp
   (refine fork_in ?_; repeat' (refine fork_eq ?_ ?_<;>intro _<;>try simp (disch := first|assumption|omega) only [S0,rA,rQ,rB,rT,rE,S_row, *]))
  ·intro i hi hp
   have hb : InB xs (i : Int) := InB_nat.2 hi
   have hb' : InB ys (i : Int) := InB_nat.2 (by omega)
   have h2 : decide ((i : Int) < xs.length) = true := by simp; omega
   have h3 : (atI xs i == atI ys i) = false := by simpa using hp
   (refine fork_in ?_; repeat' (refine fork_eq ?_ ?_<;>intro _<;>try simp (disch := first|assumption|omega) only [S0,rA,rQ,rB,rT,rE,S_row, *]))
  ·have h2 : decide ((xs.length : Int) < xs.length) = false := by simp
   (refine fork_in ?_; repeat' (refine fork_eq ?_ ?_<;>intro _<;>try simp (disch := first|assumption|omega) only [S0,rA,rQ,rB,rT,rE, *]))
 ·have hl' : ((xs.length : Int) == (ys.length : Int)) = false := by simp; omega
  have e := eq_len (fun h => hl h.symm)
  (refine fork_in ?_; repeat' (refine fork_eq ?_ ?_<;>intro _<;>try simp (disch := first|assumption|omega) only [S0,rA,rQ,rB,rT,rE, *]))
theorem lmk_LI (xs : (List Int)) (k : Int) (hk : 0 <= k) (hb : k + (ctL (fun _ => 1) xs : Nat) <= 1152921504606846976) (hl : xs.length <= 1099511627776) : Fun T 65 [rL xs, i64 k] = some [i64 (k + (ctL (fun _ => 1) xs : Nat)), rL (mkL (fun _ => 1) (fun _ k => k) xs k)] := by
 rw [Fun_k (t := tm65) rfl]; unfold tm65
 have hx : xs.length <= 1099511627776 := hl
 simp (disch := first|assumption|omega) only [S0,rA,rQ,rB,rT,rE, *]
 rw [markLoop xs (fun _ => 1) (fun _ k => k) k rfl rfl rfl hk hb ?_ ?_ (by omega)]
 ·(refine fork_in ?_; repeat' (refine fork_eq ?_ ?_<;>intro _<;>try simp (disch := first|assumption|omega) only [S0,rA,rQ,rB,rT,rE, *]))
 ·intro i ys m hi hy hb hlt hat hm hc hlen
  have hc' : m + 1 <= 1152921504606846976 := hc
  (refine fork_in ?_; repeat' (refine fork_eq ?_ ?_<;>intro _<;>try simp (disch := first|assumption|omega|(simp only [S_upd]; assumption)) only [S0,rA,rQ,rB,rT,rE,S_row,S_set,S_upd, *]))
  rfl
 ·intro ys m hy hlt
  (refine fork_in ?_; repeat' (refine fork_eq ?_ ?_<;>intro _<;>try simp (disch := first|assumption|omega) only [S0,rA,rQ,rB,rT,rE, *]))
theorem lhd_LI (xs : (List Int)) (k : Int) (hk : 0 <= k) (hb : k + (ctL (fun _ => 1) xs : Nat) <= 1152921504606846976) (hl : xs.length <= 1099511627776) : Fun T 68 [rL (mkL (fun _ => 1) (fun _ k => k) xs k), i64 k] = some [i64 (k + (ctL (fun _ => 1) xs : Nat))] := by
 rw [Fun_k (t := tm68) rfl]; unfold tm68
 have hx : xs.length <= 1099511627776 := hl
 simp (disch := first|assumption|omega) only [S0,rA,rQ,rB,rT,rE, *]
 rw [heldLoop xs (fun _ => 1) (fun _ k => k) k rfl hk hb (by omega)]
 ·(refine fork_in ?_; repeat' (refine fork_eq ?_ ?_<;>intro _<;>try simp (disch := first|assumption|omega) only [S0,rA,rQ,rB,rT,rE, *]))
 ·intro i m hi hb hy hlt hat hm hc hlen
  have hc' : m + 1 <= 1152921504606846976 := hc
  (refine fork_in ?_; repeat' (refine fork_eq ?_ ?_<;>intro _<;>try simp (disch := first|assumption|omega) only [S0,rA,rQ,rB,rT,rE,S_row, *]))
  rfl
 ·intro m hy hlt
  (refine fork_in ?_; repeat' (refine fork_eq ?_ ?_<;>intro _<;>try simp (disch := first|assumption|omega) only [S0,rA,rQ,rB,rT,rE, *]))
theorem leq_TAttr (x_seq : Int) (x_deps : (List Int)) (y_seq : Int) (y_deps : (List Int)) (hs : sz_TAttr ⟨x_seq, x_deps⟩ <= 1099511627776) : Fun T 61 [i64 x_seq, rL x_deps, i64 y_seq, rL y_deps] = some [.bool (decide ((⟨x_seq, x_deps⟩ : TAttr) = ⟨y_seq, y_deps⟩))] := by
 rw [Fun_k (t := tm61) rfl]; unfold tm61
 unfold sz_TAttr at hs
 simp only at hs
 have s0 : szL (fun _ => 0) x_deps <= 1099511627776 := by omega
 have e : decide ((⟨x_seq, x_deps⟩ : TAttr) = ⟨y_seq, y_deps⟩) = ((x_seq == y_seq) && decide ((x_deps : (List Int)) = y_deps)) := by
  simp only [TAttr.mk.injEq, Bool.beq_eq_decide_eq, Bool.decide_and, Bool.and_assoc]
 rw [e]
 (refine fork_in ?_; repeat' (refine fork_eq ?_ ?_<;>intro _<;>try simp (disch := first|assumption|omega) only [S0,rA,rQ,rB,rT,rE,leq_LI, *]))
theorem lmk_TAttr (x_seq : Int) (x_deps : (List Int)) (k : Int) (hk : 0 <= k) (hb : k + (ctL (fun _ => 1) x_deps : Nat) <= 1152921504606846976) (hl0 : x_deps.length <= 1099511627776) : Fun T 64 [i64 x_seq, rL x_deps, i64 k] = some [i64 (k + (ctL (fun _ => 1) x_deps : Nat)), rL (mkL (fun _ => 1) (fun _ k => k) x_deps (k))] := by
 rw [Fun_k (t := tm64) rfl]; unfold tm64
 (refine fork_in ?_; repeat' (refine fork_eq ?_ ?_<;>intro _<;>try simp (disch := first|assumption|omega) only [S0,rA,rQ,rB,rT,rE,lmk_LI, *]))
theorem lhd_TAttr (x_seq : Int) (x_deps : (List Int)) (k : Int) (hk : 0 <= k) (hb : k + (ctL (fun _ => 1) x_deps : Nat) <= 1152921504606846976) (hl0 : x_deps.length <= 1099511627776) : Fun T 67 [i64 x_seq, rL (mkL (fun _ => 1) (fun _ k => k) x_deps (k)), i64 k] = some [i64 (k + (ctL (fun _ => 1) x_deps : Nat))] := by
 rw [Fun_k (t := tm67) rfl]; unfold tm67
 have z1 : decide (k + (ctL (fun _ => 1) x_deps : Nat) < 0) = false := by simp; omega
 (refine fork_in ?_; repeat' (refine fork_eq ?_ ?_<;>intro _<;>try simp (disch := first|assumption|omega) only [S0,rA,rQ,rB,rT,rE,lhd_LI, *]))
theorem leq_TMsg (x_kind x_src x_dst x_rep x_no x_ballot x_vote x_state x_cmd_kind x_cmd_id x_cmd_src x_cmd_dst x_cmd_amt x_attr_seq : Int) (x_attr_deps : (List Int)) (y_kind y_src y_dst y_rep y_no y_ballot y_vote y_state y_cmd_kind y_cmd_id y_cmd_src y_cmd_dst y_cmd_amt y_attr_seq : Int) (y_attr_deps : (List Int)) (hs : sz_TMsg ⟨x_kind, x_src, x_dst, x_rep, x_no, x_ballot, x_vote, x_state, ⟨x_cmd_kind, x_cmd_id, x_cmd_src, x_cmd_dst, x_cmd_amt⟩, ⟨x_attr_seq, x_attr_deps⟩⟩ <= 1099511627776) : Fun T 59 [i64 x_kind, i64 x_src, i64 x_dst, i64 x_rep, i64 x_no, i64 x_ballot, i64 x_vote, i64 x_state, i64 x_cmd_kind, i64 x_cmd_id, i64 x_cmd_src, i64 x_cmd_dst, i64 x_cmd_amt, i64 x_attr_seq, rL x_attr_deps, i64 y_kind, i64 y_src, i64 y_dst, i64 y_rep, i64 y_no, i64 y_ballot, i64 y_vote, i64 y_state, i64 y_cmd_kind, i64 y_cmd_id, i64 y_cmd_src, i64 y_cmd_dst, i64 y_cmd_amt, i64 y_attr_seq, rL y_attr_deps] = some [.bool (decide ((⟨x_kind, x_src, x_dst, x_rep, x_no, x_ballot, x_vote, x_state, ⟨x_cmd_kind, x_cmd_id, x_cmd_src, x_cmd_dst, x_cmd_amt⟩, ⟨x_attr_seq, x_attr_deps⟩⟩ : TMsg) = ⟨y_kind, y_src, y_dst, y_rep, y_no, y_ballot, y_vote, y_state, ⟨y_cmd_kind, y_cmd_id, y_cmd_src, y_cmd_dst, y_cmd_amt⟩, ⟨y_attr_seq, y_attr_deps⟩⟩))] := by
 rw [Fun_k (t := tm59) rfl]; unfold tm59
 unfold sz_TMsg at hs
 simp only at hs
 have s0 : sz_TAttr ⟨x_attr_seq, x_attr_deps⟩ <= 1099511627776 := by omega
 have e : decide ((⟨x_kind, x_src, x_dst, x_rep, x_no, x_ballot, x_vote, x_state, ⟨x_cmd_kind, x_cmd_id, x_cmd_src, x_cmd_dst, x_cmd_amt⟩, ⟨x_attr_seq, x_attr_deps⟩⟩ : TMsg) = ⟨y_kind, y_src, y_dst, y_rep, y_no, y_ballot, y_vote, y_state, ⟨y_cmd_kind, y_cmd_id, y_cmd_src, y_cmd_dst, y_cmd_amt⟩, ⟨y_attr_seq, y_attr_deps⟩⟩) = ((x_kind == y_kind) && (x_src == y_src) && (x_dst == y_dst) && (x_rep == y_rep) && (x_no == y_no) && (x_ballot == y_ballot) && (x_vote == y_vote) && (x_state == y_state) && decide ((⟨x_cmd_kind, x_cmd_id, x_cmd_src, x_cmd_dst, x_cmd_amt⟩ : TCmd) = ⟨y_cmd_kind, y_cmd_id, y_cmd_src, y_cmd_dst, y_cmd_amt⟩) && decide ((⟨x_attr_seq, x_attr_deps⟩ : TAttr) = ⟨y_attr_seq, y_attr_deps⟩)) := by
  simp only [TMsg.mk.injEq, Bool.beq_eq_decide_eq, Bool.decide_and, Bool.and_assoc]
 rw [e]
 (refine fork_in ?_; repeat' (refine fork_eq ?_ ?_<;>intro _<;>try simp (disch := first|assumption|omega) only [S0,rA,rQ,rB,rT,rE,leq_TCmd,leq_TAttr, *]))
theorem lmk_TMsg (x_kind x_src x_dst x_rep x_no x_ballot x_vote x_state x_cmd_kind x_cmd_id x_cmd_src x_cmd_dst x_cmd_amt x_attr_seq : Int) (x_attr_deps : (List Int)) (k : Int) (hk : 0 <= k) (hb : k + (ctL (fun _ => 1) x_attr_deps : Nat) <= 1152921504606846976) (hl0 : x_attr_deps.length <= 1099511627776) : Fun T 63 [i64 x_kind, i64 x_src, i64 x_dst, i64 x_rep, i64 x_no, i64 x_ballot, i64 x_vote, i64 x_state, i64 x_cmd_kind, i64 x_cmd_id, i64 x_cmd_src, i64 x_cmd_dst, i64 x_cmd_amt, i64 x_attr_seq, rL x_attr_deps, i64 k] = some [i64 (k + (ctL (fun _ => 1) x_attr_deps : Nat)), rL (mkL (fun _ => 1) (fun _ k => k) x_attr_deps (k))] := by
 rw [Fun_k (t := tm63) rfl]; unfold tm63
 (refine fork_in ?_; repeat' (refine fork_eq ?_ ?_<;>intro _<;>try simp (disch := first|assumption|omega) only [S0,rA,rQ,rB,rT,rE,lmk_LI,lmk_TAttr, *]))
theorem lhd_TMsg (x_kind x_src x_dst x_rep x_no x_ballot x_vote x_state x_cmd_kind x_cmd_id x_cmd_src x_cmd_dst x_cmd_amt x_attr_seq : Int) (x_attr_deps : (List Int)) (k : Int) (hk : 0 <= k) (hb : k + (ctL (fun _ => 1) x_attr_deps : Nat) <= 1152921504606846976) (hl0 : x_attr_deps.length <= 1099511627776) : Fun T 66 [i64 x_kind, i64 x_src, i64 x_dst, i64 x_rep, i64 x_no, i64 x_ballot, i64 x_vote, i64 x_state, i64 x_cmd_kind, i64 x_cmd_id, i64 x_cmd_src, i64 x_cmd_dst, i64 x_cmd_amt, i64 x_attr_seq, rL (mkL (fun _ => 1) (fun _ k => k) x_attr_deps (k)), i64 k] = some [i64 (k + (ctL (fun _ => 1) x_attr_deps : Nat))] := by
 rw [Fun_k (t := tm66) rfl]; unfold tm66
 have z1 : decide (k + (ctL (fun _ => 1) x_attr_deps : Nat) < 0) = false := by simp; omega
 (refine fork_in ?_; repeat' (refine fork_eq ?_ ?_<;>intro _<;>try simp (disch := first|assumption|omega) only [S0,rA,rQ,rB,rT,rE,lhd_LI,lhd_TAttr, *]))
theorem impl_within (x lo up : Int) : Fun T 41 [i64 x, i64 lo, i64 up] = some [.bool (inR x lo up)] := by
 rw [Fun_k (t := tm41) rfl]; unfold tm41; unfold inR
 (refine fork_in ?_; repeat' (refine fork_eq ?_ ?_<;>intro _<;>try simp (disch := first|assumption|omega) only [S0,rA,rQ,rB,rT,rE, *]))
theorem spec_l1In (x lo up : Int) : Fun T 6 [i64 x, i64 lo, i64 up] = some [.bool (inR x lo up)] := by
 rw [Fun_k (t := tm6) rfl]; unfold tm6; unfold inR
 (refine fork_in ?_; repeat' (refine fork_eq ?_ ?_<;>intro _<;>try simp (disch := first|assumption|omega) only [S0,rA,rQ,rB,rT,rE, *]))
theorem impl_IsGroup (n : Int) : Fun T 34 [i64 n] = some [.bool (isGrp n)] := by
 rw [Fun_k (t := tm34) rfl]; unfold tm34; unfold isGrp
 (refine fork_in ?_; repeat' (refine fork_eq ?_ ?_<;>intro _<;>try simp (disch := first|assumption|omega) only [S0,rA,rQ,rB,rT,rE, *]))
theorem spec_IsGroup (n : Int) : Fun T 3 [i64 n] = some [.bool (isGrp n)] := by
 rw [Fun_k (t := tm3) rfl]; unfold tm3; unfold isGrp
 (refine fork_in ?_; repeat' (refine fork_eq ?_ ?_<;>intro _<;>try simp (disch := first|assumption|omega) only [S0,rA,rQ,rB,rT,rE, *]))
theorem impl_isAccount (n : Int) : Fun T 40 [i64 n] = some [.bool (inR n 0 3)] := by
 rw [Fun_k (t := tm40) rfl]; unfold tm40
 (refine fork_in ?_; repeat' (refine fork_eq ?_ ?_<;>intro _<;>try simp (disch := first|assumption|omega) only [S0,rA,rQ,rB,rT,rE,impl_within, *]))
theorem spec_l2Account (n : Int) : Fun T 9 [i64 n] = some [.bool (inR n 0 3)] := by
 rw [Fun_k (t := tm9) rfl]; unfold tm9
 (refine fork_in ?_; repeat' (refine fork_eq ?_ ?_<;>intro _<;>try simp (disch := first|assumption|omega) only [S0,rA,rQ,rB,rT,rE,spec_l1In, *]))
theorem spec_l2Code (k i f t a : Int) : Fun T 8 [i64 k, i64 i, i64 f, i64 t, i64 a] = some [i64 (cmdCode ⟨k, i, f, t, a⟩)] := by
 rw [Fun_k (t := tm8) rfl]; unfold tm8; unfold cmdCode
 (refine fork_in ?_; repeat' (refine fork_eq ?_ ?_<;>intro _<;>try simp (disch := first|assumption|omega) only [S0,rA,rQ,rB,rT,rE,spec_l2Account,spec_l1In, *]))
theorem spec_GoodCmd (k i f t a : Int) : Fun T 20 [i64 k, i64 i, i64 f, i64 t, i64 a] = some [.bool (cmdOk ⟨k, i, f, t, a⟩)] := by
 rw [Fun_k (t := tm20) rfl]; unfold tm20; unfold cmdOk
 (refine fork_in ?_; repeat' (refine fork_eq ?_ ?_<;>intro _<;>try simp (disch := first|assumption|omega) only [S0,rA,rQ,rB,rT,rE,spec_l2Code,S_eqs,cmdCode0, *]))
 all_goals (refine bool_fin ?_; simp only [Bool.and_eq_true, Bool.or_eq_true, Bool.not_eq_true', Bool.not_eq_false', Bool.and_eq_false_iff, Bool.or_eq_false_iff, Bool.false_eq_true, beq_iff_eq, beq_eq_false_iff_ne, decide_eq_true_eq, decide_eq_false_iff_not, ne_eq] at *; grind)
theorem impl_GoodCmd (k i f t a : Int) : Fun T 42 [i64 k, i64 i, i64 f, i64 t, i64 a] = some [.bool (cmdOk ⟨k, i, f, t, a⟩)] := by
 rw [Fun_k (t := tm42) rfl]; unfold tm42; unfold cmdOk
 (refine fork_in ?_; repeat' (refine fork_eq ?_ ?_<;>intro _<;>try simp (disch := first|assumption|omega) only [S0,rA,rQ,rB,rT,rE,impl_within,impl_isAccount,S_eqs, *]))
theorem spec_l3Inst (n rep no : Int) (hg : isGrp n = true) : Fun T 15 [i64 n, i64 rep, i64 no] = some [.bool (inst n rep no)] := by
 rw [Fun_k (t := tm15) rfl]; unfold tm15; unfold inst
 have hn := isGrp_rng hg
 (refine fork_in ?_; repeat' (refine fork_eq ?_ ?_<;>intro _<;>try simp (disch := first|assumption|omega) only [S0,rA,rQ,rB,rT,rE,spec_l1In, *]))
theorem impl_isInstance (n rep no : Int) : Fun T 51 [i64 n, i64 rep, i64 no] = some [.bool (isGrp n && inst n rep no)] := by
 rw [Fun_k (t := tm51) rfl]; unfold tm51; unfold inst
 cases hg : isGrp n
 ·(refine fork_in ?_; repeat' (refine fork_eq ?_ ?_<;>intro _<;>try simp (disch := first|assumption|omega) only [S0,rA,rQ,rB,rT,rE,impl_IsGroup, *]))
 have hn := isGrp_rng hg
 (refine fork_in ?_; repeat' (refine fork_eq ?_ ?_<;>intro _<;>try simp (disch := first|assumption|omega) only [S0,rA,rQ,rB,rT,rE,impl_IsGroup,impl_within, *]))
theorem spec_l1All (xs : List Int) (lo up : Int) (hx : xs.length <= 1099511627776) : Fun T 13 [rL xs, i64 lo, i64 up] = some [.bool (xs.all fun x => inR x lo up)] := by
 rw [Fun_k (t := tm13) rfl]; unfold tm13
 simp (disch := first|assumption|omega) only [S0,rA,rQ,rB,rT,rE, S_row, *]
 rw [allX 1 xs (fun x => inR x lo up) [.bool false]]
 ·(refine fork_in ?_; repeat' (refine fork_eq ?_ ?_<;>intro _<;>try simp (disch := first|assumption|omega) only [S0,rA,rQ,rB,rT,rE, *]))
 ·intro i hi hb hl hp
  (refine fork_in ?_; repeat' (refine fork_eq ?_ ?_<;>intro _<;>try simp (disch := first|assumption|omega) only [S0,rA,rQ,rB,rT,rE,S_row,spec_l1In, *]))
 ·intro i hi hb hl hp
  (refine fork_in ?_; repeat' (refine fork_eq ?_ ?_<;>intro _<;>try simp (disch := first|assumption|omega) only [S0,rA,rQ,rB,rT,rE,S_row,spec_l1In, *]))
 ·intro hl
  (refine fork_in ?_; repeat' (refine fork_eq ?_ ?_<;>intro _<;>try simp (disch := first|assumption|omega) only [S0,rA,rQ,rB,rT,rE, *]))
theorem spec_l3Attr (n s : Int) (xs : List Int) (hx : xs.length <= 1099511627776) : Fun T 12 [i64 n, i64 s, rL xs] = some [.bool (attrOk n ⟨s, xs⟩)] := by
 rw [Fun_k (t := tm12) rfl]; unfold tm12; unfold attrOk
 (refine fork_in ?_; repeat' (refine fork_eq ?_ ?_<;>intro _<;>try simp (disch := first|assumption|omega) only [S0,rA,rQ,rB,rT,rE,spec_l1In,spec_l1All, *]))
theorem impl_GoodAttr_1 (x : Int) : Fun T 49 [i64 x] = some [.bool (!inR x 0 6)] := by
 rw [Fun_k (t := tm49) rfl]; unfold tm49
 (refine fork_in ?_; repeat' (refine fork_eq ?_ ?_<;>intro _<;>try simp (disch := first|assumption|omega) only [S0,rA,rQ,rB,rT,rE,impl_within, *]))
theorem ix_GoodAttr_1  (xs : List Int) (hx : xs.length <= 1099511627776) : Fun T 48 [rL xs] = some [i64 (ixF (fun x => !inR x 0 6) xs)] := by
 rw [Fun_k (t := tm48) rfl]; unfold tm48
 simp (disch := first|assumption|omega) only [S0,rA,rQ,rB,rT,rE, S_row, *]
 rw [findX 1 xs (fun x => !inR x 0 6) (fun i => [i64 i])]
 ·cases h : xs.any (fun x => !inR x 0 6)
  ·have e : ixF (fun x => !inR x 0 6) xs = -1 := by
    have h2 := ixF_any (fun x => !inR x 0 6) xs
    rw [h] at h2
    unfold ixF at h2 ⊢
    split at h2 <;> simp_all
   rw [e]; simp (disch := first|assumption|omega) only [S0,rA,rQ,rB,rT,rE]
  ·simp (disch := first|assumption|omega) only [S0,rA,rQ,rB,rT,rE]
 ·intro i hi hb hl hp
  (refine fork_in ?_; repeat' (refine fork_eq ?_ ?_<;>intro _<;>try simp (disch := first|assumption|omega) only [S0,rA,rQ,rB,rT,rE,S_row,impl_GoodAttr_1, *]))
 ·intro i hi hb hl hp
  (refine fork_in ?_; repeat' (refine fork_eq ?_ ?_<;>intro _<;>try simp (disch := first|assumption|omega) only [S0,rA,rQ,rB,rT,rE,S_row,impl_GoodAttr_1, *]))
 ·intro hl
  (refine fork_in ?_; repeat' (refine fork_eq ?_ ?_<;>intro _<;>try simp (disch := first|assumption|omega) only [S0,rA,rQ,rB,rT,rE, *]))
theorem ct_GoodAttr_1  (xs : List Int) (hx : xs.length <= 1099511627776) : Fun T 47 [rL xs] = some [.bool (xs.any (fun x => !inR x 0 6))] := by
 rw [Fun_k (t := tm47) rfl]; unfold tm47
 (refine fork_in ?_; repeat' (refine fork_eq ?_ ?_<;>intro _<;>try simp (disch := first|assumption|omega) only [S0,rA,rQ,rB,rT,rE,ix_GoodAttr_1,ixF_any, *]))
theorem impl_GoodAttr (n s : Int) (xs : List Int) (hx : xs.length <= 1099511627776) : Fun T 46 [i64 n, i64 s, rL xs] = some [.bool (isGrp n && attrOk n ⟨s, xs⟩)] := by
 rw [Fun_k (t := tm46) rfl]; unfold tm46; unfold attrOk
 have e : xs.any (fun x => !inR x 0 6) = !xs.all fun x => inR x 0 6 := by rw [List.not_all_eq_any_not]
 (refine fork_in ?_; repeat' (refine fork_eq ?_ ?_<;>intro _<;>try simp (disch := first|assumption|omega) only [S0,rA,rQ,rB,rT,rE,impl_IsGroup,impl_within,ct_GoodAttr_1,e,Bool.not_not, *]))
theorem spec_l1Same (xs ys : List Int) (hx : xs.length <= 1099511627776) : Fun T 19 [rL xs, rL ys] = some [.bool (decide (xs = ys))] := by
 rw [Fun_k (t := tm19) rfl]; unfold tm19
 by_cases hl : ys.length = xs.length
 ·simp (disch := first|assumption|omega) only [S0,rA,rQ,rB,rT,rE, *]
  rw [scanX 1 xs.length (fun i => decide (atI xs i = atI ys i)) [.bool false], allB_eq hl.symm]
  ·(refine fork_in ?_; repeat' (refine fork_eq ?_ ?_<;>intro _<;>try simp (disch := first|assumption|omega) only [S0,rA,rQ,rB,rT,rE, *]))
  ·intro i hi hp
   have hb : InB xs (i : Int) := InB_nat.2 hi
   have hb' : InB ys (i : Int) := InB_nat.2 (by omega)
   have h2 : decide ((i : Int) < xs.length) = true := by simp; omega
   have h3 : (atI xs i == atI ys i) = true := by simpa using hp
   (refine fork_in ?_; repeat' (refine fork_eq ?_ ?_<;>intro _<;>try simp (disch := first|assumption|omega) only [S0,rA,rQ,rB,rT,rE,S_row, *]))
  ·intro i hi hp
   have hb : InB xs (i : Int) := InB_nat.2 hi
   have hb' : InB ys (i : Int) := InB_nat.2 (by omega)
   have h2 : decide ((i : Int) < xs.length) = true := by simp; omega
   have h3 : (atI xs i == atI ys i) = false := by simpa using hp
   (refine fork_in ?_; repeat' (refine fork_eq ?_ ?_<;>intro _<;>try simp (disch := first|assumption|omega) only [S0,rA,rQ,rB,rT,rE,S_row, *]))
  ·have h2 : decide ((xs.length : Int) < xs.length) = false := by simp
   (refine fork_in ?_; repeat' (refine fork_eq ?_ ?_<;>intro _<;>try simp (disch := first|assumption|omega) only [S0,rA,rQ,rB,rT,rE, *]))
 ·have hl' : ((xs.length : Int) == (ys.length : Int)) = false := by simp; omega
  have e := eq_len (fun h => hl h.symm)
  (refine fork_in ?_; repeat' (refine fork_eq ?_ ?_<;>intro _<;>try simp (disch := first|assumption|omega) only [S0,rA,rQ,rB,rT,rE, *]))
theorem slices_Equal_int (xs ys : List Int) (hx : xs.length <= 1099511627776) : Fun T 58 [rL xs, rL ys] = some [.bool (decide (xs = ys))] := by
 rw [Fun_k (t := tm58) rfl]; unfold tm58
 by_cases hl : ys.length = xs.length
 ·simp (disch := first|assumption|omega) only [S0,rA,rQ,rB,rT,rE, *]
  rw [scanX 1 xs.length (fun i => decide (atI xs i = atI ys i)) [.bool false], allB_eq hl.symm]
  ·(refine fork_in ?_; repeat' (refine fork_eq ?_ ?_<;>intro _<;>try simp (disch := first|assumption|omega) only [S0,rA,rQ,rB,rT,rE, *]))
  ·intro i hi hp
   have hb : InB xs (i : Int) := InB_nat.2 hi
   have hb' : InB ys (i : Int) := InB_nat.2 (by omega)
   have h2 : decide ((i : Int) < xs.length) = true := by simp; omega
   have h3 : (atI xs i == atI ys i) = true := by simpa using hp
   (refine fork_in ?_; repeat' (refine fork_eq ?_ ?_<;>intro _<;>try simp (disch := first|assumption|omega) only [S0,rA,rQ,rB,rT,rE,S_row, *]))
  ·intro i hi hp
   have hb : InB xs (i : Int) := InB_nat.2 hi
   have hb' : InB ys (i : Int) := InB_nat.2 (by omega)
   have h2 : decide ((i : Int) < xs.length) = true := by simp; omega
   have h3 : (atI xs i == atI ys i) = false := by simpa using hp
   (refine fork_in ?_; repeat' (refine fork_eq ?_ ?_<;>intro _<;>try simp (disch := first|assumption|omega) only [S0,rA,rQ,rB,rT,rE,S_row, *]))
  ·have h2 : decide ((xs.length : Int) < xs.length) = false := by simp
   (refine fork_in ?_; repeat' (refine fork_eq ?_ ?_<;>intro _<;>try simp (disch := first|assumption|omega) only [S0,rA,rQ,rB,rT,rE, *]))
 ·have hl' : ((xs.length : Int) == (ys.length : Int)) = false := by simp; omega
  have e := eq_len (fun h => hl h.symm)
  (refine fork_in ?_; repeat' (refine fork_eq ?_ ?_<;>intro _<;>try simp (disch := first|assumption|omega) only [S0,rA,rQ,rB,rT,rE, *]))
theorem spec_SameAttr (s s' : Int) (xs ys : List Int) (hx : xs.length <= 1099511627776) : Fun T 18 [i64 s, rL xs, i64 s', rL ys] = some [.bool (decide ((⟨s, xs⟩ : TAttr) = ⟨s', ys⟩))] := by
 rw [Fun_k (t := tm18) rfl]; unfold tm18
 have e : decide ((⟨s, xs⟩ : TAttr) = ⟨s', ys⟩) = (s == s' && decide (xs = ys)) := by simp [TAttr.mk.injEq, Bool.beq_eq_decide_eq]
 (refine fork_in ?_; repeat' (refine fork_eq ?_ ?_<;>intro _<;>try simp (disch := first|assumption|omega) only [S0,rA,rQ,rB,rT,rE,spec_l1Same,e, *]))
theorem impl_SameAttr (s s' : Int) (xs ys : List Int) (hx : xs.length <= 1099511627776) : Fun T 57 [i64 s, rL xs, i64 s', rL ys] = some [.bool (decide ((⟨s, xs⟩ : TAttr) = ⟨s', ys⟩))] := by
 rw [Fun_k (t := tm57) rfl]; unfold tm57
 have e : decide ((⟨s, xs⟩ : TAttr) = ⟨s', ys⟩) = (s == s' && decide (xs = ys)) := by simp [TAttr.mk.injEq, Bool.beq_eq_decide_eq]
 (refine fork_in ?_; repeat' (refine fork_eq ?_ ?_<;>intro _<;>try simp (disch := first|assumption|omega) only [S0,rA,rQ,rB,rT,rE,slices_Equal_int,e, *]))
theorem spec_l3None (n : Int) (hg : isGrp n = true) : Fun T 17 [i64 n] = some [i64 (none0 n).seq, rL (none0 n).deps] := by
 rw [Fun_k (t := tm17) rfl]; unfold tm17; unfold none0
 have hn := isGrp_rng hg
 (refine fork_in ?_; repeat' (refine fork_eq ?_ ?_<;>intro _<;>try simp (disch := first|assumption|omega) only [S0,rA,rQ,rB,rT,rE,S_make, *]))
theorem impl_noneAttr (n : Int) (hg : isGrp n = true) : Fun T 56 [i64 n] = some [i64 (none0 n).seq, rL (none0 n).deps] := by
 rw [Fun_k (t := tm56) rfl]; unfold tm56; unfold none0
 have hn := isGrp_rng hg
 (refine fork_in ?_; repeat' (refine fork_eq ?_ ?_<;>intro _<;>try simp (disch := first|assumption|omega) only [S0,rA,rQ,rB,rT,rE,S_make, *]))
theorem spec_l4Row (n bal vot sta k i f t a sq : Int) (xs : List Int) (hg : isGrp n = true) (hx : xs.length <= 1099511627776) :
  Fun T 16 [i64 n, i64 bal, i64 vot, i64 sta, i64 k, i64 i, i64 f, i64 t, i64 a, i64 sq, rL xs] = some [.bool (rowOk n ⟨bal, vot, sta, ⟨k, i, f, t, a⟩, ⟨sq, xs⟩⟩)] := by
 rw [Fun_k (t := tm16) rfl]; unfold tm16; unfold rowOk
 (refine fork_in ?_; repeat' (refine fork_eq ?_ ?_<;>intro _<;>try simp (disch := first|assumption|omega) only [S0,rA,rQ,rB,rT,rE,spec_l1In,S_eqs,spec_l3None,spec_SameAttr,spec_GoodCmd,spec_l3Attr, *]))
theorem impl_goodRow (n bal vot sta k i f t a sq : Int) (xs : List Int) (hg : isGrp n = true) (hx : xs.length <= 1099511627776) :
  Fun T 55 [i64 n, i64 bal, i64 vot, i64 sta, i64 k, i64 i, i64 f, i64 t, i64 a, i64 sq, rL xs] = some [.bool (rowOk n ⟨bal, vot, sta, ⟨k, i, f, t, a⟩, ⟨sq, xs⟩⟩)] := by
 rw [Fun_k (t := tm55) rfl]; unfold tm55; unfold rowOk
 have h1 := @cmdZ_ok ⟨k, i, f, t, a⟩
 have h2 := none0_ok hg
 have h3 : decide ((⟨sq, xs⟩ : TAttr) = none0 n) = true -> attrOk n ⟨sq, xs⟩ = true := fun h => by rw [of_decide_eq_true h]; exact h2
 (refine fork_in ?_; repeat' (refine fork_eq ?_ ?_<;>intro _<;>try simp (disch := first|assumption|omega) only [S0,rA,rQ,rB,rT,rE,impl_within,S_eqs,impl_noneAttr,impl_SameAttr,impl_GoodCmd,impl_GoodAttr, *]))
 all_goals (refine bool_fin ?_; simp only [Bool.and_eq_true, Bool.or_eq_true, Bool.not_eq_true', Bool.not_eq_false', Bool.and_eq_false_iff, Bool.or_eq_false_iff, Bool.false_eq_true, beq_iff_eq, beq_eq_false_iff_ne, decide_eq_true_eq, decide_eq_false_iff_not, ne_eq] at *; grind)
theorem slices_Clone_int (xs : List Int) (hx : xs.length <= 10000000000) : Fun T 54 [rL xs] = some [rL xs] := by
 rw [Fun_ext (e := ex54) rfl]
 cases xs with
 | nil => rfl
 | cons x xs =>
  show Fun (entTab [(54, .tm tm54)]) 54 [rL (x :: xs)] = _
  rw [Fun_k (t := tm54) rfl]
  unfold tm54
  have hx' : (x :: xs).length <= 100000000000 := by omega
  have h0 : (Prim.mk 1 0).run [] = some [.rows 1 []] := rfl
  have h1 : (x :: xs).isEmpty = false := rfl
  simp (disch := first | assumption | omega) only [SA, SB, SC, SP, SQ, SZ, reduceIte, reduceCtorEq, Nat.reduceAdd, Nat.reduceEqDiff, rL_ne, rL_emp, h0, h1, S_app]
theorem impl_Attr_copied (s : Int) (xs : List Int) (hx : xs.length <= 10000000000) : Fun T 53 [i64 s, rL xs] = some [i64 s, rL xs] := by
 rw [Fun_k (t := tm53) rfl]; unfold tm53
 (refine fork_in ?_; repeat' (refine fork_eq ?_ ?_<;>intro _<;>try simp (disch := first|assumption|omega) only [S0,rA,rQ,rB,rT,rE,slices_Clone_int, *]))
theorem impl_Msg_row (m_kind m_src m_dst m_rep m_no m_ballot m_vote m_state m_cmd_kind m_cmd_id m_cmd_src m_cmd_dst m_cmd_amt m_attr_seq : Int) (m_attr_deps : (List Int)) (hx : m_attr_deps.length <= 10000000000) : Fun T 52 [i64 m_kind, i64 m_src, i64 m_dst, i64 m_rep, i64 m_no, i64 m_ballot, i64 m_vote, i64 m_state, i64 m_cmd_kind, i64 m_cmd_id, i64 m_cmd_src, i64 m_cmd_dst, i64 m_cmd_amt, i64 m_attr_seq, rL m_attr_deps] = some [i64 m_ballot, i64 m_vote, i64 m_state, i64 m_cmd_kind, i64 m_cmd_id, i64 m_cmd_src, i64 m_cmd_dst, i64 m_cmd_amt, i64 m_attr_seq, rL m_attr_deps] := by
 rw [Fun_k (t := tm52) rfl]; unfold tm52
 (refine fork_in ?_; repeat' (refine fork_eq ?_ ?_<;>intro _<;>try simp (disch := first|assumption|omega) only [S0,rA,rQ,rB,rT,rE,impl_Attr_copied, *]))
theorem spec_GoodMsg (n : Int) (m_kind m_src m_dst m_rep m_no m_ballot m_vote m_state m_cmd_kind m_cmd_id m_cmd_src m_cmd_dst m_cmd_amt m_attr_seq : Int) (m_attr_deps : (List Int)) (hx : m_attr_deps.length <= 10000000000) : Fun T 14 [i64 n, i64 m_kind, i64 m_src, i64 m_dst, i64 m_rep, i64 m_no, i64 m_ballot, i64 m_vote, i64 m_state, i64 m_cmd_kind, i64 m_cmd_id, i64 m_cmd_src, i64 m_cmd_dst, i64 m_cmd_amt, i64 m_attr_seq, rL m_attr_deps] = some [.bool (msgOk n ⟨m_kind, m_src, m_dst, m_rep, m_no, m_ballot, m_vote, m_state, ⟨m_cmd_kind, m_cmd_id, m_cmd_src, m_cmd_dst, m_cmd_amt⟩, ⟨m_attr_seq, m_attr_deps⟩⟩)] := by
 rw [Fun_k (t := tm14) rfl]; unfold tm14; unfold msgOk
 have hx' : m_attr_deps.length <= 1099511627776 := by omega
 cases hg : isGrp n
 ·(refine fork_in ?_; repeat' (refine fork_eq ?_ ?_<;>intro _<;>try simp (disch := first|assumption|omega) only [S0,rA,rQ,rB,rT,rE,spec_IsGroup, *]))
 have hn := isGrp_rng hg
 (refine fork_in ?_; repeat' (refine fork_eq ?_ ?_<;>intro _<;>try simp (disch := first|assumption|omega) only [S0,rA,rQ,rB,rT,rE,spec_IsGroup,spec_l1In,spec_l3Inst,spec_l4Row,spec_l3Attr,spec_GoodCmd,S_eqs,spec_l3None,spec_SameAttr, *]))
 all_goals (refine bool_fin ?_; simp only [Bool.and_eq_true, Bool.or_eq_true, Bool.not_eq_true', Bool.not_eq_false', Bool.and_eq_false_iff, Bool.or_eq_false_iff, Bool.false_eq_true, beq_iff_eq, beq_eq_false_iff_ne, decide_eq_true_eq, decide_eq_false_iff_not, ne_eq] at *; grind)
theorem impl_GoodMsg (n : Int) (m_kind m_src m_dst m_rep m_no m_ballot m_vote m_state m_cmd_kind m_cmd_id m_cmd_src m_cmd_dst m_cmd_amt m_attr_seq : Int) (m_attr_deps : (List Int)) (hx : m_attr_deps.length <= 10000000000) : Fun T 50 [i64 n, i64 m_kind, i64 m_src, i64 m_dst, i64 m_rep, i64 m_no, i64 m_ballot, i64 m_vote, i64 m_state, i64 m_cmd_kind, i64 m_cmd_id, i64 m_cmd_src, i64 m_cmd_dst, i64 m_cmd_amt, i64 m_attr_seq, rL m_attr_deps] = some [.bool (msgOk n ⟨m_kind, m_src, m_dst, m_rep, m_no, m_ballot, m_vote, m_state, ⟨m_cmd_kind, m_cmd_id, m_cmd_src, m_cmd_dst, m_cmd_amt⟩, ⟨m_attr_seq, m_attr_deps⟩⟩)] := by
 rw [Fun_k (t := tm50) rfl]; unfold tm50; unfold msgOk
 have hx' : m_attr_deps.length <= 1099511627776 := by omega
 cases hg : isGrp n
 ·(refine fork_in ?_; repeat' (refine fork_eq ?_ ?_<;>intro _<;>try simp (disch := first|assumption|omega) only [S0,rA,rQ,rB,rT,rE,impl_isInstance,impl_within, *]))
 have hn := isGrp_rng hg
 have hk : inR m_kind 1 7 = true -> 1 <= m_kind /\ m_kind <= 7 := by simp [inR]
 (refine fork_in ?_; repeat' (refine fork_eq ?_ ?_<;>intro _<;>try simp (disch := first|assumption|omega) only [S0,rA,rQ,rB,rT,rE,impl_isInstance,impl_within,impl_Msg_row,impl_goodRow,impl_GoodAttr,impl_GoodCmd,S_eqs,impl_noneAttr,impl_SameAttr, *]))
 all_goals (refine bool_fin ?_; simp only [Bool.and_eq_true, Bool.or_eq_true, Bool.not_eq_true', Bool.not_eq_false', Bool.and_eq_false_iff, Bool.or_eq_false_iff, Bool.false_eq_true, beq_iff_eq, beq_eq_false_iff_ne, decide_eq_true_eq, decide_eq_false_iff_not, ne_eq] at *; grind)
theorem spec_l1Split (s : List UInt8) (b : UInt8) (hs : s.length <= 1000000000) : Fun T 2 [.str s, u8 b] = some [rL (splitB b s)] := by
 rw [Fun_k (t := tm2) rfl]; unfold tm2
 simp (disch := first|assumption|omega) only [S0,rA,rQ,rB,rT,rE]
 generalize hE : Er T (Tm.loop _ _) _ = E
 have key : ∃ q, E = some q /\ ∃ (out : List (List UInt8)) (f : Nat), q = (.yield 1, [rL out, i64 f]) /\ f <= s.length /\ out ++ splitB b (s.drop f) = splitB b s /\ b ∉ s.drop f /\ out.length <= s.length := by
  rw [<- hE]
  refine loopEx (γ := Nat × Nat × List (List UInt8)) (fun c => s.length - c.1) (fun c => c.2.1 <= c.1 /\ c.1 <= s.length /\ c.2.2 ++ splitB b (s.drop c.2.1) = splitB b s /\ b ∉ (s.take c.1).drop c.2.1 /\ c.2.2.length <= c.1) (fun c => [rL c.2.2, i64 c.2.1, i64 c.1]) _ (0, 0, []) rfl (by simp) ?_
  rintro ⟨i, f, out⟩ ⟨h1, h2, h3, h4, h5⟩
  simp only at h1 h2 h3 h4 h5
  by_cases hi : i < s.length
  ·have d : decide ((i : Int) < (s.length : Int)) = true := by simpa using hi
   have hx : (i : Int) < (s.length : Int) := by omega
   have hx0 : (0 : Int) <= i := by omega
   have es := t_sidx (s := s) (k := (i : Int)) hx0 hx
   have eds := drop_split (s := s) h1 hi
   left
   by_cases hc : atI s (i : Int) = b
   ·have ec : (atI s (i : Int) == b) = true := by simpa using hc
    have eb := t_ssub (s := s) (lo := (f : Int)) (hi := (i : Int)) (by omega) (by omega) (by omega)
    rw [Int.toNat_natCast, Int.toNat_natCast] at eb
    have z : out.length + ([(s.take i).drop f] : List (List UInt8)).length <= 100000000000 := by simp only [List.length_cons, List.length_nil]; omega
    refine ⟨(i + 1, i + 1, out ++ [(s.take i).drop f]), ?_, ⟨by simp only; omega, by simp only; omega, ?_, by simp, by simp; omega⟩, by simp only; omega⟩
    ·simp (disch := first|assumption|omega) only [S0,rA,rQ,rB,rT,rE, t_slen, d, es, u8_eq, ec, eb, S_mk, S_app]
    ·simp only
     rw [<- h3, eds, hc, splitB_app _ h4, List.append_assoc]
     rfl
   ·have ec : (atI s (i : Int) == b) = false := by simpa using hc
    refine ⟨(i + 1, f, out), ?_, ⟨by simp only; omega, by simp only; omega, h3, ?_, by simp only; omega⟩, by simp only; omega⟩
    ·simp (disch := first|assumption|omega) only [S0,rA,rQ,rB,rT,rE, t_slen, d, es, u8_eq, ec]
    ·simp only
     rw [take_drop_succ h1 hi]
     simp only [List.mem_append, List.mem_singleton, not_or]
     exact ⟨h4, fun e => hc e.symm⟩
  ·have d : decide ((i : Int) < (s.length : Int)) = false := by simpa using hi
   refine .inr ⟨(.yield 1, [rL out, i64 f]), ?_, by simp, out, f, rfl, by omega, h3, ?_, by omega⟩
   ·simp (disch := first|assumption|omega) only [S0,rA,rQ,rB,rT,rE, t_slen, d]
   ·rw [List.take_of_length_le (by omega)] at h4
    exact h4
 obtain ⟨q, rfl, out, f, rfl, h1, h2, h3, h4⟩ := key
 have eb := t_ssub (s := s) (lo := (f : Int)) (hi := (s.length : Int)) (by omega) (by omega) (by omega)
 rw [Int.toNat_natCast, Int.toNat_natCast, List.take_of_length_le (Nat.le_refl _)] at eb
 have z : out.length + ([s.drop f] : List (List UInt8)).length <= 100000000000 := by simp only [List.length_cons, List.length_nil]; omega
 have e : out ++ [s.drop f] = splitB b s := by rw [<- h2, splitB_no h3]
 simp (disch := first|assumption|omega) only [S0,rA,rQ,rB,rT,rE, t_slen, eb, S_mk, S_app, e]
theorem countString (s : List UInt8) (b : UInt8) : Fun T 29 [.str s, u8 b] = some [i64 (s.count b : Nat)] := by
 rw [Fun_ext (e := cntE) rfl]
 exact cntE_u8
theorem indexByteString (s : List UInt8) (b : UInt8) : Fun T 33 [.str s, u8 b] = some [i64 (Lib.indexByte s b)] := by
 rw [Fun_ext (e := ixE) rfl]
 exact ixE_u8
theorem lite_IndexByte (s : List UInt8) (b : UInt8) : Fun T 32 [.str s, u8 b] = some [i64 (Lib.indexByte s b)] := by
 rw [Fun_k (t := tm32) rfl]; unfold tm32
 simp (disch := first|assumption|omega) only [S0,rA,rQ,rB,rT,rE, indexByteString]
theorem strings_Count (s : List UInt8) (b : UInt8) : Fun T 28 [.str s, .str [b]] = some [i64 (s.count b : Nat)] := by
 rw [Fun_k (t := tm28) rfl]; unfold tm28
 have e1 : Prim.slen.run [.str [b]] = some [i64 1] := rfl
 have e2 : Prim.sidx.run [.str [b], i64 0] = some [u8 b] := rfl
 simp (disch := first|assumption|omega) only [S0,rA,rQ,rB,rT,rE, e1, e2, countString]
theorem lite_Index (s : List UInt8) (b : UInt8) : Fun T 31 [.str s, .str [b]] = some [i64 (Lib.indexByte s b)] := by
 rw [Fun_k (t := tm31) rfl]; unfold tm31
 have e1 : Prim.slen.run [.str [b]] = some [i64 1] := rfl
 have e2 : Prim.sidx.run [.str [b], i64 0] = some [u8 b] := rfl
 cases e : ([b] : List UInt8) == s
 ·simp (disch := first|assumption|omega) only [S0,rA,rQ,rB,rT,rE, e1, e2, t_eq, e, lite_IndexByte]
 ·have hs : s = [b] := (show [b] = s by simpa using e).symm
  have hi : Lib.indexByte s b = 0 := by rw [hs]; unfold Lib.indexByte; simp
  rw [hi]
  simp (disch := first|assumption|omega) only [S0,rA,rQ,rB,rT,rE, e1, t_eq, e]
theorem strings_Index (s : List UInt8) (b : UInt8) : Fun T 30 [.str s, .str [b]] = some [i64 (Lib.indexByte s b)] := by
 rw [Fun_k (t := tm30) rfl]; unfold tm30
 simp (disch := first|assumption|omega) only [S0,rA,rQ,rB,rT,rE, lite_Index]
theorem strings_genSplit (s : List UInt8) (b : UInt8) (hs : s.length <= 1000000000) : Fun T 23 [.str s, .str [b], i64 0, i64 (-1)] = some [rL (splitB b s)] := by
 rw [Fun_k (t := tm23) rfl]; unfold tm23
 have e0 : (([b] : List UInt8) == []) = false := rfl
 have hcl : s.count b <= s.length := List.count_le_length
 have hmin : min ((s.count b : Nat) + 1 : Int) ((s.length : Int) + 1) = ((s.count b : Nat) : Int) + 1 := by omega
 have emk : (Prim.make 16 [(.str [])]).run [i64 (((s.count b : Nat) : Int) + 1)] = some [rL (List.replicate (s.count b + 1) ([] : List UInt8))] := by
  have := S_make.2.1 (n := ((s.count b : Nat) : Int) + 1) (by omega) (by omega)
  rw [this]
  congr
 have ea : ((s.count b : Nat) : Int) + 1 - 1 = ((s.count b : Nat) : Int) := by omega
 simp (disch := first|assumption|omega) only [S0,rA,rQ,rB,rT,rE, t_eq, e0, strings_Count, t_slen, hmin, emk, ea]
 generalize hE : Er T (Tm.loop _ _) _ = E
 have key : ∃ q, E = some q /\ ∃ (r : List UInt8) (a : List (List UInt8)), q = (.yield 1, [.str r, rL a, i64 (s.count b : Nat)]) /\ a.length = s.count b + 1 /\ b ∉ r /\ a.take (s.count b) ++ splitB b r = splitB b s := by
  rw [<- hE]
  refine loopEx (γ := Nat × List UInt8 × List (List UInt8)) (fun c => s.count b - c.1) (fun c => c.1 <= s.count b /\ c.2.2.length = s.count b + 1 /\ c.2.1.count b + c.1 = s.count b /\ c.2.1.length <= s.length /\ c.2.2.take c.1 ++ splitB b c.2.1 = splitB b s) (fun c => [.str c.2.1, rL c.2.2, i64 c.1]) _ (0, s, List.replicate (s.count b + 1) []) rfl (by simp) ?_
  rintro ⟨i, r, a⟩ ⟨h1, h2, h3, h4, h5⟩
  simp only at h1 h2 h3 h4 h5
  by_cases hi : i < s.count b
  ·have d : decide ((i : Int) < ((s.count b : Nat) : Int)) = true := by simpa using hi
   have hm : b ∈ r := List.count_pos_iff.1 (by omega)
   obtain ⟨p, t, hr, hp, hix⟩ := ix_some hm
   have hbi : InB a (i : Int) := by unfold InB; omega
   have d2 : decide ((p.length : Int) < 0) = false := by simp
   have hrl : r.length = p.length + t.length + 1 := by rw [hr]; simp; omega
   have ea0 : (p.length : Int) + 0 = p.length := by omega
   have es1 := t_ssub (s := r) (lo := 0) (hi := (p.length : Int)) (by omega) (by omega) (by omega)
   have es2 := t_ssub (s := r) (lo := (p.length : Int) + 1) (hi := (r.length : Int)) (by omega) (by omega) (by omega)
   have et1 : (r.take (p.length : Int).toNat).drop (0 : Int).toNat = p := by
    rw [Int.toNat_natCast, hr]; simp
   have et2 : (r.take (r.length : Int).toNat).drop ((p.length : Int) + 1).toNat = t := by
    rw [Int.toNat_natCast, List.take_of_length_le (Nat.le_refl _), show ((p.length : Int) + 1).toNat = p.length + 1 by omega, hr]
    rw [List.drop_append]
    simp
   rw [et1] at es1
   rw [et2] at es2
   have eb1 : Prim.slen.run [.str [b]] = some [i64 1] := rfl
   have hcr : r.count b = t.count b + 1 := by
    rw [hr, List.count_append, List.count_cons_self, List.count_eq_zero.2 hp]
    omega
   refine .inl ⟨(i + 1, t, setI a (i : Int) p), ?_, ⟨by simp only; omega, by simp only [setI_len]; omega, by simp only; omega, by simp only; omega, ?_⟩, by simp only; omega⟩
   ·simp (disch := first|assumption|omega) only [S0,rA,rQ,rB,rT,rE, d, strings_Index, hix, d2, ea0, es1, S_set, eb1, t_slen, es2]
   ·simp only
    have e6 : (setI a (i : Int) p).take (i + 1) = a.take i ++ [p] := by
     have hl : i < (setI a (i : Int) p).length := by rw [setI_len]; omega
     rw [<- take_at hl]
     have e7 : atI (setI a (i : Int) p) (i : Int) = p := S_upd.1 hbi
     rw [e7]
     congr 1
     unfold setI
     rw [Int.toNat_natCast, List.take_set_of_le (Nat.le_refl _)]
    rw [e6, List.append_assoc, <- h5, hr, splitB_app _ hp]
    rfl
  ·have d : decide ((i : Int) < ((s.count b : Nat) : Int)) = false := by simpa using hi
   obtain rfl : i = s.count b := by omega
   refine .inr ⟨(.yield 1, [.str r, rL a, i64 (s.count b : Nat)]), ?_, by simp, r, a, rfl, h2, List.count_eq_zero.1 (by omega), h5⟩
   simp (disch := first|assumption|omega) only [S0,rA,rQ,rB,rT,rE, d]
 obtain ⟨q, rfl, r, a, rfl, h1, h2, h3⟩ := key
 have hb : InB a ((s.count b : Nat) : Int) := by unfold InB; omega
 have hl : s.count b < (setI a ((s.count b : Nat) : Int) r).length := by rw [setI_len]; omega
 have hll : ((s.count b : Nat) : Int) + 1 <= ((setI a ((s.count b : Nat) : Int) r).length : Int) := by omega
 have e6 : ((setI a ((s.count b : Nat) : Int) r).take (((s.count b : Nat) : Int) + 1).toNat).drop (0 : Int).toNat = splitB b s := by
  rw [show (((s.count b : Nat) : Int) + 1).toNat = s.count b + 1 by omega]
  rw [<- take_at hl]
  have e7 : atI (setI a ((s.count b : Nat) : Int) r) ((s.count b : Nat) : Int) = r := S_upd.1 hb
  rw [e7, <- h3, splitB_no h2]
  simp only [Int.toNat_zero, List.drop_zero]
  congr 1
  unfold setI
  rw [Int.toNat_natCast, List.take_set_of_le (Nat.le_refl _)]
 simp (disch := first|assumption|omega) only [S0,rA,rQ,rB,rT,rE, S_set, S_sub, e6]
theorem strings_Split (s : List UInt8) (b : UInt8) (hs : s.length <= 1000000000) : Fun T 22 [.str s, .str [b]] = some [rL (splitB b s)] := by
 rw [Fun_k (t := tm22) rfl]; unfold tm22
 simp (disch := first|assumption|omega) only [S0,rA,rQ,rB,rT,rE, strings_genSplit]
theorem impl_digits (s : List UInt8) (most : Int) (hm : 0 <= most) (hm2 : most <= 9) (hs : s.length <= 1000000000) : Fun T 38 [.str s, i64 most] = some [i64 (digM s most)] := by
 rw [Fun_k (t := tm38) rfl]; unfold tm38
 simp (disch := first|assumption|omega) only [S0,rA,rQ,rB,rT,rE, t_slen]
 have hloop : ∀ i : Nat, i <= s.length -> (s.take i).all isDig = true -> (i : Int) <= most -> 0 <= valD (s.take i) /\ valD (s.take i) <= 1000000000 := by
  intro i hi hd hm3
  obtain ⟨h1, h2⟩ := valD_rng (s.take i) hd
  refine ⟨h1, ?_⟩
  have h3 : (s.take i).length <= 9 := by rw [List.length_take]; omega
  have h4 : (10 : Int) ^ (s.take i).length <= 10 ^ 9 := by
   exact_mod_cast Nat.pow_le_pow_right (by decide) h3
  have h5 : (10 : Int) ^ 9 = 1000000000 := by decide
  omega
 have stepN : ∀ i : Nat, i < s.length -> (s.take (i + 1)).all isDig = ((s.take i).all isDig && isDig (atI s (i : Int))) := by
  intro i hi
  rw [<- take_at hi, List.all_append]
  simp
 have stepV : ∀ i : Nat, i < s.length -> valD (s.take (i + 1)) = 10 * valD (s.take i) + (((atI s (i : Int)).toNat : Int) - 48) := by
  intro i hi
  rw [<- take_at hi, valD_app]
 have badall : ∀ i : Nat, i < s.length -> isDig (atI s (i : Int)) = false -> s.all isDig = false := by
  intro i hi hd
  cases h : s.all isDig
  ·rfl
  ·rw [List.all_eq_true] at h
   rw [h _ (at_mem hi)] at hd
   cases hd
 rw [whileE (if s.all isDig && decide ((s.length : Int) <= most) then (.yield 1, [i64 (valD s)]) else (.ret, [i64 (-1)])) (fun i : Nat => s.length - i) (fun i : Nat => i <= s.length /\ (s.take i).all isDig = true /\ (i : Int) <= most) (fun i => [i64 (valD (s.take i)), i64 i]) 0 rfl (by simp; omega) (by split <;> simp)]
 rotate_left
 ·rintro i ⟨hi, hd, hmi⟩
  by_cases hlt : i < s.length
  ·have d : decide ((i : Int) < (s.length : Int)) = true := by simpa using hlt
   have es := t_sidx (s := s) (k := (i : Int)) (by omega) (by omega)
   obtain ⟨v1, v2⟩ := hloop i hi hd hmi
   cases hdig : isDig (atI s (i : Int))
   ·right
    have hb := badall i hlt hdig
    rw [hb]
    simp only [Bool.false_and, Bool.false_eq_true, if_false]
    unfold isDig at hdig
    simp only [Bool.not_eq_false', Bool.or_eq_true, decide_eq_true_eq] at hdig
    by_cases h48 : (atI s (i : Int)).toNat < 48
    ·have d1 : decide ((atI s (i : Int)).toNat < 48) = true := by simpa using h48
     simp (disch := first|assumption|omega) only [S0,rA,rQ,rB,rT,rE, d, es, u8_lt48, d1]
    ·have d1 : decide ((atI s (i : Int)).toNat < 48) = false := by simpa using h48
     have d2 : decide (57 < (atI s (i : Int)).toNat) = true := by simp; omega
     simp (disch := first|assumption|omega) only [S0,rA,rQ,rB,rT,rE, d, es, u8_lt48, d1, u8_gt57, d2]
   ·have hr := isDig_rng hdig
    have d1 : decide ((atI s (i : Int)).toNat < 48) = false := by simp; omega
    have d2 : decide (57 < (atI s (i : Int)).toNat) = false := by simp; omega
    by_cases hmx : most <= (i : Int)
    ·right
     have d3 : decide (most <= (i : Int)) = true := by simpa using hmx
     have d4 : decide ((s.length : Int) <= most) = false := by simp; omega
     rw [d4]
     simp only [Bool.and_false, Bool.false_eq_true, if_false]
     simp (disch := first|assumption|omega) only [S0,rA,rQ,rB,rT,rE, d, es, u8_lt48, d1, u8_gt57, d2, d3]
    ·have d3 : decide (most <= (i : Int)) = false := by simpa using hmx
     have er : (Prim.bin .mul).run [i64 10, i64 (valD (s.take i))] = some [i64 (10 * valD (s.take i))] := run_mulI (by omega) (by omega)
     have ed := u8_dig hdig
     have ev := stepV i hlt
     refine .inl ⟨i + 1, ?_, ⟨by omega, by rw [stepN i hlt, hd, hdig]; rfl, by omega⟩, by omega⟩
     simp (disch := first|assumption|omega) only [S0,rA,rQ,rB,rT,rE, d, es, u8_lt48, d1, u8_gt57, d2, d3, er, u8_sub, ed, ev]
  ·have d : decide ((i : Int) < (s.length : Int)) = false := by simpa using hlt
   obtain rfl : i = s.length := by omega
   rw [List.take_of_length_le (Nat.le_refl _)] at hd ⊢
   have d4 : decide ((s.length : Int) <= most) = true := by simpa using hmi
   right
   rw [hd, d4]
   simp only [Bool.and_self, if_true]
   simp (disch := first|assumption|omega) only [S0,rA,rQ,rB,rT,rE, d]
 unfold digM
 cases hA : s.all isDig && decide ((s.length : Int) <= most)
 ·simp only [Bool.false_and, Bool.false_eq_true, if_false]
  simp (disch := first|assumption|omega) only [S0,rA,rQ,rB,rT,rE]
 ·simp only [Bool.true_and, if_true]
  by_cases hne : s = []
  ·subst hne
   have e0 : (([] : List UInt8) == []) = true := rfl
   simp (disch := first|assumption|omega) only [S0,rA,rQ,rB,rT,rE, t_eq, e0]
   rfl
  ·have e0 : (s == []) = false := by simpa using hne
   have hl : 0 < s.length := List.length_pos_iff.2 hne
   have es := t_sidx (s := s) (k := 0) (by omega) (by omega)
   rw [lead_of hne]
   cases hc : atI s 0 == 48
   ·simp only [Bool.false_and, Bool.not_false, if_true]
    simp (disch := first|assumption|omega) only [S0,rA,rQ,rB,rT,rE, t_eq, e0, es, u8_eq48, hc]
   ·cases d5 : decide ((1 : Int) < (s.length : Int))
    ·simp only [Bool.and_false, Bool.not_false, if_true]
     simp (disch := first|assumption|omega) only [S0,rA,rQ,rB,rT,rE, t_eq, e0, es, u8_eq48, hc, t_slen, d5]
    ·simp only [Bool.and_true, Bool.not_true, Bool.false_eq_true, if_false]
     simp (disch := first|assumption|omega) only [S0,rA,rQ,rB,rT,rE, t_eq, e0, es, u8_eq48, hc, t_slen, d5]
theorem spec_l1Read (s : List UInt8) (hs : s.length <= 1000000000) : Fun T 5 [.str s] = some [i64 (digM s 6)] := by
 rw [Fun_k (t := tm5) rfl]; unfold tm5
 unfold digM
 cases hlen : inR ((s.length : Nat) : Int) 1 6
 ·have hk : (s.all isDig && decide ((s.length : Int) <= 6) && !lead s) = false := by
   by_cases hne : s = []
   ·subst hne; rfl
   ·have hl : 0 < s.length := List.length_pos_iff.2 hne
    have d4 : decide ((s.length : Int) <= 6) = false := by
     cases hd : decide ((s.length : Int) <= 6)
     ·rfl
     ·simp only [decide_eq_true_eq] at hd
      have : inR ((s.length : Nat) : Int) 1 6 = true := inR_iff.2 ⟨by omega, hd⟩
      rw [this] at hlen
      cases hlen
    rw [d4, Bool.and_false, Bool.false_and]
  rw [hk]
  simp only [Bool.false_eq_true, if_false]
  simp (disch := first|assumption|omega) only [S0,rA,rQ,rB,rT,rE, t_slen, spec_l1In, hlen]
 ·have hr := inR_iff.1 hlen
  have d4 : decide ((s.length : Int) <= 6) = true := by simpa using hr.2
  have hne : s ≠ [] := by intro e; rw [e] at hr; simp at hr
  have es0 := t_sidx (s := s) (k := 0) (by omega) (by omega)
  rw [d4, Bool.and_true, lead_of hne]
  have hloop : ∀ i : Nat, i <= s.length -> (s.take i).all isDig = true -> 0 <= valD (s.take i) /\ valD (s.take i) <= 1000000000 := by
   intro i hi hd
   obtain ⟨h1, h2⟩ := valD_rng (s.take i) hd
   refine ⟨h1, ?_⟩
   have h3 : (s.take i).length <= 9 := by rw [List.length_take]; omega
   have h4 : (10 : Int) ^ (s.take i).length <= 10 ^ 9 := by
    exact_mod_cast Nat.pow_le_pow_right (by decide) h3
   have h5 : (10 : Int) ^ 9 = 1000000000 := by decide
   omega
  have stepN : ∀ i : Nat, i < s.length -> (s.take (i + 1)).all isDig = ((s.take i).all isDig && isDig (atI s (i : Int))) := by
   intro i hi
   rw [<- take_at hi, List.all_append]
   simp
  have stepV : ∀ i : Nat, i < s.length -> valD (s.take (i + 1)) = 10 * valD (s.take i) + (((atI s (i : Int)).toNat : Int) - 48) := by
   intro i hi
   rw [<- take_at hi, valD_app]
  have badall : ∀ i : Nat, i < s.length -> isDig (atI s (i : Int)) = false -> s.all isDig = false := by
   intro i hi hd
   cases h : s.all isDig
   ·rfl
   ·rw [List.all_eq_true] at h
    rw [h _ (at_mem hi)] at hd
    cases hd
  cases hc : atI s 0 == 48
  ·simp only [Bool.false_and, Bool.not_false, Bool.and_true]
   simp (disch := first|assumption|omega) only [S0,rA,rQ,rB,rT,rE, t_slen, spec_l1In, hlen, es0, u8_eq48, hc]
   rw [whileE (if s.all isDig then (.yield 1, [i64 (valD s)]) else (.ret, [i64 (-1)])) (fun i : Nat => s.length - i) (fun i : Nat => i <= s.length /\ (s.take i).all isDig = true) (fun i => [i64 (valD (s.take i)), i64 i]) 0 rfl (by simp) (by split <;> simp)]
   ·cases hA : s.all isDig
    ·simp only [Bool.false_eq_true, if_false]
     simp (disch := first|assumption|omega) only [S0,rA,rQ,rB,rT,rE]
    ·simp only [if_true]
     simp (disch := first|assumption|omega) only [S0,rA,rQ,rB,rT,rE]
   ·rintro i ⟨hi, hd⟩
    by_cases hlt : i < s.length
    ·have d : decide ((i : Int) < (s.length : Int)) = true := by simpa using hlt
     have es := t_sidx (s := s) (k := (i : Int)) (by omega) (by omega)
     obtain ⟨v1, v2⟩ := hloop i hi hd
     cases hdig : isDig (atI s (i : Int))
     ·right
      have hb := badall i hlt hdig
      rw [hb]
      simp only [Bool.false_eq_true, if_false]
      unfold isDig at hdig
      simp only [Bool.not_eq_false', Bool.or_eq_true, decide_eq_true_eq] at hdig
      by_cases h48 : (atI s (i : Int)).toNat < 48
      ·have d1 : decide ((atI s (i : Int)).toNat < 48) = true := by simpa using h48
       simp (disch := first|assumption|omega) only [S0,rA,rQ,rB,rT,rE, t_slen, d, es, u8_lt48, d1]
      ·have d1 : decide ((atI s (i : Int)).toNat < 48) = false := by simpa using h48
       have d2 : decide (57 < (atI s (i : Int)).toNat) = true := by simp; omega
       simp (disch := first|assumption|omega) only [S0,rA,rQ,rB,rT,rE, t_slen, d, es, u8_lt48, d1, u8_gt57, d2]
     ·have hr := isDig_rng hdig
      have d1 : decide ((atI s (i : Int)).toNat < 48) = false := by simp; omega
      have d2 : decide (57 < (atI s (i : Int)).toNat) = false := by simp; omega
      have er : (Prim.bin .mul).run [i64 10, i64 (valD (s.take i))] = some [i64 (10 * valD (s.take i))] := run_mulI (by omega) (by omega)
      have ed := u8_dig hdig
      have ev := stepV i hlt
      refine .inl ⟨i + 1, ?_, ⟨by omega, by rw [stepN i hlt, hd, hdig]; rfl⟩, by omega⟩
      simp (disch := first|assumption|omega) only [S0,rA,rQ,rB,rT,rE, t_slen, d, es, u8_lt48, d1, u8_gt57, d2, er, u8_sub, ed, ev]
    ·have d : decide ((i : Int) < (s.length : Int)) = false := by simpa using hlt
     obtain rfl : i = s.length := by omega
     rw [List.take_of_length_le (Nat.le_refl _)] at hd ⊢
     right
     rw [hd]
     simp only [if_true]
     simp (disch := first|assumption|omega) only [S0,rA,rQ,rB,rT,rE, t_slen, d]
  ·cases d5 : decide ((1 : Int) < (s.length : Int))
   ·simp only [Bool.and_false, Bool.not_false, Bool.and_true]
    simp (disch := first|assumption|omega) only [S0,rA,rQ,rB,rT,rE, t_slen, spec_l1In, hlen, es0, u8_eq48, hc, d5]
    rw [whileE (if s.all isDig then (.yield 1, [i64 (valD s)]) else (.ret, [i64 (-1)])) (fun i : Nat => s.length - i) (fun i : Nat => i <= s.length /\ (s.take i).all isDig = true) (fun i => [i64 (valD (s.take i)), i64 i]) 0 rfl (by simp) (by split <;> simp)]
    ·cases hA : s.all isDig
     ·simp only [Bool.false_eq_true, if_false]
      simp (disch := first|assumption|omega) only [S0,rA,rQ,rB,rT,rE]
     ·simp only [if_true]
      simp (disch := first|assumption|omega) only [S0,rA,rQ,rB,rT,rE]
    ·rintro i ⟨hi, hd⟩
     by_cases hlt : i < s.length
     ·have d : decide ((i : Int) < (s.length : Int)) = true := by simpa using hlt
      have es := t_sidx (s := s) (k := (i : Int)) (by omega) (by omega)
      obtain ⟨v1, v2⟩ := hloop i hi hd
      cases hdig : isDig (atI s (i : Int))
      ·right
       have hb := badall i hlt hdig
       rw [hb]
       simp only [Bool.false_eq_true, if_false]
       unfold isDig at hdig
       simp only [Bool.not_eq_false', Bool.or_eq_true, decide_eq_true_eq] at hdig
       by_cases h48 : (atI s (i : Int)).toNat < 48
       ·have d1 : decide ((atI s (i : Int)).toNat < 48) = true := by simpa using h48
        simp (disch := first|assumption|omega) only [S0,rA,rQ,rB,rT,rE, t_slen, d, es, u8_lt48, d1]
       ·have d1 : decide ((atI s (i : Int)).toNat < 48) = false := by simpa using h48
        have d2 : decide (57 < (atI s (i : Int)).toNat) = true := by simp; omega
        simp (disch := first|assumption|omega) only [S0,rA,rQ,rB,rT,rE, t_slen, d, es, u8_lt48, d1, u8_gt57, d2]
      ·have hr := isDig_rng hdig
       have d1 : decide ((atI s (i : Int)).toNat < 48) = false := by simp; omega
       have d2 : decide (57 < (atI s (i : Int)).toNat) = false := by simp; omega
       have er : (Prim.bin .mul).run [i64 10, i64 (valD (s.take i))] = some [i64 (10 * valD (s.take i))] := run_mulI (by omega) (by omega)
       have ed := u8_dig hdig
       have ev := stepV i hlt
       refine .inl ⟨i + 1, ?_, ⟨by omega, by rw [stepN i hlt, hd, hdig]; rfl⟩, by omega⟩
       simp (disch := first|assumption|omega) only [S0,rA,rQ,rB,rT,rE, t_slen, d, es, u8_lt48, d1, u8_gt57, d2, er, u8_sub, ed, ev]
     ·have d : decide ((i : Int) < (s.length : Int)) = false := by simpa using hlt
      obtain rfl : i = s.length := by omega
      rw [List.take_of_length_le (Nat.le_refl _)] at hd ⊢
      right
      rw [hd]
      simp only [if_true]
      simp (disch := first|assumption|omega) only [S0,rA,rQ,rB,rT,rE, t_slen, d]
   ·simp only [Bool.and_true, Bool.not_true, Bool.and_false, Bool.false_eq_true, if_false]
    simp (disch := first|assumption|omega) only [S0,rA,rQ,rB,rT,rE, t_slen, spec_l1In, hlen, es0, u8_eq48, hc, d5]
theorem impl_numbers (ws : List (List UInt8)) (most : Int) (hm : 0 <= most) (hm2 : most <= 9) (hw : ∀ w ∈ ws, w.length <= 1000000000) (hl : ws.length <= 1000000001) : Fun T 37 [rL ws, i64 most] = some [rL (numR most ws).1, .bool (numR most ws).2] := by
 rw [Fun_k (t := tm37) rfl]; unfold tm37
 have em0 : (Prim.mk 1 0).run [] = some [rL ([] : List Int)] := rfl
 simp (disch := first|assumption|omega) only [S0,rA,rQ,rB,rT,rE, em0]
 rw [whileE (if allNum most ws then (.yield 1, [rL (numsOf most ws)]) else (.ret, [rL ([] : List Int), .bool false])) (fun i : Nat => ws.length - i) (fun i : Nat => i <= ws.length /\ allNum most (ws.take i) = true) (fun i => [rL (numsOf most (ws.take i)), i64 i]) 0 rfl (by simp [allNum]) (by split <;> simp)]
 rotate_left
 ·rintro i ⟨hi, hA⟩
  by_cases hlt : i < ws.length
  ·have d : decide ((i : Int) < (ws.length : Int)) = true := by simpa using hlt
   have hb : InB ws (i : Int) := InB_nat.2 hlt
   have e := impl_digits (atI ws (i : Int)) most hm hm2 (hw _ (at_mem hlt))
   rcases (show digM (atI ws (i : Int)) most < 0 \/ 0 <= digM (atI ws (i : Int)) most by omega) with h0 | h0
   ·right
    have d0 : decide (digM (atI ws (i : Int)) most < 0) = true := by simpa using h0
    rw [allNum_bad hlt h0]
    simp only [Bool.false_eq_true, if_false]
    simp (disch := first|assumption|omega) only [S0,rA,rQ,rB,rT,rE, d, S_row, e, d0, S_nil]
   ·have d0 : decide (digM (atI ws (i : Int)) most < 0) = false := by simp; omega
    have z : (numsOf most (ws.take i)).length + ([digM (atI ws (i : Int)) most] : List Int).length <= 100000000000 := by rw [numsOf_len, List.length_take]; simp only [List.length_cons, List.length_nil]; omega
    have e3 := (numsOf_succ (m := most) hlt).symm
    refine .inl ⟨i + 1, ?_, ⟨by omega, by rw [allNum_succ hlt, hA, decide_eq_true h0]; rfl⟩, by omega⟩
    simp (disch := first|assumption|omega) only [S0,rA,rQ,rB,rT,rE, d, S_row, e, d0, S_mk, S_app, e3]
  ·have d : decide ((i : Int) < (ws.length : Int)) = false := by simpa using hlt
   obtain rfl : i = ws.length := by omega
   rw [List.take_of_length_le (Nat.le_refl _)] at hA ⊢
   right
   rw [hA]
   simp only [if_true]
   simp (disch := first|assumption|omega) only [S0,rA,rQ,rB,rT,rE, d]
 ·cases hA : allNum most ws
  ·rw [numR_no hA]
   simp only [Bool.false_eq_true, if_false]
   simp (disch := first|assumption|omega) only [S0,rA,rQ,rB,rT,rE]
  ·rw [numR_yes hA]
   simp only [if_true]
   simp (disch := first|assumption|omega) only [S0,rA,rQ,rB,rT,rE]
theorem slices_Index_str (xs : List (List UInt8)) (w : List UInt8) (hx : xs.length <= 1000) : Fun T 36 [rL xs, .str w] = some [i64 (ixF (fun x => w == x) xs)] := by
 rw [Fun_k (t := tm36) rfl]; unfold tm36
 simp (disch := first|assumption|omega) only [S0,rA,rQ,rB,rT,rE]
 rw [findX 1 xs (fun x => w == x) (fun i => [i64 i])]
 ·cases h : xs.any (fun x => w == x)
  ·have e : ixF (fun x => w == x) xs = -1 := by
    have h2 := ixF_any (fun x => w == x) xs
    rw [h] at h2
    unfold ixF at h2 ⊢
    split at h2 <;> simp_all
   rw [e]
   simp (disch := first|assumption|omega) only [S0,rA,rQ,rB,rT,rE]
  ·simp (disch := first|assumption|omega) only [S0,rA,rQ,rB,rT,rE]
 ·intro i hi hb hl hp
  simp (disch := first|assumption|omega) only [S0,rA,rQ,rB,rT,rE, S_row, t_eq, hl, hp]
 ·intro i hi hb hl hp
  simp (disch := first|assumption|omega) only [S0,rA,rQ,rB,rT,rE, S_row, t_eq, hl, hp]
 ·intro hl
  simp (disch := first|assumption|omega) only [S0,rA,rQ,rB,rT,rE, hl]
theorem impl_ReadCmd (s : List UInt8) (hs : s.length <= 1000000000) : ∃ code : Int, Fun T 39 [.str s] = some [i64 (cmdB s).1.kind, i64 (cmdB s).1.id, i64 (cmdB s).1.src, i64 (cmdB s).1.dst, i64 (cmdB s).1.amt, i64 code, .bool (cmdB s).2] := by
 rw [Fun_k (t := tm39) rfl]; unfold tm39
 have hsm : ∀ w ∈ splitB 32 s, w.length <= 1000000000 := fun w hw => by have := (splitB_mem hw).2; omega
 have hne := splitB_ne 32 s
 have hll : (splitB 32 s).length <= 1000000001 := by
  rw [splitB_len]
  have : s.count 32 <= s.length := List.count_le_length
  omega
 have esp := strings_Split s 32 hs
 unfold cmdB
 generalize splitB 32 s = ws at *
 have hl0 : 0 < ws.length := List.length_pos_iff.2 hne
 have hb0 : InB ws 0 := by unfold InB; omega
 have ei := slices_Index_str [[45], [109, 111, 118, 101], [114, 101, 97, 100]] (atI ws 0) (by decide)
 rw [ixF_kind] at ei
 have hdr : ∀ w ∈ ws.drop 1, w.length <= 1000000000 := fun w hw => hsm w (List.mem_of_mem_drop hw)
 have hdl := drop1_len (ws := ws)
 have en := impl_numbers (ws.drop 1) 4 (by decide) (by decide) hdr (by omega)
 have esub := sub_tail (ws := ws) (by omega)
 have b0 : InB ([1, 5, 3] : List Int) 0 := by unfold InB; decide
 have b1 : InB ([1, 5, 3] : List Int) 1 := by unfold InB; decide
 have b2 : InB ([1, 5, 3] : List Int) 2 := by unfold InB; decide
 have a0 : atI ([1, 5, 3] : List Int) 0 = 1 := rfl
 have a1 : atI ([1, 5, 3] : List Int) 1 = 5 := rfl
 have a2 : atI ([1, 5, 3] : List Int) 2 = 3 := rfl
 rcases kindB_cases (atI ws 0) with k | k | k | k
 ·rw [k] at ei
  by_cases hl : (ws.length : Int) = 1
  ·have hd : ws.drop 1 = [] := List.eq_nil_of_length_eq_zero (by omega)
   have hA : allNum 4 (ws.drop 1) = true := by rw [hd]; rfl
   have hN := numR_yes hA
   have dl : ((ws.length : Int) == 1) = true := by simpa using hl
   have hc := cmdWs_yes (ws := ws) k (by decide) hl hA rfl
   rw [hc]
   refine ⟨0, ?_⟩
   have eg := impl_GoodCmd 0 0 0 0 0
   have eg2 : cmdOk ⟨0, 0, 0, 0, 0⟩ = true := rfl
   have er : inR 0 0 3 = true := rfl
   have ec : cmdN 0 (numsOf 4 (ws.drop 1)) = ⟨0, 0, 0, 0, 0⟩ := rfl
   rw [ec]
   simp (disch := first|assumption|omega) only [S0,rA,rQ,rB,rT,rE, esp, S_mk, S_row, ei, b0, a0, dl, esub, en, hN, impl_isAccount, er, eg, eg2]
  ·have dl : ((ws.length : Int) == 1) = false := by simpa using hl
   rw [cmdWs_no (.inr (.inl (by rw [k]; exact hl)))]
   refine ⟨2, ?_⟩
   simp (disch := first|assumption|omega) only [S0,rA,rQ,rB,rT,rE, esp, S_mk, S_row, ei, b0, a0, dl]
 ·rw [k] at ei
  by_cases hl : (ws.length : Int) = 5
  ·have dl : ((ws.length : Int) == 5) = true := by simpa using hl
   cases hA : allNum 4 (ws.drop 1)
   ·have hN := numR_no hA
    rw [cmdWs_no (.inr (.inr (.inl hA)))]
    refine ⟨3, ?_⟩
    simp (disch := first|assumption|omega) only [S0,rA,rQ,rB,rT,rE, esp, S_mk, S_row, ei, b1, a1, dl, esub, en, hN]
   ·have hN := numR_yes hA
    have hnl : (numsOf 4 (ws.drop 1)).length = 4 := by rw [numsOf_len]; omega
    have hno := cmdWs_no (ws := ws)
    have hyes := cmdWs_yes (ws := ws) k (by decide) hl hA
    rw [k] at hno
    generalize numsOf 4 (ws.drop 1) = ns at *
    have c0 : InB ns 0 := by unfold InB; omega
    have c1 : InB ns 1 := by unfold InB; omega
    have c2 : InB ns 2 := by unfold InB; omega
    have c3 : InB ns 3 := by unfold InB; omega
    have ecn : cmdN 1 ns = ⟨1, atI ns 0, atI ns 1, atI ns 2, atI ns 3⟩ := rfl
    have eg := impl_GoodCmd 1 (atI ns 0) (atI ns 1) (atI ns 2) (atI ns 3)
    rw [ecn] at hno hyes
    cases q1 : inR (atI ns 1) 0 3
    ·rw [hno (.inr (.inr (.inr (by simp [cmdOk, q1]))))]
     refine ⟨4, ?_⟩
     simp (disch := first|assumption|omega) only [S0,rA,rQ,rB,rT,rE, esp, S_mk, S_row, ei, b1, a1, dl, esub, en, hN, impl_isAccount, q1]
    cases q2 : inR (atI ns 2) 0 3
    ·rw [hno (.inr (.inr (.inr (by simp [cmdOk, q2]))))]
     refine ⟨4, ?_⟩
     simp (disch := first|assumption|omega) only [S0,rA,rQ,rB,rT,rE, esp, S_mk, S_row, ei, b1, a1, dl, esub, en, hN, impl_isAccount, q1, q2]
    cases q3 : atI ns 1 == atI ns 2
    rotate_left
    ·rw [hno (.inr (.inr (.inr (by simp [cmdOk, q3]))))]
     refine ⟨5, ?_⟩
     simp (disch := first|assumption|omega) only [S0,rA,rQ,rB,rT,rE, esp, S_mk, S_row, ei, b1, a1, dl, esub, en, hN, impl_isAccount, q1, q2, q3]
    cases q4 : cmdOk ⟨1, atI ns 0, atI ns 1, atI ns 2, atI ns 3⟩
    ·rw [hno (.inr (.inr (.inr q4)))]
     refine ⟨6, ?_⟩
     simp (disch := first|assumption|omega) only [S0,rA,rQ,rB,rT,rE, esp, S_mk, S_row, ei, b1, a1, dl, esub, en, hN, impl_isAccount, q1, q2, q3, eg, q4]
    ·rw [hyes q4]
     refine ⟨0, ?_⟩
     simp (disch := first|assumption|omega) only [S0,rA,rQ,rB,rT,rE, esp, S_mk, S_row, ei, b1, a1, dl, esub, en, hN, impl_isAccount, q1, q2, q3, eg, q4]
  ·have dl : ((ws.length : Int) == 5) = false := by simpa using hl
   rw [cmdWs_no (.inr (.inl (by rw [k]; exact hl)))]
   refine ⟨2, ?_⟩
   simp (disch := first|assumption|omega) only [S0,rA,rQ,rB,rT,rE, esp, S_mk, S_row, ei, b1, a1, dl]
 ·rw [k] at ei
  by_cases hl : (ws.length : Int) = 3
  ·have dl : ((ws.length : Int) == 3) = true := by simpa using hl
   cases hA : allNum 4 (ws.drop 1)
   ·have hN := numR_no hA
    rw [cmdWs_no (.inr (.inr (.inl hA)))]
    refine ⟨3, ?_⟩
    simp (disch := first|assumption|omega) only [S0,rA,rQ,rB,rT,rE, esp, S_mk, S_row, ei, b2, a2, dl, esub, en, hN]
   ·have hN := numR_yes hA
    have hnl : (numsOf 4 (ws.drop 1)).length = 2 := by rw [numsOf_len]; omega
    have hno := cmdWs_no (ws := ws)
    have hyes := cmdWs_yes (ws := ws) k (by decide) hl hA
    rw [k] at hno
    generalize numsOf 4 (ws.drop 1) = ns at *
    have c0 : InB ns 0 := by unfold InB; omega
    have c1 : InB ns 1 := by unfold InB; omega
    have ecn : cmdN 2 ns = ⟨2, atI ns 0, atI ns 1, 0, 0⟩ := rfl
    have eg := impl_GoodCmd 2 (atI ns 0) (atI ns 1) 0 0
    have q2 : inR 0 0 3 = true := rfl
    rw [ecn] at hno hyes
    cases q1 : inR (atI ns 1) 0 3
    ·rw [hno (.inr (.inr (.inr (by simp [cmdOk, q1]))))]
     refine ⟨4, ?_⟩
     simp (disch := first|assumption|omega) only [S0,rA,rQ,rB,rT,rE, esp, S_mk, S_row, ei, b2, a2, dl, esub, en, hN, impl_isAccount, q1]
    cases q4 : cmdOk ⟨2, atI ns 0, atI ns 1, 0, 0⟩
    ·rw [hno (.inr (.inr (.inr q4)))]
     refine ⟨6, ?_⟩
     simp (disch := first|assumption|omega) only [S0,rA,rQ,rB,rT,rE, esp, S_mk, S_row, ei, b2, a2, dl, esub, en, hN, impl_isAccount, q1, q2, eg, q4]
    ·rw [hyes q4]
     refine ⟨0, ?_⟩
     simp (disch := first|assumption|omega) only [S0,rA,rQ,rB,rT,rE, esp, S_mk, S_row, ei, b2, a2, dl, esub, en, hN, impl_isAccount, q1, q2, eg, q4]
  ·have dl : ((ws.length : Int) == 3) = false := by simpa using hl
   rw [cmdWs_no (.inr (.inl (by rw [k]; exact hl)))]
   refine ⟨2, ?_⟩
   simp (disch := first|assumption|omega) only [S0,rA,rQ,rB,rT,rE, esp, S_mk, S_row, ei, b2, a2, dl]
 ·rw [k] at ei
  rw [cmdWs_no (.inl (by rw [k]; decide))]
  refine ⟨1, ?_⟩
  have d1 : decide ((-1 : Int) < 0) = true := rfl
  simp (disch := first|assumption|omega) only [S0,rA,rQ,rB,rT,rE, esp, S_mk, S_row, ei, d1]
theorem spec_ReadCmd (s : List UInt8) (hs : s.length <= 1000000000) : ∃ code : Int, Fun T 7 [.str s] = some [i64 (cmdB s).1.kind, i64 (cmdB s).1.id, i64 (cmdB s).1.src, i64 (cmdB s).1.dst, i64 (cmdB s).1.amt, i64 code, .bool (cmdB s).2] := by
 rw [Fun_k (t := tm7) rfl]; unfold tm7
 have hsm : ∀ w ∈ splitB 32 s, w.length <= 1000000000 := fun w hw => by have := (splitB_mem hw).2; omega
 have hne := splitB_ne 32 s
 have esp : Fun T 2 [.str s, .int .u8 32] = some [rL (splitB 32 s)] := spec_l1Split s 32 hs
 unfold cmdB
 generalize splitB 32 s = ws at *
 have hl0 : 0 < ws.length := List.length_pos_iff.2 hne
 have hb0 : InB ws 0 := by unfold InB; omega
 have hdr : ∀ w ∈ ws.drop 1, w.length <= 1000000000 := fun w hw => hsm w (List.mem_of_mem_drop hw)
 have hdl := drop1_len (ws := ws)
 have esub := sub_tail (ws := ws) (by omega)
 rcases kindB_cases (atI ws 0) with k | k | k | k
 ·have q1 : (atI ws 0 == [109, 111, 118, 101]) = false := by rw [kindB_nil k]; rfl
  have q2 : (atI ws 0 == [114, 101, 97, 100]) = false := by rw [kindB_nil k]; rfl
  have q3 : (atI ws 0 == [45]) = true := by rw [kindB_nil k]; rfl
  by_cases hl : (ws.length : Int) = 1
  ·have dl : ((ws.length : Int) == 1) = true := by simpa using hl
   have emk : (Prim.make 8 [(.int .i64 0)]).run [i64 4] = some [rL (fillN (ws.drop 1) 0)] := by
    have := S_make.1 (n := 4) (by omega) (by omega)
    rw [this]
    rfl
   have hno := cmdWs_no (ws := ws)
   have hyes := cmdWs_yes (ws := ws) k (by decide) hl
   rw [k] at hno
   generalize hxs : ws.drop 1 = xs at *
   have hx4 : xs.length = 0 := by omega
   cases hA0 : allNum 4 xs
   ·rw [hno (.inr (.inr (.inl hA0)))]
    refine ⟨3, ?_⟩
    simp (disch := first|assumption|omega) only [S0,rA,rQ,rB,rT,rE, esp, S_row, t_eq, q1, q2, q3, dl, emk, esub]
    rw [whileE (if allNum 4 xs then (.yield 2, [rL (fillN xs xs.length)]) else (.ret, [i64 0, i64 0, i64 0, i64 0, i64 0, i64 3, .bool false])) (fun i : Nat => xs.length - i) (fun i : Nat => i <= xs.length /\ allNum 4 (xs.take i) = true) (fun i => [rL (fillN xs i), i64 i]) 0 rfl (by simp [allNum]) (by split <;> simp)]
    rotate_left
    ·rintro i ⟨hi, hA⟩
     by_cases hlt : i < xs.length
     ·have d : decide ((i : Int) < (xs.length : Int)) = true := by simpa using hlt
      have hb : InB xs (i : Int) := InB_nat.2 hlt
      have e := spec_l1Read (atI xs (i : Int)) (hdr _ (at_mem hlt))
      have l1 := fillN_len (ws := xs) (i := i) (by omega) (by omega)
      have l2 := fillN_len (ws := xs) (i := i + 1) (by omega) (by omega)
      have hb1 : InB (fillN xs i) (i : Int) := by unfold InB; omega
      have hb2 : InB (fillN xs (i + 1)) (i : Int) := by unfold InB; omega
      have ef := fillN_set hlt (by omega)
      have ea : atI (fillN xs (i + 1)) (i : Int) = digM (atI xs (i : Int)) 6 := by rw [<- ef]; exact S_upd.1 hb1
      by_cases h4 : 4 < ((atI xs (i : Int)).length : Int)
      ·have d4 : decide (4 < ((atI xs (i : Int)).length : Int)) = true := by simpa using h4
       right
       rw [allNum_bad hlt (digM_long h4)]
       simp only [Bool.false_eq_true, if_false]
       simp (disch := first|assumption|omega) only [S0,rA,rQ,rB,rT,rE, d, S_row, e, S_set, ef, ea, t_slen, d4]
      ·have d4 : decide (4 < ((atI xs (i : Int)).length : Int)) = false := by simpa using h4
       have e4 := digM_short (s := atI xs (i : Int)) (by omega)
       rcases (show digM (atI xs (i : Int)) 6 < 0 \/ 0 <= digM (atI xs (i : Int)) 6 by omega) with h0 | h0
       ·have d0 : decide (digM (atI xs (i : Int)) 6 < 0) = true := by simpa using h0
        right
        rw [allNum_bad hlt (by rw [e4]; exact h0)]
        simp only [Bool.false_eq_true, if_false]
        simp (disch := first|assumption|omega) only [S0,rA,rQ,rB,rT,rE, d, S_row, e, S_set, ef, ea, t_slen, d4, d0]
       ·have d0 : decide (digM (atI xs (i : Int)) 6 < 0) = false := by simp; omega
        refine .inl ⟨i + 1, ?_, ⟨by omega, by rw [allNum_succ hlt, hA, e4, decide_eq_true h0]; rfl⟩, by omega⟩
        simp (disch := first|assumption|omega) only [S0,rA,rQ,rB,rT,rE, d, S_row, e, S_set, ef, ea, t_slen, d4, d0]
     ·have d : decide ((i : Int) < (xs.length : Int)) = false := by simpa using hlt
      obtain rfl : i = xs.length := by omega
      rw [List.take_of_length_le (Nat.le_refl _)] at hA
      right
      rw [hA]
      simp only [if_true]
      simp (disch := first|assumption|omega) only [S0,rA,rQ,rB,rT,rE, d]
    ·rw [hA0]
     simp only [Bool.false_eq_true, if_false]
     simp (disch := first|assumption|omega) only [S0,rA,rQ,rB,rT,rE]
   ·have hd : xs = [] := List.eq_nil_of_length_eq_zero hx4
    have ec : cmdN 0 (numsOf 4 xs) = ⟨0, 0, 0, 0, 0⟩ := rfl
    rw [ec] at hyes
    rw [hyes hA0 rfl]
    refine ⟨0, ?_⟩
    simp (disch := first|assumption|omega) only [S0,rA,rQ,rB,rT,rE, esp, S_row, t_eq, q1, q2, q3, dl, emk, esub]
    rw [whileE (if allNum 4 xs then (.yield 2, [rL (fillN xs xs.length)]) else (.ret, [i64 0, i64 0, i64 0, i64 0, i64 0, i64 3, .bool false])) (fun i : Nat => xs.length - i) (fun i : Nat => i <= xs.length /\ allNum 4 (xs.take i) = true) (fun i => [rL (fillN xs i), i64 i]) 0 rfl (by simp [allNum]) (by split <;> simp)]
    rotate_left
    ·rintro i ⟨hi, hA⟩
     by_cases hlt : i < xs.length
     ·have d : decide ((i : Int) < (xs.length : Int)) = true := by simpa using hlt
      have hb : InB xs (i : Int) := InB_nat.2 hlt
      have e := spec_l1Read (atI xs (i : Int)) (hdr _ (at_mem hlt))
      have l1 := fillN_len (ws := xs) (i := i) (by omega) (by omega)
      have l2 := fillN_len (ws := xs) (i := i + 1) (by omega) (by omega)
      have hb1 : InB (fillN xs i) (i : Int) := by unfold InB; omega
      have hb2 : InB (fillN xs (i + 1)) (i : Int) := by unfold InB; omega
      have ef := fillN_set hlt (by omega)
      have ea : atI (fillN xs (i + 1)) (i : Int) = digM (atI xs (i : Int)) 6 := by rw [<- ef]; exact S_upd.1 hb1
      by_cases h4 : 4 < ((atI xs (i : Int)).length : Int)
      ·have d4 : decide (4 < ((atI xs (i : Int)).length : Int)) = true := by simpa using h4
       right
       rw [allNum_bad hlt (digM_long h4)]
       simp only [Bool.false_eq_true, if_false]
       simp (disch := first|assumption|omega) only [S0,rA,rQ,rB,rT,rE, d, S_row, e, S_set, ef, ea, t_slen, d4]
      ·have d4 : decide (4 < ((atI xs (i : Int)).length : Int)) = false := by simpa using h4
       have e4 := digM_short (s := atI xs (i : Int)) (by omega)
       rcases (show digM (atI xs (i : Int)) 6 < 0 \/ 0 <= digM (atI xs (i : Int)) 6 by omega) with h0 | h0
       ·have d0 : decide (digM (atI xs (i : Int)) 6 < 0) = true := by simpa using h0
        right
        rw [allNum_bad hlt (by rw [e4]; exact h0)]
        simp only [Bool.false_eq_true, if_false]
        simp (disch := first|assumption|omega) only [S0,rA,rQ,rB,rT,rE, d, S_row, e, S_set, ef, ea, t_slen, d4, d0]
       ·have d0 : decide (digM (atI xs (i : Int)) 6 < 0) = false := by simp; omega
        refine .inl ⟨i + 1, ?_, ⟨by omega, by rw [allNum_succ hlt, hA, e4, decide_eq_true h0]; rfl⟩, by omega⟩
        simp (disch := first|assumption|omega) only [S0,rA,rQ,rB,rT,rE, d, S_row, e, S_set, ef, ea, t_slen, d4, d0]
     ·have d : decide ((i : Int) < (xs.length : Int)) = false := by simpa using hlt
      obtain rfl : i = xs.length := by omega
      rw [List.take_of_length_le (Nat.le_refl _)] at hA
      right
      rw [hA]
      simp only [if_true]
      simp (disch := first|assumption|omega) only [S0,rA,rQ,rB,rT,rE, d]
    ·rw [hA0]
     simp only [if_true]
     have ez : fillN xs xs.length = [0, 0, 0, 0] := by rw [hd]; rfl
     have z0 : InB ([0, 0, 0, 0] : List Int) 0 := by unfold InB; decide
     have z1 : InB ([0, 0, 0, 0] : List Int) 1 := by unfold InB; decide
     have z2 : InB ([0, 0, 0, 0] : List Int) 2 := by unfold InB; decide
     have z3 : InB ([0, 0, 0, 0] : List Int) 3 := by unfold InB; decide
     have y0 : atI ([0, 0, 0, 0] : List Int) 0 = 0 := rfl
     have y1 : atI ([0, 0, 0, 0] : List Int) 1 = 0 := rfl
     have y2 : atI ([0, 0, 0, 0] : List Int) 2 = 0 := rfl
     have y3 : atI ([0, 0, 0, 0] : List Int) 3 = 0 := rfl
     rw [ez]
     simp (disch := first|assumption|omega) only [S0,rA,rQ,rB,rT,rE, S_row, y0, y1, y2, y3]
  ·have dl : ((ws.length : Int) == 1) = false := by simpa using hl
   rw [cmdWs_no (.inr (.inl (by rw [k]; exact hl)))]
   refine ⟨2, ?_⟩
   simp (disch := first|assumption|omega) only [S0,rA,rQ,rB,rT,rE, esp, S_row, t_eq, q1, q2, q3, dl]
 ·have q1 : (atI ws 0 == [109, 111, 118, 101]) = true := by rw [kindB_one k]; rfl
  by_cases hl : (ws.length : Int) = 5
  ·have dl : ((ws.length : Int) == 5) = true := by simpa using hl
   have emk : (Prim.make 8 [(.int .i64 0)]).run [i64 4] = some [rL (fillN (ws.drop 1) 0)] := by
    have := S_make.1 (n := 4) (by omega) (by omega)
    rw [this]
    rfl
   have hno := cmdWs_no (ws := ws)
   have hyes := cmdWs_yes (ws := ws) k (by decide) hl
   rw [k] at hno
   generalize hxs : ws.drop 1 = xs at *
   have hx4 : xs.length = 4 := by omega
   cases hA0 : allNum 4 xs
   ·rw [hno (.inr (.inr (.inl hA0)))]
    refine ⟨3, ?_⟩
    simp (disch := first|assumption|omega) only [S0,rA,rQ,rB,rT,rE, esp, S_row, t_eq, q1, dl, emk, esub]
    rw [whileE (if allNum 4 xs then (.yield 2, [rL (fillN xs xs.length)]) else (.ret, [i64 0, i64 0, i64 0, i64 0, i64 0, i64 3, .bool false])) (fun i : Nat => xs.length - i) (fun i : Nat => i <= xs.length /\ allNum 4 (xs.take i) = true) (fun i => [rL (fillN xs i), i64 i]) 0 rfl (by simp [allNum]) (by split <;> simp)]
    rotate_left
    ·rintro i ⟨hi, hA⟩
     by_cases hlt : i < xs.length
     ·have d : decide ((i : Int) < (xs.length : Int)) = true := by simpa using hlt
      have hb : InB xs (i : Int) := InB_nat.2 hlt
      have e := spec_l1Read (atI xs (i : Int)) (hdr _ (at_mem hlt))
      have l1 := fillN_len (ws := xs) (i := i) (by omega) (by omega)
      have l2 := fillN_len (ws := xs) (i := i + 1) (by omega) (by omega)
      have hb1 : InB (fillN xs i) (i : Int) := by unfold InB; omega
      have hb2 : InB (fillN xs (i + 1)) (i : Int) := by unfold InB; omega
      have ef := fillN_set hlt (by omega)
      have ea : atI (fillN xs (i + 1)) (i : Int) = digM (atI xs (i : Int)) 6 := by rw [<- ef]; exact S_upd.1 hb1
      by_cases h4 : 4 < ((atI xs (i : Int)).length : Int)
      ·have d4 : decide (4 < ((atI xs (i : Int)).length : Int)) = true := by simpa using h4
       right
       rw [allNum_bad hlt (digM_long h4)]
       simp only [Bool.false_eq_true, if_false]
       simp (disch := first|assumption|omega) only [S0,rA,rQ,rB,rT,rE, d, S_row, e, S_set, ef, ea, t_slen, d4]
      ·have d4 : decide (4 < ((atI xs (i : Int)).length : Int)) = false := by simpa using h4
       have e4 := digM_short (s := atI xs (i : Int)) (by omega)
       rcases (show digM (atI xs (i : Int)) 6 < 0 \/ 0 <= digM (atI xs (i : Int)) 6 by omega) with h0 | h0
       ·have d0 : decide (digM (atI xs (i : Int)) 6 < 0) = true := by simpa using h0
        right
        rw [allNum_bad hlt (by rw [e4]; exact h0)]
        simp only [Bool.false_eq_true, if_false]
        simp (disch := first|assumption|omega) only [S0,rA,rQ,rB,rT,rE, d, S_row, e, S_set, ef, ea, t_slen, d4, d0]
       ·have d0 : decide (digM (atI xs (i : Int)) 6 < 0) = false := by simp; omega
        refine .inl ⟨i + 1, ?_, ⟨by omega, by rw [allNum_succ hlt, hA, e4, decide_eq_true h0]; rfl⟩, by omega⟩
        simp (disch := first|assumption|omega) only [S0,rA,rQ,rB,rT,rE, d, S_row, e, S_set, ef, ea, t_slen, d4, d0]
     ·have d : decide ((i : Int) < (xs.length : Int)) = false := by simpa using hlt
      obtain rfl : i = xs.length := by omega
      rw [List.take_of_length_le (Nat.le_refl _)] at hA
      right
      rw [hA]
      simp only [if_true]
      simp (disch := first|assumption|omega) only [S0,rA,rQ,rB,rT,rE, d]
    ·rw [hA0]
     simp only [Bool.false_eq_true, if_false]
     simp (disch := first|assumption|omega) only [S0,rA,rQ,rB,rT,rE]
   ·have hnl : (numsOf 4 xs).length = 4 := by rw [numsOf_len]; omega
    have hyes := hyes hA0
    have ecn : cmdN 1 (numsOf 4 xs) = ⟨1, atI (numsOf 4 xs) 0, atI (numsOf 4 xs) 1, atI (numsOf 4 xs) 2, atI (numsOf 4 xs) 3⟩ := rfl
    rw [ecn] at hno hyes
    have eg := spec_l2Code 1 (atI (numsOf 4 xs) 0) (atI (numsOf 4 xs) 1) (atI (numsOf 4 xs) 2) (atI (numsOf 4 xs) 3)
    have ek := @cmdCode_one (atI (numsOf 4 xs) 0) (atI (numsOf 4 xs) 1) (atI (numsOf 4 xs) 2) (atI (numsOf 4 xs) 3)
    cases q4 : cmdOk ⟨1, atI (numsOf 4 xs) 0, atI (numsOf 4 xs) 1, atI (numsOf 4 xs) 2, atI (numsOf 4 xs) 3⟩
    ·rw [hno (.inr (.inr (.inr q4)))]
     rw [q4] at ek
     refine ⟨cmdCode ⟨1, atI (numsOf 4 xs) 0, atI (numsOf 4 xs) 1, atI (numsOf 4 xs) 2, atI (numsOf 4 xs) 3⟩, ?_⟩
     simp (disch := first|assumption|omega) only [S0,rA,rQ,rB,rT,rE, esp, S_row, t_eq, q1, dl, emk, esub]
     rw [whileE (if allNum 4 xs then (.yield 2, [rL (fillN xs xs.length)]) else (.ret, [i64 0, i64 0, i64 0, i64 0, i64 0, i64 3, .bool false])) (fun i : Nat => xs.length - i) (fun i : Nat => i <= xs.length /\ allNum 4 (xs.take i) = true) (fun i => [rL (fillN xs i), i64 i]) 0 rfl (by simp [allNum]) (by split <;> simp)]
     rotate_left
     ·rintro i ⟨hi, hA⟩
      by_cases hlt : i < xs.length
      ·have d : decide ((i : Int) < (xs.length : Int)) = true := by simpa using hlt
       have hb : InB xs (i : Int) := InB_nat.2 hlt
       have e := spec_l1Read (atI xs (i : Int)) (hdr _ (at_mem hlt))
       have l1 := fillN_len (ws := xs) (i := i) (by omega) (by omega)
       have l2 := fillN_len (ws := xs) (i := i + 1) (by omega) (by omega)
       have hb1 : InB (fillN xs i) (i : Int) := by unfold InB; omega
       have hb2 : InB (fillN xs (i + 1)) (i : Int) := by unfold InB; omega
       have ef := fillN_set hlt (by omega)
       have ea : atI (fillN xs (i + 1)) (i : Int) = digM (atI xs (i : Int)) 6 := by rw [<- ef]; exact S_upd.1 hb1
       by_cases h4 : 4 < ((atI xs (i : Int)).length : Int)
       ·have d4 : decide (4 < ((atI xs (i : Int)).length : Int)) = true := by simpa using h4
        right
        rw [allNum_bad hlt (digM_long h4)]
        simp only [Bool.false_eq_true, if_false]
        simp (disch := first|assumption|omega) only [S0,rA,rQ,rB,rT,rE, d, S_row, e, S_set, ef, ea, t_slen, d4]
       ·have d4 : decide (4 < ((atI xs (i : Int)).length : Int)) = false := by simpa using h4
        have e4 := digM_short (s := atI xs (i : Int)) (by omega)
        rcases (show digM (atI xs (i : Int)) 6 < 0 \/ 0 <= digM (atI xs (i : Int)) 6 by omega) with h0 | h0
        ·have d0 : decide (digM (atI xs (i : Int)) 6 < 0) = true := by simpa using h0
         right
         rw [allNum_bad hlt (by rw [e4]; exact h0)]
         simp only [Bool.false_eq_true, if_false]
         simp (disch := first|assumption|omega) only [S0,rA,rQ,rB,rT,rE, d, S_row, e, S_set, ef, ea, t_slen, d4, d0]
        ·have d0 : decide (digM (atI xs (i : Int)) 6 < 0) = false := by simp; omega
         refine .inl ⟨i + 1, ?_, ⟨by omega, by rw [allNum_succ hlt, hA, e4, decide_eq_true h0]; rfl⟩, by omega⟩
         simp (disch := first|assumption|omega) only [S0,rA,rQ,rB,rT,rE, d, S_row, e, S_set, ef, ea, t_slen, d4, d0]
      ·have d : decide ((i : Int) < (xs.length : Int)) = false := by simpa using hlt
       obtain rfl : i = xs.length := by omega
       rw [List.take_of_length_le (Nat.le_refl _)] at hA
       right
       rw [hA]
       simp only [if_true]
       simp (disch := first|assumption|omega) only [S0,rA,rQ,rB,rT,rE, d]
     rw [hA0]
     simp only [if_true]
     have efl : fillN xs xs.length = numsOf 4 xs := by
      unfold fillN
      rw [List.take_of_length_le (Nat.le_refl _), numsOf_up hA0 (by decide), hx4]
      exact List.append_nil _
     rw [efl]
     generalize numsOf 4 xs = ns at *
     have c0 : InB ns 0 := by unfold InB; omega
     have c1 : InB ns 1 := by unfold InB; omega
     have c2 : InB ns 2 := by unfold InB; omega
     have c3 : InB ns 3 := by unfold InB; omega
     simp (disch := first|assumption|omega) only [S0,rA,rQ,rB,rT,rE, S_row, eg, ek]
    ·rw [hyes q4]
     rw [q4] at ek
     refine ⟨0, ?_⟩
     simp (disch := first|assumption|omega) only [S0,rA,rQ,rB,rT,rE, esp, S_row, t_eq, q1, dl, emk, esub]
     rw [whileE (if allNum 4 xs then (.yield 2, [rL (fillN xs xs.length)]) else (.ret, [i64 0, i64 0, i64 0, i64 0, i64 0, i64 3, .bool false])) (fun i : Nat => xs.length - i) (fun i : Nat => i <= xs.length /\ allNum 4 (xs.take i) = true) (fun i => [rL (fillN xs i), i64 i]) 0 rfl (by simp [allNum]) (by split <;> simp)]
     rotate_left
     ·rintro i ⟨hi, hA⟩
      by_cases hlt : i < xs.length
      ·have d : decide ((i : Int) < (xs.length : Int)) = true := by simpa using hlt
       have hb : InB xs (i : Int) := InB_nat.2 hlt
       have e := spec_l1Read (atI xs (i : Int)) (hdr _ (at_mem hlt))
       have l1 := fillN_len (ws := xs) (i := i) (by omega) (by omega)
       have l2 := fillN_len (ws := xs) (i := i + 1) (by omega) (by omega)
       have hb1 : InB (fillN xs i) (i : Int) := by unfold InB; omega
       have hb2 : InB (fillN xs (i + 1)) (i : Int) := by unfold InB; omega
       have ef := fillN_set hlt (by omega)
       have ea : atI (fillN xs (i + 1)) (i : Int) = digM (atI xs (i : Int)) 6 := by rw [<- ef]; exact S_upd.1 hb1
       by_cases h4 : 4 < ((atI xs (i : Int)).length : Int)
       ·have d4 : decide (4 < ((atI xs (i : Int)).length : Int)) = true := by simpa using h4
        right
        rw [allNum_bad hlt (digM_long h4)]
        simp only [Bool.false_eq_true, if_false]
        simp (disch := first|assumption|omega) only [S0,rA,rQ,rB,rT,rE, d, S_row, e, S_set, ef, ea, t_slen, d4]
       ·have d4 : decide (4 < ((atI xs (i : Int)).length : Int)) = false := by simpa using h4
        have e4 := digM_short (s := atI xs (i : Int)) (by omega)
        rcases (show digM (atI xs (i : Int)) 6 < 0 \/ 0 <= digM (atI xs (i : Int)) 6 by omega) with h0 | h0
        ·have d0 : decide (digM (atI xs (i : Int)) 6 < 0) = true := by simpa using h0
         right
         rw [allNum_bad hlt (by rw [e4]; exact h0)]
         simp only [Bool.false_eq_true, if_false]
         simp (disch := first|assumption|omega) only [S0,rA,rQ,rB,rT,rE, d, S_row, e, S_set, ef, ea, t_slen, d4, d0]
        ·have d0 : decide (digM (atI xs (i : Int)) 6 < 0) = false := by simp; omega
         refine .inl ⟨i + 1, ?_, ⟨by omega, by rw [allNum_succ hlt, hA, e4, decide_eq_true h0]; rfl⟩, by omega⟩
         simp (disch := first|assumption|omega) only [S0,rA,rQ,rB,rT,rE, d, S_row, e, S_set, ef, ea, t_slen, d4, d0]
      ·have d : decide ((i : Int) < (xs.length : Int)) = false := by simpa using hlt
       obtain rfl : i = xs.length := by omega
       rw [List.take_of_length_le (Nat.le_refl _)] at hA
       right
       rw [hA]
       simp only [if_true]
       simp (disch := first|assumption|omega) only [S0,rA,rQ,rB,rT,rE, d]
     rw [hA0]
     simp only [if_true]
     have efl : fillN xs xs.length = numsOf 4 xs := by
      unfold fillN
      rw [List.take_of_length_le (Nat.le_refl _), numsOf_up hA0 (by decide), hx4]
      exact List.append_nil _
     rw [efl]
     generalize numsOf 4 xs = ns at *
     have c0 : InB ns 0 := by unfold InB; omega
     have c1 : InB ns 1 := by unfold InB; omega
     have c2 : InB ns 2 := by unfold InB; omega
     have c3 : InB ns 3 := by unfold InB; omega
     simp (disch := first|assumption|omega) only [S0,rA,rQ,rB,rT,rE, S_row, eg, ek]
  ·have dl : ((ws.length : Int) == 5) = false := by simpa using hl
   rw [cmdWs_no (.inr (.inl (by rw [k]; exact hl)))]
   refine ⟨2, ?_⟩
   simp (disch := first|assumption|omega) only [S0,rA,rQ,rB,rT,rE, esp, S_row, t_eq, q1, dl]
 ·have q1 : (atI ws 0 == [109, 111, 118, 101]) = false := by rw [kindB_two k]; rfl
  have q2 : (atI ws 0 == [114, 101, 97, 100]) = true := by rw [kindB_two k]; rfl
  by_cases hl : (ws.length : Int) = 3
  ·have dl : ((ws.length : Int) == 3) = true := by simpa using hl
   have emk : (Prim.make 8 [(.int .i64 0)]).run [i64 4] = some [rL (fillN (ws.drop 1) 0)] := by
    have := S_make.1 (n := 4) (by omega) (by omega)
    rw [this]
    rfl
   have hno := cmdWs_no (ws := ws)
   have hyes := cmdWs_yes (ws := ws) k (by decide) hl
   rw [k] at hno
   generalize hxs : ws.drop 1 = xs at *
   have hx4 : xs.length = 2 := by omega
   cases hA0 : allNum 4 xs
   ·rw [hno (.inr (.inr (.inl hA0)))]
    refine ⟨3, ?_⟩
    simp (disch := first|assumption|omega) only [S0,rA,rQ,rB,rT,rE, esp, S_row, t_eq, q1, q2, dl, emk, esub]
    rw [whileE (if allNum 4 xs then (.yield 2, [rL (fillN xs xs.length)]) else (.ret, [i64 0, i64 0, i64 0, i64 0, i64 0, i64 3, .bool false])) (fun i : Nat => xs.length - i) (fun i : Nat => i <= xs.length /\ allNum 4 (xs.take i) = true) (fun i => [rL (fillN xs i), i64 i]) 0 rfl (by simp [allNum]) (by split <;> simp)]
    rotate_left
    ·rintro i ⟨hi, hA⟩
     by_cases hlt : i < xs.length
     ·have d : decide ((i : Int) < (xs.length : Int)) = true := by simpa using hlt
      have hb : InB xs (i : Int) := InB_nat.2 hlt
      have e := spec_l1Read (atI xs (i : Int)) (hdr _ (at_mem hlt))
      have l1 := fillN_len (ws := xs) (i := i) (by omega) (by omega)
      have l2 := fillN_len (ws := xs) (i := i + 1) (by omega) (by omega)
      have hb1 : InB (fillN xs i) (i : Int) := by unfold InB; omega
      have hb2 : InB (fillN xs (i + 1)) (i : Int) := by unfold InB; omega
      have ef := fillN_set hlt (by omega)
      have ea : atI (fillN xs (i + 1)) (i : Int) = digM (atI xs (i : Int)) 6 := by rw [<- ef]; exact S_upd.1 hb1
      by_cases h4 : 4 < ((atI xs (i : Int)).length : Int)
      ·have d4 : decide (4 < ((atI xs (i : Int)).length : Int)) = true := by simpa using h4
       right
       rw [allNum_bad hlt (digM_long h4)]
       simp only [Bool.false_eq_true, if_false]
       simp (disch := first|assumption|omega) only [S0,rA,rQ,rB,rT,rE, d, S_row, e, S_set, ef, ea, t_slen, d4]
      ·have d4 : decide (4 < ((atI xs (i : Int)).length : Int)) = false := by simpa using h4
       have e4 := digM_short (s := atI xs (i : Int)) (by omega)
       rcases (show digM (atI xs (i : Int)) 6 < 0 \/ 0 <= digM (atI xs (i : Int)) 6 by omega) with h0 | h0
       ·have d0 : decide (digM (atI xs (i : Int)) 6 < 0) = true := by simpa using h0
        right
        rw [allNum_bad hlt (by rw [e4]; exact h0)]
        simp only [Bool.false_eq_true, if_false]
        simp (disch := first|assumption|omega) only [S0,rA,rQ,rB,rT,rE, d, S_row, e, S_set, ef, ea, t_slen, d4, d0]
       ·have d0 : decide (digM (atI xs (i : Int)) 6 < 0) = false := by simp; omega
        refine .inl ⟨i + 1, ?_, ⟨by omega, by rw [allNum_succ hlt, hA, e4, decide_eq_true h0]; rfl⟩, by omega⟩
        simp (disch := first|assumption|omega) only [S0,rA,rQ,rB,rT,rE, d, S_row, e, S_set, ef, ea, t_slen, d4, d0]
     ·have d : decide ((i : Int) < (xs.length : Int)) = false := by simpa using hlt
      obtain rfl : i = xs.length := by omega
      rw [List.take_of_length_le (Nat.le_refl _)] at hA
      right
      rw [hA]
      simp only [if_true]
      simp (disch := first|assumption|omega) only [S0,rA,rQ,rB,rT,rE, d]
    ·rw [hA0]
     simp only [Bool.false_eq_true, if_false]
     simp (disch := first|assumption|omega) only [S0,rA,rQ,rB,rT,rE]
   ·have hnl : (numsOf 4 xs).length = 2 := by rw [numsOf_len]; omega
    have hyes := hyes hA0
    have ecn : cmdN 2 (numsOf 4 xs) = ⟨2, atI (numsOf 4 xs) 0, atI (numsOf 4 xs) 1, 0, 0⟩ := rfl
    rw [ecn] at hno hyes
    have eg := spec_l2Code 2 (atI (numsOf 4 xs) 0) (atI (numsOf 4 xs) 1) (0) (0)
    have ek := @cmdCode_two (atI (numsOf 4 xs) 0) (atI (numsOf 4 xs) 1)
    cases q4 : cmdOk ⟨2, atI (numsOf 4 xs) 0, atI (numsOf 4 xs) 1, 0, 0⟩
    ·rw [hno (.inr (.inr (.inr q4)))]
     rw [q4] at ek
     refine ⟨cmdCode ⟨2, atI (numsOf 4 xs) 0, atI (numsOf 4 xs) 1, 0, 0⟩, ?_⟩
     simp (disch := first|assumption|omega) only [S0,rA,rQ,rB,rT,rE, esp, S_row, t_eq, q1, q2, dl, emk, esub]
     rw [whileE (if allNum 4 xs then (.yield 2, [rL (fillN xs xs.length)]) else (.ret, [i64 0, i64 0, i64 0, i64 0, i64 0, i64 3, .bool false])) (fun i : Nat => xs.length - i) (fun i : Nat => i <= xs.length /\ allNum 4 (xs.take i) = true) (fun i => [rL (fillN xs i), i64 i]) 0 rfl (by simp [allNum]) (by split <;> simp)]
     rotate_left
     ·rintro i ⟨hi, hA⟩
      by_cases hlt : i < xs.length
      ·have d : decide ((i : Int) < (xs.length : Int)) = true := by simpa using hlt
       have hb : InB xs (i : Int) := InB_nat.2 hlt
       have e := spec_l1Read (atI xs (i : Int)) (hdr _ (at_mem hlt))
       have l1 := fillN_len (ws := xs) (i := i) (by omega) (by omega)
       have l2 := fillN_len (ws := xs) (i := i + 1) (by omega) (by omega)
       have hb1 : InB (fillN xs i) (i : Int) := by unfold InB; omega
       have hb2 : InB (fillN xs (i + 1)) (i : Int) := by unfold InB; omega
       have ef := fillN_set hlt (by omega)
       have ea : atI (fillN xs (i + 1)) (i : Int) = digM (atI xs (i : Int)) 6 := by rw [<- ef]; exact S_upd.1 hb1
       by_cases h4 : 4 < ((atI xs (i : Int)).length : Int)
       ·have d4 : decide (4 < ((atI xs (i : Int)).length : Int)) = true := by simpa using h4
        right
        rw [allNum_bad hlt (digM_long h4)]
        simp only [Bool.false_eq_true, if_false]
        simp (disch := first|assumption|omega) only [S0,rA,rQ,rB,rT,rE, d, S_row, e, S_set, ef, ea, t_slen, d4]
       ·have d4 : decide (4 < ((atI xs (i : Int)).length : Int)) = false := by simpa using h4
        have e4 := digM_short (s := atI xs (i : Int)) (by omega)
        rcases (show digM (atI xs (i : Int)) 6 < 0 \/ 0 <= digM (atI xs (i : Int)) 6 by omega) with h0 | h0
        ·have d0 : decide (digM (atI xs (i : Int)) 6 < 0) = true := by simpa using h0
         right
         rw [allNum_bad hlt (by rw [e4]; exact h0)]
         simp only [Bool.false_eq_true, if_false]
         simp (disch := first|assumption|omega) only [S0,rA,rQ,rB,rT,rE, d, S_row, e, S_set, ef, ea, t_slen, d4, d0]
        ·have d0 : decide (digM (atI xs (i : Int)) 6 < 0) = false := by simp; omega
         refine .inl ⟨i + 1, ?_, ⟨by omega, by rw [allNum_succ hlt, hA, e4, decide_eq_true h0]; rfl⟩, by omega⟩
         simp (disch := first|assumption|omega) only [S0,rA,rQ,rB,rT,rE, d, S_row, e, S_set, ef, ea, t_slen, d4, d0]
      ·have d : decide ((i : Int) < (xs.length : Int)) = false := by simpa using hlt
       obtain rfl : i = xs.length := by omega
       rw [List.take_of_length_le (Nat.le_refl _)] at hA
       right
       rw [hA]
       simp only [if_true]
       simp (disch := first|assumption|omega) only [S0,rA,rQ,rB,rT,rE, d]
     rw [hA0]
     simp only [if_true]
     have efl : fillN xs xs.length = numsOf 4 xs ++ [0, 0] := by
      unfold fillN
      rw [List.take_of_length_le (Nat.le_refl _), numsOf_up hA0 (by decide), hx4]
      rfl
     rw [efl]
     generalize numsOf 4 xs = ns at *
     have g0 : InB (ns ++ [0, 0]) 0 := by unfold InB; simp; omega
     have g1 : InB (ns ++ [0, 0]) 1 := by unfold InB; simp; omega
     have g2 : InB (ns ++ [0, 0]) 2 := by unfold InB; simp; omega
     have g3 : InB (ns ++ [0, 0]) 3 := by unfold InB; simp; omega
     have y0 : atI (ns ++ [0, 0]) 0 = atI ns 0 := by obtain ⟨a, b, rfl⟩ := list2 hnl; rfl
     have y1 : atI (ns ++ [0, 0]) 1 = atI ns 1 := by obtain ⟨a, b, rfl⟩ := list2 hnl; rfl
     have y2 : atI (ns ++ [0, 0]) 2 = 0 := by obtain ⟨a, b, rfl⟩ := list2 hnl; rfl
     have y3 : atI (ns ++ [0, 0]) 3 = 0 := by obtain ⟨a, b, rfl⟩ := list2 hnl; rfl
     simp (disch := first|assumption|omega) only [S0,rA,rQ,rB,rT,rE, S_row, y0, y1, y2, y3, eg, ek]
    ·rw [hyes q4]
     rw [q4] at ek
     refine ⟨0, ?_⟩
     simp (disch := first|assumption|omega) only [S0,rA,rQ,rB,rT,rE, esp, S_row, t_eq, q1, q2, dl, emk, esub]
     rw [whileE (if allNum 4 xs then (.yield 2, [rL (fillN xs xs.length)]) else (.ret, [i64 0, i64 0, i64 0, i64 0, i64 0, i64 3, .bool false])) (fun i : Nat => xs.length - i) (fun i : Nat => i <= xs.length /\ allNum 4 (xs.take i) = true) (fun i => [rL (fillN xs i), i64 i]) 0 rfl (by simp [allNum]) (by split <;> simp)]
     rotate_left
     ·rintro i ⟨hi, hA⟩
      by_cases hlt : i < xs.length
      ·have d : decide ((i : Int) < (xs.length : Int)) = true := by simpa using hlt
       have hb : InB xs (i : Int) := InB_nat.2 hlt
       have e := spec_l1Read (atI xs (i : Int)) (hdr _ (at_mem hlt))
       have l1 := fillN_len (ws := xs) (i := i) (by omega) (by omega)
       have l2 := fillN_len (ws := xs) (i := i + 1) (by omega) (by omega)
       have hb1 : InB (fillN xs i) (i : Int) := by unfold InB; omega
       have hb2 : InB (fillN xs (i + 1)) (i : Int) := by unfold InB; omega
       have ef := fillN_set hlt (by omega)
       have ea : atI (fillN xs (i + 1)) (i : Int) = digM (atI xs (i : Int)) 6 := by rw [<- ef]; exact S_upd.1 hb1
       by_cases h4 : 4 < ((atI xs (i : Int)).length : Int)
       ·have d4 : decide (4 < ((atI xs (i : Int)).length : Int)) = true := by simpa using h4
        right
        rw [allNum_bad hlt (digM_long h4)]
        simp only [Bool.false_eq_true, if_false]
        simp (disch := first|assumption|omega) only [S0,rA,rQ,rB,rT,rE, d, S_row, e, S_set, ef, ea, t_slen, d4]
       ·have d4 : decide (4 < ((atI xs (i : Int)).length : Int)) = false := by simpa using h4
        have e4 := digM_short (s := atI xs (i : Int)) (by omega)
        rcases (show digM (atI xs (i : Int)) 6 < 0 \/ 0 <= digM (atI xs (i : Int)) 6 by omega) with h0 | h0
        ·have d0 : decide (digM (atI xs (i : Int)) 6 < 0) = true := by simpa using h0
         right
         rw [allNum_bad hlt (by rw [e4]; exact h0)]
         simp only [Bool.false_eq_true, if_false]
         simp (disch := first|assumption|omega) only [S0,rA,rQ,rB,rT,rE, d, S_row, e, S_set, ef, ea, t_slen, d4, d0]
        ·have d0 : decide (digM (atI xs (i : Int)) 6 < 0) = false := by simp; omega
         refine .inl ⟨i + 1, ?_, ⟨by omega, by rw [allNum_succ hlt, hA, e4, decide_eq_true h0]; rfl⟩, by omega⟩
         simp (disch := first|assumption|omega) only [S0,rA,rQ,rB,rT,rE, d, S_row, e, S_set, ef, ea, t_slen, d4, d0]
      ·have d : decide ((i : Int) < (xs.length : Int)) = false := by simpa using hlt
       obtain rfl : i = xs.length := by omega
       rw [List.take_of_length_le (Nat.le_refl _)] at hA
       right
       rw [hA]
       simp only [if_true]
       simp (disch := first|assumption|omega) only [S0,rA,rQ,rB,rT,rE, d]
     rw [hA0]
     simp only [if_true]
     have efl : fillN xs xs.length = numsOf 4 xs ++ [0, 0] := by
      unfold fillN
      rw [List.take_of_length_le (Nat.le_refl _), numsOf_up hA0 (by decide), hx4]
      rfl
     rw [efl]
     generalize numsOf 4 xs = ns at *
     have g0 : InB (ns ++ [0, 0]) 0 := by unfold InB; simp; omega
     have g1 : InB (ns ++ [0, 0]) 1 := by unfold InB; simp; omega
     have g2 : InB (ns ++ [0, 0]) 2 := by unfold InB; simp; omega
     have g3 : InB (ns ++ [0, 0]) 3 := by unfold InB; simp; omega
     have y0 : atI (ns ++ [0, 0]) 0 = atI ns 0 := by obtain ⟨a, b, rfl⟩ := list2 hnl; rfl
     have y1 : atI (ns ++ [0, 0]) 1 = atI ns 1 := by obtain ⟨a, b, rfl⟩ := list2 hnl; rfl
     have y2 : atI (ns ++ [0, 0]) 2 = 0 := by obtain ⟨a, b, rfl⟩ := list2 hnl; rfl
     have y3 : atI (ns ++ [0, 0]) 3 = 0 := by obtain ⟨a, b, rfl⟩ := list2 hnl; rfl
     simp (disch := first|assumption|omega) only [S0,rA,rQ,rB,rT,rE, S_row, y0, y1, y2, y3, eg, ek]
  ·have dl : ((ws.length : Int) == 3) = false := by simpa using hl
   rw [cmdWs_no (.inr (.inl (by rw [k]; exact hl)))]
   refine ⟨2, ?_⟩
   simp (disch := first|assumption|omega) only [S0,rA,rQ,rB,rT,rE, esp, S_row, t_eq, q1, q2, dl]
 ·obtain ⟨q3, q1, q2⟩ := kindB_neg k
  rw [cmdWs_no (.inl (by rw [k]; decide))]
  refine ⟨1, ?_⟩
  simp (disch := first|assumption|omega) only [S0,rA,rQ,rB,rT,rE, esp, S_row, t_eq, q1, q2, q3]
theorem lite_Cut_no (s : List UInt8) (b : UInt8) (h : b ∉ s) : Fun T 45 [.str s, .str [b]] = some [.str s, .str [], .bool false] := by
 rw [Fun_k (t := tm45) rfl]; unfold tm45
 have e := lite_Index s b
 rw [ix_none h] at e
 have d : decide ((0 : Int) <= -1) = false := rfl
 simp (disch := first|assumption|omega) only [S0,rA,rQ,rB,rT,rE, e, d]
theorem lite_Cut_at (p t : List UInt8) (b : UInt8) (h : b ∉ p) (hpl : p.length <= 1000000000) : Fun T 45 [.str (p ++ b :: t), .str [b]] = some [.str p, .str t, .bool true] := by
 rw [Fun_k (t := tm45) rfl]; unfold tm45
 have e := lite_Index (p ++ b :: t) b
 rw [ix_app t h] at e
 have d : decide ((0 : Int) <= (p.length : Int)) = true := by simp
 have hl : (p ++ b :: t).length = p.length + t.length + 1 := by simp; omega
 have e1 : Prim.slen.run [.str [b]] = some [i64 1] := rfl
 generalize hs : p ++ b :: t = s at *
 have es1 := t_ssub (s := s) (lo := 0) (hi := (p.length : Int)) (by omega) (by omega) (by omega)
 have es2 := t_ssub (s := s) (lo := (p.length : Int) + 1) (hi := (s.length : Int)) (by omega) (by omega) (by omega)
 have et1 : (s.take (p.length : Int).toNat).drop (0 : Int).toNat = p := by
  rw [Int.toNat_natCast, <- hs]; simp
 have et2 : (s.take (s.length : Int).toNat).drop ((p.length : Int) + 1).toNat = t := by
  rw [Int.toNat_natCast, List.take_of_length_le (Nat.le_refl _), show ((p.length : Int) + 1).toNat = p.length + 1 by omega, <- hs]
  rw [List.drop_append]
  simp
 rw [et1] at es1
 rw [et2] at es2
 simp (disch := first|assumption|omega) only [S0,rA,rQ,rB,rT,rE, e, d, es1, e1, t_slen, es2]
theorem strings_Cut_no (s : List UInt8) (b : UInt8) (h : b ∉ s) : Fun T 44 [.str s, .str [b]] = some [.str s, .str [], .bool false] := by
 rw [Fun_k (t := tm44) rfl]; unfold tm44
 simp (disch := first|assumption|omega) only [S0,rA,rQ,rB,rT,rE, lite_Cut_no]
theorem strings_Cut_at (p t : List UInt8) (b : UInt8) (h : b ∉ p) (hpl : p.length <= 1000000000) : Fun T 44 [.str (p ++ b :: t), .str [b]] = some [.str p, .str t, .bool true] := by
 rw [Fun_k (t := tm44) rfl]; unfold tm44
 simp (disch := first|assumption|omega) only [S0,rA,rQ,rB,rT,rE, lite_Cut_at]
theorem impl_ReadAttr (n : Int) (s : List UInt8) (hs : s.length <= 1000000000) : Fun T 43 [i64 n, .str s] = some [i64 (attrB n s).1.seq, rL (attrB n s).1.deps, .bool (attrB n s).2] := by
 rw [Fun_k (t := tm43) rfl]; unfold tm43
 by_cases hm : (58 : UInt8) ∈ s
 ·obtain ⟨p, t, hst, hp, _⟩ := ix_some hm
  rw [attrB_cut hst hp]
  have hsl : s.length = p.length + t.length + 1 := by rw [hst]; simp; omega
  have ec := strings_Cut_at p t 58 hp (by omega)
  rw [<- hst] at ec
  have ed := impl_digits p 3 (by decide) (by decide) (by omega)
  have esp := strings_Split t 44 (by omega)
  have htm : ∀ w ∈ splitB 44 t, w.length <= 1000000000 := fun w hw => by have := (splitB_mem hw).2; omega
  have htl : (splitB 44 t).length <= 1000000001 := by
   rw [splitB_len]
   have : t.count 44 <= t.length := List.count_le_length
   omega
  have en := impl_numbers (splitB 44 t) 1 (by decide) (by decide) htm htl
  have eg := impl_GoodAttr n (digM p 3) (numsOf 1 (splitB 44 t)) (by rw [numsOf_len]; omega)
  cases hA : allNum 1 (splitB 44 t)
  ·have hN := numR_no hA
   simp only [Bool.not_false, Bool.true_or, if_true]
   simp (disch := first|assumption|omega) only [S0,rA,rQ,rB,rT,rE, ec, ed, esp, en, hN]
   rfl
  ·have hN := numR_yes hA
   cases d4 : decide (40 < (s.length : Int))
   ·cases hG : isGrp n && attrOk n ⟨digM p 3, numsOf 1 (splitB 44 t)⟩
    ·simp only [Bool.not_true, Bool.not_false, Bool.or_true, if_true]
     simp (disch := first|assumption|omega) only [S0,rA,rQ,rB,rT,rE, ec, ed, esp, en, hN, t_slen, d4, eg, hG]
     rfl
    ·simp only [Bool.not_true, Bool.or_false, Bool.false_eq_true, if_false]
     simp (disch := first|assumption|omega) only [S0,rA,rQ,rB,rT,rE, ec, ed, esp, en, hN, t_slen, d4, eg, hG]
   ·simp only [Bool.not_true, Bool.or_true, Bool.true_or, if_true]
    simp (disch := first|assumption|omega) only [S0,rA,rQ,rB,rT,rE, ec, ed, esp, en, hN, t_slen, d4]
    rfl
 ·rw [attrB_none hm]
  have ec := strings_Cut_no s 58 hm
  have ed := impl_digits s 3 (by decide) (by decide) hs
  have esp : Fun T 22 [.str [], .str [44]] = some [rL [[]]] := strings_Split [] 44 (by simp)
  have en := impl_numbers [[]] 1 (by decide) (by decide) (by simp) (by simp)
  have hN : numR 1 [[]] = ([], false) := rfl
  simp (disch := first|assumption|omega) only [S0,rA,rQ,rB,rT,rE, ec, ed, esp, en, hN]
  rfl
theorem spec_GoodAttr (n s : Int) (xs : List Int) (hx : xs.length <= 1099511627776) : Fun T 11 [i64 n, i64 s, rL xs] = some [.bool (isGrp n && attrOk n ⟨s, xs⟩)] := by
 rw [Fun_k (t := tm11) rfl]; unfold tm11
 (refine fork_in ?_; repeat' (refine fork_eq ?_ ?_<;>intro _<;>try simp (disch := first|assumption|omega) only [S0,rA,rQ,rB,rT,rE,spec_IsGroup,spec_l3Attr, *]))
theorem spec_ReadAttr (n : Int) (s : List UInt8) (hs : s.length <= 1000000000) : Fun T 10 [i64 n, .str s] = some [i64 (attrB n s).1.seq, rL (attrB n s).1.deps, .bool (attrB n s).2] := by
 rw [Fun_k (t := tm10) rfl]; unfold tm10
 have esp : Fun T 2 [.str s, .int .u8 58] = some [rL (splitB 58 s)] := spec_l1Split s 58 hs
 have hsm : ∀ w ∈ splitB 58 s, w.length <= s.length := fun w hw => (splitB_mem hw).2
 unfold attrB attrWs
 generalize splitB 58 s = ps at *
 cases d4 : decide (40 < (s.length : Int))
 rotate_left
 ·simp only [Bool.true_or, if_true]
  simp (disch := first|assumption|omega) only [S0,rA,rQ,rB,rT,rE, esp, t_slen, d4]
  rfl
 cases d2 : (ps.length : Int) == 2
 ·simp only [Bool.not_false, Bool.or_true, Bool.true_or, if_true]
  simp (disch := first|assumption|omega) only [S0,rA,rQ,rB,rT,rE, esp, t_slen, d4, d2]
  rfl
 ·have hl2 : (ps.length : Int) = 2 := by simpa using d2
  have b0 : InB ps 0 := by unfold InB; omega
  have b1 : InB ps 1 := by unfold InB; omega
  have m0 := hsm _ (at_memI b0)
  have m1 := hsm _ (at_memI b1)
  have er := spec_l1Read (atI ps 0) (by omega)
  have esp2 : Fun T 2 [.str (atI ps 1), .int .u8 44] = some [rL (splitB 44 (atI ps 1))] := spec_l1Split (atI ps 1) 44 (by omega)
  have htm : ∀ w ∈ splitB 44 (atI ps 1), w.length <= 1000000000 := fun w hw => by have := (splitB_mem hw).2; omega
  have htl : (splitB 44 (atI ps 1)).length <= 1000000001 := by
   rw [splitB_len]
   have : (atI ps 1).count 44 <= (atI ps 1).length := List.count_le_length
   omega
  simp (disch := first|assumption|omega) only [S0,rA,rQ,rB,rT,rE, esp, t_slen, d4, d2, S_row, er, esp2]
  generalize splitB 44 (atI ps 1) = ws at *
  rw [whileE (.yield 1, [rL (numsOf 6 ws)]) (fun i : Nat => ws.length - i) (fun i : Nat => i <= ws.length) (fun i => [i64 i, rL (numsOf 6 (ws.take i))]) 0 rfl (by simp) (by simp)]
  rotate_left
  ·intro i hi
   by_cases hlt : i < ws.length
   ·have d : decide ((i : Int) < (ws.length : Int)) = true := by simpa using hlt
    have hb : InB ws (i : Int) := InB_nat.2 hlt
    have e := spec_l1Read (atI ws (i : Int)) (htm _ (at_mem hlt))
    have z : (numsOf 6 (ws.take i)).length + ([digM (atI ws (i : Int)) 6] : List Int).length <= 100000000000 := by rw [numsOf_len, List.length_take]; simp only [List.length_cons, List.length_nil]; omega
    have e3 := (numsOf_succ (m := 6) hlt).symm
    refine .inl ⟨i + 1, ?_, by omega, by omega⟩
    simp (disch := first|assumption|omega) only [S0,rA,rQ,rB,rT,rE, d, S_row, e, S_mk, S_app, e3]
   ·have d : decide ((i : Int) < (ws.length : Int)) = false := by simpa using hlt
    obtain rfl : i = ws.length := by omega
    right
    rw [List.take_of_length_le (Nat.le_refl _)]
    simp (disch := first|assumption|omega) only [S0,rA,rQ,rB,rT,rE, d]
  ·have eg := spec_GoodAttr n (digM (atI ps 0) 6) (numsOf 6 ws) (by rw [numsOf_len]; omega)
   cases hG : isGrp n && attrOk n ⟨digM (atI ps 0) 6, numsOf 6 ws⟩
   ·simp only [Bool.not_true, Bool.not_false, Bool.or_true, if_true]
    simp (disch := first|assumption|omega) only [S0,rA,rQ,rB,rT,rE, eg, hG]
    rfl
   ·simp only [Bool.not_true, Bool.or_false, Bool.false_eq_true, if_false]
    simp (disch := first|assumption|omega) only [S0,rA,rQ,rB,rT,rE, eg, hG]
theorem spec_l7Words : Fun T 4 [] = some [rL wordsM] := by
 rw [Fun_k (t := tm4) rfl]; unfold tm4
 have e : (Prim.mk 1 8).run [.str [], .str [112, 114, 101], .str [112, 114, 101, 111, 107], .str [97, 99, 99], .str [97, 99, 99, 111, 107], .str [99, 111, 109], .str [112, 114, 101, 112], .str [112, 114, 101, 112, 111, 107]] = some [rL wordsM] := rfl
 simp (disch := first|assumption|omega) only [S0,rA,rQ,rB,rT,rE, e]
theorem impl_msgWords : Fun T 35 [] = some [rL wordsM] := by
 rw [Fun_k (t := tm35) rfl]; unfold tm35
 have e : (Prim.mk 1 8).run [.str [], .str [112, 114, 101], .str [112, 114, 101, 111, 107], .str [97, 99, 99], .str [97, 99, 99, 111, 107], .str [99, 111, 109], .str [112, 114, 101, 112], .str [112, 114, 101, 112, 111, 107]] = some [rL wordsM] := rfl
 simp (disch := first|assumption|omega) only [S0,rA,rQ,rB,rT,rE, e]
theorem impl_ReadMsg (n : Int) (s : List UInt8) (hs : s.length <= 1000000000) : Fun T 21 [i64 n, .str s] = some [i64 (readM n s).1.kind, i64 (readM n s).1.src, i64 (readM n s).1.dst, i64 (readM n s).1.rep, i64 (readM n s).1.no, i64 (readM n s).1.ballot, i64 (readM n s).1.vote, i64 (readM n s).1.state,
  i64 (readM n s).1.cmd.kind, i64 (readM n s).1.cmd.id, i64 (readM n s).1.cmd.src, i64 (readM n s).1.cmd.dst, i64 (readM n s).1.cmd.amt, i64 (readM n s).1.attr.seq, rL (readM n s).1.attr.deps, i64 (readM n s).2.1, .bool (readM n s).2.2] := by
 rw [Fun_k (t := tm21) rfl]; unfold tm21
 have esp := strings_Split s 124 hs
 have hsm : ∀ w ∈ splitB 124 s, w.length <= s.length := fun w hw => (splitB_mem hw).2
 unfold readM
 generalize splitB 124 s = ps at *
 unfold readMs
 cases hg : isGrp n
 ·simp only [Bool.not_false, Bool.true_or, if_true]
  simp (disch := first|assumption|omega) only [S0,rA,rQ,rB,rT,rE, esp, impl_IsGroup, hg]
  rfl
 cases d3 : (ps.length : Int) == 3
 ·simp only [Bool.not_true, Bool.not_false, Bool.or_true, if_true]
  simp (disch := first|assumption|omega) only [S0,rA,rQ,rB,rT,rE, esp, impl_IsGroup, hg, d3]
  rfl
 have hl3 : (ps.length : Int) = 3 := by simpa using d3
 have b0 : InB ps 0 := by unfold InB; omega
 have b1 : InB ps 1 := by unfold InB; omega
 have b2 : InB ps 2 := by unfold InB; omega
 have m0 := hsm _ (at_memI b0)
 have m1 := hsm _ (at_memI b1)
 have m2 := hsm _ (at_memI b2)
 have htm : ∀ w ∈ splitB 32 (atI ps 0), w.length <= 1000000000 := fun w hw => by have := (splitB_mem hw).2; omega
 have htl : (splitB 32 (atI ps 0)).length <= 1000000001 := by
  rw [splitB_len]
  have : (atI ps 0).count 32 <= (atI ps 0).length := List.count_le_length
  omega
 have hwn := splitB_ne 32 (atI ps 0)
 have esp2 := strings_Split (atI ps 0) 32 (by omega)
 obtain ⟨code, eC⟩ := impl_ReadCmd (atI ps 1) (by omega)
 have eA := impl_ReadAttr n (atI ps 2) (by omega)
 have lA := attrB_len (n := n) (s := atI ps 2)
 simp only [Bool.not_true, Bool.or_false, Bool.false_eq_true, if_false]
 generalize splitB 32 (atI ps 0) = ws at *
 have hl0 : 0 < ws.length := List.length_pos_iff.2 hwn
 have w0 : InB ws 0 := by unfold InB; omega
 have ei := slices_Index_str wordsM (atI ws 0) (by decide)
 have esub := sub_tail (ws := ws) (by omega)
 have hdr : ∀ w ∈ ws.drop 1, w.length <= 1000000000 := fun w hw => htm w (List.mem_of_mem_drop hw)
 have hdl := drop1_len (ws := ws)
 have en := impl_numbers (ws.drop 1) 4 (by decide) (by decide) hdr (by omega)
 change Fun _ _ _ = some [i64 (kindM (atI ws 0))] at ei
 have hnl : (numsOf 4 (ws.drop 1)).length = ws.length - 1 := by rw [numsOf_len, hdl]
 cases dk : decide (kindM (atI ws 0) < 1)
 rotate_left
 ·simp only [Bool.true_or, if_true]
  simp (disch := first|assumption|omega) only [S0,rA,rQ,rB,rT,rE, esp, impl_IsGroup, hg, d3, S_row, esp2, impl_msgWords, ei, esub, en, dk]
  rfl
 cases hA : allNum 4 (ws.drop 1)
 ·have hN := numR_no hA
  simp only [Bool.not_false, Bool.false_or, Bool.true_or, if_true]
  simp (disch := first|assumption|omega) only [S0,rA,rQ,rB,rT,rE, esp, impl_IsGroup, hg, d3, S_row, esp2, impl_msgWords, ei, esub, en, dk, hN]
  rfl
 have hN := numR_yes hA
 cases d8 : ((ws.length : Nat) : Int) == 8
 ·have hl8 : (ws.length : Int) ≠ 8 := by simpa using d8
  have d7 : (((numsOf 4 (ws.drop 1)).length : Int) == 7) = false := by rw [hnl]; simp; omega
  simp only [Bool.not_true, Bool.not_false, Bool.or_true, if_true]
  simp (disch := first|assumption|omega) only [S0,rA,rQ,rB,rT,rE, esp, impl_IsGroup, hg, d3, S_row, esp2, impl_msgWords, ei, esub, en, dk, hN, d7]
  rfl
 have hl8 : (ws.length : Int) = 8 := by simpa using d8
 have d7 : (((numsOf 4 (ws.drop 1)).length : Int) == 7) = true := by rw [hnl]; simp; omega
 simp only [Bool.not_true, Bool.or_false, Bool.false_eq_true, if_false]
 generalize numsOf 4 (ws.drop 1) = ns at *
 generalize kindM (atI ws 0) = k at *
 generalize cmdB (atI ps 1) = cb at *
 generalize attrB n (atI ps 2) = ab at *
 obtain ⟨⟨ck, ci, cf, ct, ca⟩, co⟩ := cb
 obtain ⟨⟨sq, xs⟩, ao⟩ := ab
 simp only at eC eA lA
 cases co
 ·simp only [Bool.not_false, if_true]
  simp (disch := first|assumption|omega) only [S0,rA,rQ,rB,rT,rE, esp, impl_IsGroup, hg, d3, S_row, esp2, impl_msgWords, ei, esub, en, dk, hN, d7, eC]
  rfl
 cases ao
 ·simp only [Bool.not_true, Bool.not_false, Bool.false_eq_true, if_false, if_true]
  simp (disch := first|assumption|omega) only [S0,rA,rQ,rB,rT,rE, esp, impl_IsGroup, hg, d3, S_row, esp2, impl_msgWords, ei, esub, en, dk, hN, d7, eC, eA]
  rfl
 simp only [Bool.not_true, Bool.false_eq_true, if_false]
 have c0 : InB ns 0 := by unfold InB; omega
 have c1 : InB ns 1 := by unfold InB; omega
 have c2 : InB ns 2 := by unfold InB; omega
 have c3 : InB ns 3 := by unfold InB; omega
 have c4 : InB ns 4 := by unfold InB; omega
 have c5 : InB ns 5 := by unfold InB; omega
 have c6 : InB ns 6 := by unfold InB; omega
 have eG := impl_GoodMsg n k (atI ns 0) (atI ns 1) (atI ns 2) (atI ns 3) (atI ns 4) (atI ns 5) (atI ns 6) ck ci cf ct ca sq xs (by omega)
 unfold msgN
 cases hm : msgOk n ⟨k, atI ns 0, atI ns 1, atI ns 2, atI ns 3, atI ns 4, atI ns 5, atI ns 6, ⟨ck, ci, cf, ct, ca⟩, ⟨sq, xs⟩⟩
 ·simp only [Bool.false_eq_true, if_false]
  simp (disch := first|assumption|omega) only [S0,rA,rQ,rB,rT,rE, esp, impl_IsGroup, hg, d3, S_row, esp2, impl_msgWords, ei, esub, en, dk, hN, d7, eC, eA, eG, hm]
  rfl
 ·simp only [if_true]
  simp (disch := first|assumption|omega) only [S0,rA,rQ,rB,rT,rE, esp, impl_IsGroup, hg, d3, S_row, esp2, impl_msgWords, ei, esub, en, dk, hN, d7, eC, eA, eG, hm]
theorem spec_ReadMsg (n : Int) (s : List UInt8) (hs : s.length <= 1000000000) : Fun T 1 [i64 n, .str s] = some [i64 (readM n s).1.kind, i64 (readM n s).1.src, i64 (readM n s).1.dst, i64 (readM n s).1.rep, i64 (readM n s).1.no, i64 (readM n s).1.ballot, i64 (readM n s).1.vote, i64 (readM n s).1.state,
  i64 (readM n s).1.cmd.kind, i64 (readM n s).1.cmd.id, i64 (readM n s).1.cmd.src, i64 (readM n s).1.cmd.dst, i64 (readM n s).1.cmd.amt, i64 (readM n s).1.attr.seq, rL (readM n s).1.attr.deps, i64 (readM n s).2.1, .bool (readM n s).2.2] := by
 rw [Fun_k (t := tm1) rfl]; unfold tm1
 have esp : Fun T 2 [.str s, .int .u8 124] = some [rL (splitB 124 s)] := spec_l1Split s 124 hs
 have hsm : ∀ w ∈ splitB 124 s, w.length <= s.length := fun w hw => (splitB_mem hw).2
 unfold readM
 generalize splitB 124 s = ps at *
 unfold readMs
 cases hg : isGrp n
 ·simp only [Bool.not_false, Bool.true_or, if_true]
  simp (disch := first|assumption|omega) only [S0,rA,rQ,rB,rT,rE, esp, spec_IsGroup, hg]
  rfl
 cases d3 : (ps.length : Int) == 3
 ·simp only [Bool.not_true, Bool.not_false, Bool.or_true, if_true]
  simp (disch := first|assumption|omega) only [S0,rA,rQ,rB,rT,rE, esp, spec_IsGroup, hg, d3]
  rfl
 have hl3 : (ps.length : Int) = 3 := by simpa using d3
 have b0 : InB ps 0 := by unfold InB; omega
 have b1 : InB ps 1 := by unfold InB; omega
 have b2 : InB ps 2 := by unfold InB; omega
 have m0 := hsm _ (at_memI b0)
 have m1 := hsm _ (at_memI b1)
 have m2 := hsm _ (at_memI b2)
 have htm : ∀ w ∈ splitB 32 (atI ps 0), w.length <= 1000000000 := fun w hw => by have := (splitB_mem hw).2; omega
 have htl : (splitB 32 (atI ps 0)).length <= 1000000001 := by
  rw [splitB_len]
  have : (atI ps 0).count 32 <= (atI ps 0).length := List.count_le_length
  omega
 have hwn := splitB_ne 32 (atI ps 0)
 have esp2 : Fun T 2 [.str (atI ps 0), .int .u8 32] = some [rL (splitB 32 (atI ps 0))] := spec_l1Split (atI ps 0) 32 (by omega)
 obtain ⟨code, eC⟩ := spec_ReadCmd (atI ps 1) (by omega)
 have eA := spec_ReadAttr n (atI ps 2) (by omega)
 have lA := attrB_len (n := n) (s := atI ps 2)
 simp only [Bool.not_true, Bool.or_false, Bool.false_eq_true, if_false]
 generalize splitB 32 (atI ps 0) = ws at *
 have hl0 : 0 < ws.length := List.length_pos_iff.2 hwn
 have w0 : InB ws 0 := by unfold InB; omega
 have esub := sub_tail (ws := ws) (by omega)
 have hdr : ∀ w ∈ ws.drop 1, w.length <= 1000000000 := fun w hw => htm w (List.mem_of_mem_drop hw)
 have hdl := drop1_len (ws := ws)
 have hw8 : (wordsM.length : Int) = 8 := rfl
 have hlast := lastM_eq (atI ws 0)
 simp (disch := first|assumption|omega) only [S0,rA,rQ,rB,rT,rE, esp, spec_IsGroup, hg, d3, S_row, esp2, spec_l7Words, hw8]
 rw [whileE (.yield 1, [i64 (lastM (atI ws 0) 8)]) (fun i : Nat => 8 - i) (fun i : Nat => i <= 8) (fun i => [i64 (lastM (atI ws 0) i), i64 i]) 0 rfl (by simp) (by simp)]
 rotate_left
 ·intro i hi
  by_cases hlt : i < 8
  ·have d : decide ((i : Int) < 8) = true := by simp; omega
   have hb : InB wordsM (i : Int) := by unfold InB; omega
   refine .inl ⟨i + 1, ?_, by omega, by omega⟩
   have hls : lastM (atI ws 0) (i + 1) = if decide (0 < (i : Int)) && (atI wordsM (i : Int) == atI ws 0) then (i : Int) else lastM (atI ws 0) i := rfl
   rw [hls]
   cases d0 : decide (0 < (i : Int))
   ·simp only [Bool.false_and, Bool.false_eq_true, if_false]
    simp (disch := first|assumption|omega) only [S0,rA,rQ,rB,rT,rE, d, S_row, d0]
   ·cases dw : atI wordsM (i : Int) == atI ws 0
    ·simp only [Bool.and_false, Bool.false_eq_true, if_false]
     simp (disch := first|assumption|omega) only [S0,rA,rQ,rB,rT,rE, d, S_row, d0, t_eq, dw]
    ·simp only [Bool.and_true, if_true]
     simp (disch := first|assumption|omega) only [S0,rA,rQ,rB,rT,rE, d, S_row, d0, t_eq, dw]
  ·have d : decide ((i : Int) < 8) = false := by simp; omega
   have e8 : lastM (atI ws 0) i = lastM (atI ws 0) 8 := by rw [show i = 8 by omega]
   right
   simp (disch := first|assumption|omega) only [S0,rA,rQ,rB,rT,rE, d, e8]
 rw [hlast]
 have hk7 := kindM_rng (atI ws 0)
 generalize kindM (atI ws 0) = k at *
 cases dk : decide (k < 1)
 rotate_left
 ·have hk : ¬1 <= k := by simp only [decide_eq_true_eq] at dk; omega
  rw [if_neg hk]
  simp only [Bool.true_or, if_true]
  have d0 : ((0 : Int) == 0) = true := rfl
  simp (disch := first|assumption|omega) only [S0,rA,rQ,rB,rT,rE, d0]
  rfl
 have hk : 1 <= k := by simp only [decide_eq_false_iff_not] at dk; omega
 rw [if_pos hk]
 have dk0 : (k == 0) = false := by simp; omega
 cases d8 : ((ws.length : Nat) : Int) == 8
 ·simp only [Bool.not_false, Bool.or_true, if_true]
  simp (disch := first|assumption|omega) only [S0,rA,rQ,rB,rT,rE, dk0, d8]
  rfl
 have hl8 : (ws.length : Int) = 8 := by simpa using d8
 simp only [Bool.not_true, Bool.or_false, Bool.false_or]
 simp (disch := first|assumption|omega) only [S0,rA,rQ,rB,rT,rE, dk0, d8, esub]
 generalize ws.drop 1 = xs at *
 have hx7 : xs.length = 7 := by omega
 rw [whileE (if allNum 4 xs then (.yield 3, [rL (numsOf 6 xs)]) else (.ret, [i64 0, i64 0, i64 0, i64 0, i64 0, i64 0, i64 0, i64 0, i64 0, i64 0, i64 0, i64 0, i64 0, i64 0, rL ([] : List Int), i64 2, .bool false])) (fun i : Nat => xs.length - i) (fun i : Nat => i <= xs.length /\ allNum 4 (xs.take i) = true) (fun i => [rL (numsOf 6 (xs.take i)), i64 i]) 0 rfl (by simp [allNum]) (by split <;> simp)]
 rotate_left
 ·rintro i ⟨hi, hA⟩
  by_cases hlt : i < xs.length
  ·have d : decide ((i : Int) < (xs.length : Int)) = true := by simpa using hlt
   have hb : InB xs (i : Int) := InB_nat.2 hlt
   have e := spec_l1Read (atI xs (i : Int)) (hdr _ (at_mem hlt))
   have hl1 : (numsOf 6 (xs.take (i + 1))).length = i + 1 := by rw [numsOf_len, List.length_take]; omega
   have el : ((numsOf 6 (xs.take (i + 1))).length : Int) = (i : Int) + 1 := by omega
   have ex : (i : Int) + 1 - 1 = (i : Int) := by omega
   have hb2 : InB (numsOf 6 (xs.take (i + 1))) (i : Int) := by unfold InB; omega
   have z : (numsOf 6 (xs.take i)).length + ([digM (atI xs (i : Int)) 6] : List Int).length <= 100000000000 := by rw [numsOf_len, List.length_take]; simp only [List.length_cons, List.length_nil]; omega
   have e3 := (numsOf_succ (m := 6) hlt).symm
   have ea : atI (numsOf 6 (xs.take (i + 1))) (i : Int) = digM (atI xs (i : Int)) 6 := by
    rw [numsOf_at (by rw [List.length_take]; omega)]
    congr 1
    rw [atI_get (by rw [List.length_take]; omega), atI_get hlt, List.getElem_take]
   by_cases h4 : 4 < ((atI xs (i : Int)).length : Int)
   ·have d4 : decide (4 < ((atI xs (i : Int)).length : Int)) = true := by simpa using h4
    right
    rw [allNum_bad hlt (digM_long h4)]
    simp only [Bool.false_eq_true, if_false]
    simp (disch := first|assumption|omega) only [S0,rA,rQ,rB,rT,rE, d, S_row, e, S_mk, S_app, e3, el, ex, ea, t_slen, d4]
    rfl
   ·have d4 : decide (4 < ((atI xs (i : Int)).length : Int)) = false := by simpa using h4
    have e4 := digM_short (s := atI xs (i : Int)) (by omega)
    rcases (show digM (atI xs (i : Int)) 6 < 0 \/ 0 <= digM (atI xs (i : Int)) 6 by omega) with h0 | h0
    ·have d0 : decide (digM (atI xs (i : Int)) 6 < 0) = true := by simpa using h0
     right
     rw [allNum_bad hlt (by rw [e4]; exact h0)]
     simp only [Bool.false_eq_true, if_false]
     simp (disch := first|assumption|omega) only [S0,rA,rQ,rB,rT,rE, d, S_row, e, S_mk, S_app, e3, el, ex, ea, t_slen, d4, d0]
     rfl
    ·have d0 : decide (digM (atI xs (i : Int)) 6 < 0) = false := by simp; omega
     refine .inl ⟨i + 1, ?_, ⟨by omega, by rw [allNum_succ hlt, hA, e4, decide_eq_true h0]; rfl⟩, by omega⟩
     simp (disch := first|assumption|omega) only [S0,rA,rQ,rB,rT,rE, d, S_row, e, S_mk, S_app, e3, el, ex, ea, t_slen, d4, d0]
  ·have d : decide ((i : Int) < (xs.length : Int)) = false := by simpa using hlt
   obtain rfl : i = xs.length := by omega
   rw [List.take_of_length_le (Nat.le_refl _)] at hA ⊢
   right
   rw [hA]
   simp only [if_true]
   simp (disch := first|assumption|omega) only [S0,rA,rQ,rB,rT,rE, d]
 cases hA : allNum 4 xs
 ·simp only [Bool.not_false, Bool.false_eq_true, if_false, if_true]
  simp (disch := first|assumption|omega) only [S0,rA,rQ,rB,rT,rE]
  rfl
 simp only [Bool.not_true, Bool.false_eq_true, if_false, if_true]
 rw [numsOf_up hA (by decide)]
 have hnl : (numsOf 4 xs).length = 7 := by rw [numsOf_len]; exact hx7
 generalize numsOf 4 xs = ns at *
 generalize cmdB (atI ps 1) = cb at *
 generalize attrB n (atI ps 2) = ab at *
 obtain ⟨⟨ck, ci, cf, ct, ca⟩, co⟩ := cb
 obtain ⟨⟨sq, xs⟩, ao⟩ := ab
 simp only at eC eA lA
 cases co
 ·simp only [Bool.not_false, if_true]
  simp (disch := first|assumption|omega) only [S0,rA,rQ,rB,rT,rE, S_row, eC]
  rfl
 cases ao
 ·simp only [Bool.not_true, Bool.not_false, Bool.false_eq_true, if_false, if_true]
  simp (disch := first|assumption|omega) only [S0,rA,rQ,rB,rT,rE, S_row, eC, eA]
  rfl
 simp only [Bool.not_true, Bool.false_eq_true, if_false]
 have c0 : InB ns 0 := by unfold InB; omega
 have c1 : InB ns 1 := by unfold InB; omega
 have c2 : InB ns 2 := by unfold InB; omega
 have c3 : InB ns 3 := by unfold InB; omega
 have c4 : InB ns 4 := by unfold InB; omega
 have c5 : InB ns 5 := by unfold InB; omega
 have c6 : InB ns 6 := by unfold InB; omega
 have eG := spec_GoodMsg n k (atI ns 0) (atI ns 1) (atI ns 2) (atI ns 3) (atI ns 4) (atI ns 5) (atI ns 6) ck ci cf ct ca sq xs (by omega)
 unfold msgN
 cases hm : msgOk n ⟨k, atI ns 0, atI ns 1, atI ns 2, atI ns 3, atI ns 4, atI ns 5, atI ns 6, ⟨ck, ci, cf, ct, ca⟩, ⟨sq, xs⟩⟩
 ·simp only [Bool.false_eq_true, if_false]
  simp (disch := first|assumption|omega) only [S0,rA,rQ,rB,rT,rE, S_row, eC, eA, eG, hm]
  rfl
 ·simp only [if_true]
  simp (disch := first|assumption|omega) only [S0,rA,rQ,rB,rT,rE, S_row, eC, eA, eG, hm]
theorem law (n : Int) (s : List UInt8) : Fun T 0 [i64 n, .str s] = some [.bool true] := by
 rw [Fun_k (t := tm0) rfl]; unfold tm0
 by_cases c_s : (1048576 : Int) < (s.length : Int)
 ·have d : decide ((1048576 : Int) < (s.length : Int)) = true := by simpa using c_s
  simp (disch := first|assumption|omega) only [S0,rA,rQ,rB,rT,rE, t_slen, d]
 have d : decide ((1048576 : Int) < (s.length : Int)) = false := by simpa using c_s
 have hs : s.length <= 1000000000 := by omega
 have hr := readM_len (n := n) (s := s)
 have r1 : sz_TMsg (readM n s).1 <= 1099511627776 := by rw [szu_TMsg]; omega
 have r2 : (readM n s).1.attr.deps.length <= 1099511627776 := by omega
 have r3 : ctL (fun _ => 1) (readM n s).1.attr.deps <= 1125899906842624 := by rw [ctL_one]; omega
 (refine fork_in ?_; repeat' (refine fork_eq ?_ ?_<;>intro _<;>try simp (disch := first|assumption|omega) only [S0,rA,rQ,rB,rT,rE,t_slen,d,spec_ReadMsg,impl_ReadMsg,leq_TMsg,lmk_TMsg,lhd_TMsg,lt0,ltm1, *]))
theorem hpure : ∀ ds, WTs [.int .i64, .str] ds -> ∃ n, callN T n 0 ds = some [.bool true] := by
 intro ds h
 simp only [WTs] at h
 obtain ⟨d0, r0, rfl, w0, d1, r1, rfl, w1, rfl⟩ := h
 obtain ⟨n, rfl, hn1, hn2⟩ := WT_int w0
 obtain ⟨s, rfl, hs⟩ := WT_str w1
 exact pure_of (law n s)
end FnExactReadMsg
end Go.Proofs.YtnlhnfifkninpaaDoor
