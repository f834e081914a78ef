/- What the terms of FnMsgs come to. -/
import Derived.Test.YtdpfilpckndhcaaGreatDoorFnMsgsTab
namespace Go.Proofs.YtdpfilpckndhcaaGreatDoor
namespace FnMsgs
open Go Go.Proofs.YtdpfilpckndhcaaGreatDoor.Rf
open Nat renaming reduceAdd → rA, reduceEqDiff → rQ
open Int renaming reduceBEq → rB, reduceLT → rT, reduceLE → rE
set_option linter.unusedSimpArgs false
set_option linter.unusedVariables false
set_option linter.unnecessarySimpa false
set_option maxHeartbeats 4000000
set_option maxRecDepth 10000
theorem impl_within (x lo up : Int) : Fun T 18 [i64 x, i64 lo, i64 up] = some [.bool (inR x lo up)] := by
 rw [Fun_k (t := tm18) rfl]; unfold tm18; unfold inR
 (refine fork_in ?_; repeat' (refine fork_eq ?_ ?_<;>intro _<;>try simp (disch := first|assumption|omega) only [S0,rA,rQ,rB,rT,rE, *]))
theorem spec_l1In (x lo up : Int) : Fun T 53 [i64 x, i64 lo, i64 up] = some [.bool (inR x lo up)] := by
 rw [Fun_k (t := tm53) rfl]; unfold tm53; unfold inR
 (refine fork_in ?_; repeat' (refine fork_eq ?_ ?_<;>intro _<;>try simp (disch := first|assumption|omega) only [S0,rA,rQ,rB,rT,rE, *]))
theorem impl_IsGroup (n : Int) : Fun T 20 [i64 n] = some [.bool (isGrp n)] := by
 rw [Fun_k (t := tm20) rfl]; unfold tm20; unfold isGrp
 (refine fork_in ?_; repeat' (refine fork_eq ?_ ?_<;>intro _<;>try simp (disch := first|assumption|omega) only [S0,rA,rQ,rB,rT,rE, *]))
theorem spec_IsGroup (n : Int) : Fun T 52 [i64 n] = some [.bool (isGrp n)] := by
 rw [Fun_k (t := tm52) rfl]; unfold tm52; unfold isGrp
 (refine fork_in ?_; repeat' (refine fork_eq ?_ ?_<;>intro _<;>try simp (disch := first|assumption|omega) only [S0,rA,rQ,rB,rT,rE, *]))
theorem impl_isAccount (n : Int) : Fun T 26 [i64 n] = some [.bool (inR n 0 3)] := by
 rw [Fun_k (t := tm26) rfl]; unfold tm26
 (refine fork_in ?_; repeat' (refine fork_eq ?_ ?_<;>intro _<;>try simp (disch := first|assumption|omega) only [S0,rA,rQ,rB,rT,rE,impl_within, *]))
theorem spec_l2Account (n : Int) : Fun T 60 [i64 n] = some [.bool (inR n 0 3)] := by
 rw [Fun_k (t := tm60) rfl]; unfold tm60
 (refine fork_in ?_; repeat' (refine fork_eq ?_ ?_<;>intro _<;>try simp (disch := first|assumption|omega) only [S0,rA,rQ,rB,rT,rE,spec_l1In, *]))
theorem spec_l2Code (k i f t a : Int) : Fun T 59 [i64 k, i64 i, i64 f, i64 t, i64 a] = some [i64 (cmdCode ⟨k, i, f, t, a⟩)] := by
 rw [Fun_k (t := tm59) rfl]; unfold tm59; unfold cmdCode
 (refine fork_in ?_; repeat' (refine fork_eq ?_ ?_<;>intro _<;>try simp (disch := first|assumption|omega) only [S0,rA,rQ,rB,rT,rE,spec_l2Account,spec_l1In, *]))
theorem spec_GoodCmd (k i f t a : Int) : Fun T 58 [i64 k, i64 i, i64 f, i64 t, i64 a] = some [.bool (cmdOk ⟨k, i, f, t, a⟩)] := by
 rw [Fun_k (t := tm58) rfl]; unfold tm58; unfold cmdOk
 (refine fork_in ?_; repeat' (refine fork_eq ?_ ?_<;>intro _<;>try simp (disch := first|assumption|omega) only [S0,rA,rQ,rB,rT,rE,spec_l2Code,S_eqs,cmdCode0, *]))
 all_goals (refine bool_fin ?_; simp only [Bool.and_eq_true, Bool.or_eq_true, Bool.not_eq_true', Bool.not_eq_false', Bool.and_eq_false_iff, Bool.or_eq_false_iff, Bool.false_eq_true, beq_iff_eq, beq_eq_false_iff_ne, decide_eq_true_eq, decide_eq_false_iff_not, ne_eq] at *; grind)
theorem impl_GoodCmd (k i f t a : Int) : Fun T 25 [i64 k, i64 i, i64 f, i64 t, i64 a] = some [.bool (cmdOk ⟨k, i, f, t, a⟩)] := by
 rw [Fun_k (t := tm25) rfl]; unfold tm25; unfold cmdOk
 (refine fork_in ?_; repeat' (refine fork_eq ?_ ?_<;>intro _<;>try simp (disch := first|assumption|omega) only [S0,rA,rQ,rB,rT,rE,impl_within,impl_isAccount,S_eqs, *]))
theorem spec_l3Inst (n rep no : Int) (hg : isGrp n = true) : Fun T 54 [i64 n, i64 rep, i64 no] = some [.bool (inst n rep no)] := by
 rw [Fun_k (t := tm54) rfl]; unfold tm54; unfold inst
 have hn := isGrp_rng hg
 (refine fork_in ?_; repeat' (refine fork_eq ?_ ?_<;>intro _<;>try simp (disch := first|assumption|omega) only [S0,rA,rQ,rB,rT,rE,spec_l1In, *]))
theorem impl_isInstance (n rep no : Int) : Fun T 19 [i64 n, i64 rep, i64 no] = some [.bool (isGrp n && inst n rep no)] := by
 rw [Fun_k (t := tm19) rfl]; unfold tm19; unfold inst
 cases hg : isGrp n
 ·(refine fork_in ?_; repeat' (refine fork_eq ?_ ?_<;>intro _<;>try simp (disch := first|assumption|omega) only [S0,rA,rQ,rB,rT,rE,impl_IsGroup, *]))
 have hn := isGrp_rng hg
 (refine fork_in ?_; repeat' (refine fork_eq ?_ ?_<;>intro _<;>try simp (disch := first|assumption|omega) only [S0,rA,rQ,rB,rT,rE,impl_IsGroup,impl_within, *]))
theorem spec_l1All (xs : List Int) (lo up : Int) (hx : xs.length <= 1099511627776) : Fun T 62 [rL xs, i64 lo, i64 up] = some [.bool (xs.all fun x => inR x lo up)] := by
 rw [Fun_k (t := tm62) rfl]; unfold tm62
 simp (disch := first|assumption|omega) only [S0,rA,rQ,rB,rT,rE, S_row, *]
 rw [allX 1 xs (fun x => inR x lo up) [.bool false]]
 ·(refine fork_in ?_; repeat' (refine fork_eq ?_ ?_<;>intro _<;>try simp (disch := first|assumption|omega) only [S0,rA,rQ,rB,rT,rE, *]))
 ·intro i hi hb hl hp
  (refine fork_in ?_; repeat' (refine fork_eq ?_ ?_<;>intro _<;>try simp (disch := first|assumption|omega) only [S0,rA,rQ,rB,rT,rE,S_row,spec_l1In, *]))
 ·intro i hi hb hl hp
  (refine fork_in ?_; repeat' (refine fork_eq ?_ ?_<;>intro _<;>try simp (disch := first|assumption|omega) only [S0,rA,rQ,rB,rT,rE,S_row,spec_l1In, *]))
 ·intro hl
  (refine fork_in ?_; repeat' (refine fork_eq ?_ ?_<;>intro _<;>try simp (disch := first|assumption|omega) only [S0,rA,rQ,rB,rT,rE, *]))
theorem spec_l3Attr (n s : Int) (xs : List Int) (hx : xs.length <= 1099511627776) : Fun T 61 [i64 n, i64 s, rL xs] = some [.bool (attrOk n ⟨s, xs⟩)] := by
 rw [Fun_k (t := tm61) rfl]; unfold tm61; unfold attrOk
 (refine fork_in ?_; repeat' (refine fork_eq ?_ ?_<;>intro _<;>try simp (disch := first|assumption|omega) only [S0,rA,rQ,rB,rT,rE,spec_l1In,spec_l1All, *]))
theorem impl_GoodAttr_1 (x : Int) : Fun T 30 [i64 x] = some [.bool (!inR x 0 6)] := by
 rw [Fun_k (t := tm30) rfl]; unfold tm30
 (refine fork_in ?_; repeat' (refine fork_eq ?_ ?_<;>intro _<;>try simp (disch := first|assumption|omega) only [S0,rA,rQ,rB,rT,rE,impl_within, *]))
theorem ix_GoodAttr_1  (xs : List Int) (hx : xs.length <= 1099511627776) : Fun T 29 [rL xs] = some [i64 (ixF (fun x => !inR x 0 6) xs)] := by
 rw [Fun_k (t := tm29) rfl]; unfold tm29
 simp (disch := first|assumption|omega) only [S0,rA,rQ,rB,rT,rE, S_row, *]
 rw [findX 1 xs (fun x => !inR x 0 6) (fun i => [i64 i])]
 ·cases h : xs.any (fun x => !inR x 0 6)
  ·have e : ixF (fun x => !inR x 0 6) xs = -1 := by
    have h2 := ixF_any (fun x => !inR x 0 6) xs
    rw [h] at h2
    unfold ixF at h2 ⊢
    split at h2 <;> simp_all
   rw [e]; simp (disch := first|assumption|omega) only [S0,rA,rQ,rB,rT,rE]
  ·simp (disch := first|assumption|omega) only [S0,rA,rQ,rB,rT,rE]
 ·intro i hi hb hl hp
  (refine fork_in ?_; repeat' (refine fork_eq ?_ ?_<;>intro _<;>try simp (disch := first|assumption|omega) only [S0,rA,rQ,rB,rT,rE,S_row,impl_GoodAttr_1, *]))
 ·intro i hi hb hl hp
  (refine fork_in ?_; repeat' (refine fork_eq ?_ ?_<;>intro _<;>try simp (disch := first|assumption|omega) only [S0,rA,rQ,rB,rT,rE,S_row,impl_GoodAttr_1, *]))
 ·intro hl
  (refine fork_in ?_; repeat' (refine fork_eq ?_ ?_<;>intro _<;>try simp (disch := first|assumption|omega) only [S0,rA,rQ,rB,rT,rE, *]))
theorem ct_GoodAttr_1  (xs : List Int) (hx : xs.length <= 1099511627776) : Fun T 28 [rL xs] = some [.bool (xs.any (fun x => !inR x 0 6))] := by
 rw [Fun_k (t := tm28) rfl]; unfold tm28
 (refine fork_in ?_; repeat' (refine fork_eq ?_ ?_<;>intro _<;>try simp (disch := first|assumption|omega) only [S0,rA,rQ,rB,rT,rE,ix_GoodAttr_1,ixF_any, *]))
theorem impl_GoodAttr (n s : Int) (xs : List Int) (hx : xs.length <= 1099511627776) : Fun T 27 [i64 n, i64 s, rL xs] = some [.bool (isGrp n && attrOk n ⟨s, xs⟩)] := by
 rw [Fun_k (t := tm27) rfl]; unfold tm27; unfold attrOk
 have e : xs.any (fun x => !inR x 0 6) = !xs.all fun x => inR x 0 6 := by rw [List.not_all_eq_any_not]
 (refine fork_in ?_; repeat' (refine fork_eq ?_ ?_<;>intro _<;>try simp (disch := first|assumption|omega) only [S0,rA,rQ,rB,rT,rE,impl_IsGroup,impl_within,ct_GoodAttr_1,e,Bool.not_not, *]))
theorem spec_l1Same (xs ys : List Int) (hx : xs.length <= 1099511627776) : Fun T 57 [rL xs, rL ys] = some [.bool (decide (xs = ys))] := by
 rw [Fun_k (t := tm57) rfl]; unfold tm57
 by_cases hl : ys.length = xs.length
 ·simp (disch := first|assumption|omega) only [S0,rA,rQ,rB,rT,rE, *]
  rw [scanX 1 xs.length (fun i => decide (atI xs i = atI ys i)) [.bool false], allB_eq hl.symm]
  ·(refine fork_in ?_; repeat' (refine fork_eq ?_ ?_<;>intro _<;>try simp (disch := first|assumption|omega) only [S0,rA,rQ,rB,rT,rE, *]))
  ·intro i hi hp
   have hb : InB xs (i : Int) := InB_nat.2 hi
   have hb' : InB ys (i : Int) := InB_nat.2 (by omega)
   have h2 : decide ((i : Int) < xs.length) = true := by simp; omega
   have h3 : (atI xs i == atI ys i) = true := by simpa using hp
   (refine fork_in ?_; repeat' (refine fork_eq ?_ ?_<;>intro _<;>try simp (disch := first|assumption|omega) only [S0,rA,rQ,rB,rT,rE,S_row, *]))
  ·intro i hi hp
   have hb : InB xs (i : Int) := InB_nat.2 hi
   have hb' : InB ys (i : Int) := InB_nat.2 (by omega)
   have h2 : decide ((i : Int) < xs.length) = true := by simp; omega
   have h3 : (atI xs i == atI ys i) = false := by simpa using hp
   (refine fork_in ?_; repeat' (refine fork_eq ?_ ?_<;>intro _<;>try simp (disch := first|assumption|omega) only [S0,rA,rQ,rB,rT,rE,S_row, *]))
  ·have h2 : decide ((xs.length : Int) < xs.length) = false := by simp
   (refine fork_in ?_; repeat' (refine fork_eq ?_ ?_<;>intro _<;>try simp (disch := first|assumption|omega) only [S0,rA,rQ,rB,rT,rE, *]))
 ·have hl' : ((xs.length : Int) == (ys.length : Int)) = false := by simp; omega
  have e := eq_len (fun h => hl h.symm)
  (refine fork_in ?_; repeat' (refine fork_eq ?_ ?_<;>intro _<;>try simp (disch := first|assumption|omega) only [S0,rA,rQ,rB,rT,rE, *]))
theorem slices_Equal_int (xs ys : List Int) (hx : xs.length <= 1099511627776) : Fun T 33 [rL xs, rL ys] = some [.bool (decide (xs = ys))] := by
 rw [Fun_k (t := tm33) rfl]; unfold tm33
 by_cases hl : ys.length = xs.length
 ·simp (disch := first|assumption|omega) only [S0,rA,rQ,rB,rT,rE, *]
  rw [scanX 1 xs.length (fun i => decide (atI xs i = atI ys i)) [.bool false], allB_eq hl.symm]
  ·(refine fork_in ?_; repeat' (refine fork_eq ?_ ?_<;>intro _<;>try simp (disch := first|assumption|omega) only [S0,rA,rQ,rB,rT,rE, *]))
  ·intro i hi hp
   have hb : InB xs (i : Int) := InB_nat.2 hi
   have hb' : InB ys (i : Int) := InB_nat.2 (by omega)
   have h2 : decide ((i : Int) < xs.length) = true := by simp; omega
   have h3 : (atI xs i == atI ys i) = true := by simpa using hp
   (refine fork_in ?_; repeat' (refine fork_eq ?_ ?_<;>intro _<;>try simp (disch := first|assumption|omega) only [S0,rA,rQ,rB,rT,rE,S_row, *]))
  ·intro i hi hp
   have hb : InB xs (i : Int) := InB_nat.2 hi
   have hb' : InB ys (i : Int) := InB_nat.2 (by omega)
   have h2 : decide ((i : Int) < xs.length) = true := by simp; omega
   have h3 : (atI xs i == atI ys i) = false := by simpa using hp
   (refine fork_in ?_; repeat' (refine fork_eq ?_ ?_<;>intro _<;>try simp (disch := first|assumption|omega) only [S0,rA,rQ,rB,rT,rE,S_row, *]))
  ·have h2 : decide ((xs.length : Int) < xs.length) = false := by simp
   (refine fork_in ?_; repeat' (refine fork_eq ?_ ?_<;>intro _<;>try simp (disch := first|assumption|omega) only [S0,rA,rQ,rB,rT,rE, *]))
 ·have hl' : ((xs.length : Int) == (ys.length : Int)) = false := by simp; omega
  have e := eq_len (fun h => hl h.symm)
  (refine fork_in ?_; repeat' (refine fork_eq ?_ ?_<;>intro _<;>try simp (disch := first|assumption|omega) only [S0,rA,rQ,rB,rT,rE, *]))
theorem spec_SameAttr (s s' : Int) (xs ys : List Int) (hx : xs.length <= 1099511627776) : Fun T 56 [i64 s, rL xs, i64 s', rL ys] = some [.bool (decide ((⟨s, xs⟩ : TAttr) = ⟨s', ys⟩))] := by
 rw [Fun_k (t := tm56) rfl]; unfold tm56
 have e : decide ((⟨s, xs⟩ : TAttr) = ⟨s', ys⟩) = (s == s' && decide (xs = ys)) := by simp [TAttr.mk.injEq, Bool.beq_eq_decide_eq]
 (refine fork_in ?_; repeat' (refine fork_eq ?_ ?_<;>intro _<;>try simp (disch := first|assumption|omega) only [S0,rA,rQ,rB,rT,rE,spec_l1Same,e, *]))
theorem impl_SameAttr (s s' : Int) (xs ys : List Int) (hx : xs.length <= 1099511627776) : Fun T 32 [i64 s, rL xs, i64 s', rL ys] = some [.bool (decide ((⟨s, xs⟩ : TAttr) = ⟨s', ys⟩))] := by
 rw [Fun_k (t := tm32) rfl]; unfold tm32
 have e : decide ((⟨s, xs⟩ : TAttr) = ⟨s', ys⟩) = (s == s' && decide (xs = ys)) := by simp [TAttr.mk.injEq, Bool.beq_eq_decide_eq]
 (refine fork_in ?_; repeat' (refine fork_eq ?_ ?_<;>intro _<;>try simp (disch := first|assumption|omega) only [S0,rA,rQ,rB,rT,rE,slices_Equal_int,e, *]))
theorem spec_l3None (n : Int) (hg : isGrp n = true) : Fun T 10 [i64 n] = some [i64 (none0 n).seq, rL (none0 n).deps] := by
 rw [Fun_k (t := tm10) rfl]; unfold tm10; unfold none0
 have hn := isGrp_rng hg
 (refine fork_in ?_; repeat' (refine fork_eq ?_ ?_<;>intro _<;>try simp (disch := first|assumption|omega) only [S0,rA,rQ,rB,rT,rE,S_make, *]))
theorem impl_noneAttr (n : Int) (hg : isGrp n = true) : Fun T 31 [i64 n] = some [i64 (none0 n).seq, rL (none0 n).deps] := by
 rw [Fun_k (t := tm31) rfl]; unfold tm31; unfold none0
 have hn := isGrp_rng hg
 (refine fork_in ?_; repeat' (refine fork_eq ?_ ?_<;>intro _<;>try simp (disch := first|assumption|omega) only [S0,rA,rQ,rB,rT,rE,S_make, *]))
theorem spec_l4Row (n bal vot sta k i f t a sq : Int) (xs : List Int) (hg : isGrp n = true) (hx : xs.length <= 1099511627776) :
  Fun T 55 [i64 n, i64 bal, i64 vot, i64 sta, i64 k, i64 i, i64 f, i64 t, i64 a, i64 sq, rL xs] = some [.bool (rowOk n ⟨bal, vot, sta, ⟨k, i, f, t, a⟩, ⟨sq, xs⟩⟩)] := by
 rw [Fun_k (t := tm55) rfl]; unfold tm55; unfold rowOk
 (refine fork_in ?_; repeat' (refine fork_eq ?_ ?_<;>intro _<;>try simp (disch := first|assumption|omega) only [S0,rA,rQ,rB,rT,rE,spec_l1In,S_eqs,spec_l3None,spec_SameAttr,spec_GoodCmd,spec_l3Attr, *]))
theorem impl_goodRow (n bal vot sta k i f t a sq : Int) (xs : List Int) (hg : isGrp n = true) (hx : xs.length <= 1099511627776) :
  Fun T 24 [i64 n, i64 bal, i64 vot, i64 sta, i64 k, i64 i, i64 f, i64 t, i64 a, i64 sq, rL xs] = some [.bool (rowOk n ⟨bal, vot, sta, ⟨k, i, f, t, a⟩, ⟨sq, xs⟩⟩)] := by
 rw [Fun_k (t := tm24) rfl]; unfold tm24; unfold rowOk
 have h1 := @cmdZ_ok ⟨k, i, f, t, a⟩
 have h2 := none0_ok hg
 have h3 : decide ((⟨sq, xs⟩ : TAttr) = none0 n) = true -> attrOk n ⟨sq, xs⟩ = true := fun h => by rw [of_decide_eq_true h]; exact h2
 (refine fork_in ?_; repeat' (refine fork_eq ?_ ?_<;>intro _<;>try simp (disch := first|assumption|omega) only [S0,rA,rQ,rB,rT,rE,impl_within,S_eqs,impl_noneAttr,impl_SameAttr,impl_GoodCmd,impl_GoodAttr, *]))
 all_goals (refine bool_fin ?_; simp only [Bool.and_eq_true, Bool.or_eq_true, Bool.not_eq_true', Bool.not_eq_false', Bool.and_eq_false_iff, Bool.or_eq_false_iff, Bool.false_eq_true, beq_iff_eq, beq_eq_false_iff_ne, decide_eq_true_eq, decide_eq_false_iff_not, ne_eq] at *; grind)
theorem slices_Clone_int (xs : List Int) (hx : xs.length <= 10000000000) : Fun T 23 [rL xs] = some [rL xs] := by
 rw [Fun_ext (e := ex23) rfl]
 cases xs with
 | nil => rfl
 | cons x xs =>
  show Fun (entTab [(23, .tm tm23)]) 23 [rL (x :: xs)] = _
  rw [Fun_k (t := tm23) rfl]
  unfold tm23
  have hx' : (x :: xs).length <= 100000000000 := by omega
  have h0 : (Prim.mk 1 0).run [] = some [.rows 1 []] := rfl
  have h1 : (x :: xs).isEmpty = false := rfl
  simp (disch := first | assumption | omega) only [SA, SB, SC, SP, SQ, SZ, reduceIte, reduceCtorEq, Nat.reduceAdd, Nat.reduceEqDiff, rL_ne, rL_emp, h0, h1, S_app]
theorem impl_Attr_copied (s : Int) (xs : List Int) (hx : xs.length <= 10000000000) : Fun T 22 [i64 s, rL xs] = some [i64 s, rL xs] := by
 rw [Fun_k (t := tm22) rfl]; unfold tm22
 (refine fork_in ?_; repeat' (refine fork_eq ?_ ?_<;>intro _<;>try simp (disch := first|assumption|omega) only [S0,rA,rQ,rB,rT,rE,slices_Clone_int, *]))
theorem impl_Msg_row (m_kind m_src m_dst m_rep m_no m_ballot m_vote m_state m_cmd_kind m_cmd_id m_cmd_src m_cmd_dst m_cmd_amt m_attr_seq : Int) (m_attr_deps : (List Int)) (hx : m_attr_deps.length <= 10000000000) : Fun T 21 [i64 m_kind, i64 m_src, i64 m_dst, i64 m_rep, i64 m_no, i64 m_ballot, i64 m_vote, i64 m_state, i64 m_cmd_kind, i64 m_cmd_id, i64 m_cmd_src, i64 m_cmd_dst, i64 m_cmd_amt, i64 m_attr_seq, rL m_attr_deps] = some [i64 m_ballot, i64 m_vote, i64 m_state, i64 m_cmd_kind, i64 m_cmd_id, i64 m_cmd_src, i64 m_cmd_dst, i64 m_cmd_amt, i64 m_attr_seq, rL m_attr_deps] := by
 rw [Fun_k (t := tm21) rfl]; unfold tm21
 (refine fork_in ?_; repeat' (refine fork_eq ?_ ?_<;>intro _<;>try simp (disch := first|assumption|omega) only [S0,rA,rQ,rB,rT,rE,impl_Attr_copied, *]))
theorem spec_GoodMsg (n : Int) (m_kind m_src m_dst m_rep m_no m_ballot m_vote m_state m_cmd_kind m_cmd_id m_cmd_src m_cmd_dst m_cmd_amt m_attr_seq : Int) (m_attr_deps : (List Int)) (hx : m_attr_deps.length <= 10000000000) : Fun T 51 [i64 n, i64 m_kind, i64 m_src, i64 m_dst, i64 m_rep, i64 m_no, i64 m_ballot, i64 m_vote, i64 m_state, i64 m_cmd_kind, i64 m_cmd_id, i64 m_cmd_src, i64 m_cmd_dst, i64 m_cmd_amt, i64 m_attr_seq, rL m_attr_deps] = some [.bool (msgOk n ⟨m_kind, m_src, m_dst, m_rep, m_no, m_ballot, m_vote, m_state, ⟨m_cmd_kind, m_cmd_id, m_cmd_src, m_cmd_dst, m_cmd_amt⟩, ⟨m_attr_seq, m_attr_deps⟩⟩)] := by
 rw [Fun_k (t := tm51) rfl]; unfold tm51; unfold msgOk
 have hx' : m_attr_deps.length <= 1099511627776 := by omega
 cases hg : isGrp n
 ·(refine fork_in ?_; repeat' (refine fork_eq ?_ ?_<;>intro _<;>try simp (disch := first|assumption|omega) only [S0,rA,rQ,rB,rT,rE,spec_IsGroup, *]))
 have hn := isGrp_rng hg
 (refine fork_in ?_; repeat' (refine fork_eq ?_ ?_<;>intro _<;>try simp (disch := first|assumption|omega) only [S0,rA,rQ,rB,rT,rE,spec_IsGroup,spec_l1In,spec_l3Inst,spec_l4Row,spec_l3Attr,spec_GoodCmd,S_eqs,spec_l3None,spec_SameAttr, *]))
 all_goals (refine bool_fin ?_; simp only [Bool.and_eq_true, Bool.or_eq_true, Bool.not_eq_true', Bool.not_eq_false', Bool.and_eq_false_iff, Bool.or_eq_false_iff, Bool.false_eq_true, beq_iff_eq, beq_eq_false_iff_ne, decide_eq_true_eq, decide_eq_false_iff_not, ne_eq] at *; grind)
theorem impl_GoodMsg (n : Int) (m_kind m_src m_dst m_rep m_no m_ballot m_vote m_state m_cmd_kind m_cmd_id m_cmd_src m_cmd_dst m_cmd_amt m_attr_seq : Int) (m_attr_deps : (List Int)) (hx : m_attr_deps.length <= 10000000000) : Fun T 17 [i64 n, i64 m_kind, i64 m_src, i64 m_dst, i64 m_rep, i64 m_no, i64 m_ballot, i64 m_vote, i64 m_state, i64 m_cmd_kind, i64 m_cmd_id, i64 m_cmd_src, i64 m_cmd_dst, i64 m_cmd_amt, i64 m_attr_seq, rL m_attr_deps] = some [.bool (msgOk n ⟨m_kind, m_src, m_dst, m_rep, m_no, m_ballot, m_vote, m_state, ⟨m_cmd_kind, m_cmd_id, m_cmd_src, m_cmd_dst, m_cmd_amt⟩, ⟨m_attr_seq, m_attr_deps⟩⟩)] := by
 rw [Fun_k (t := tm17) rfl]; unfold tm17; unfold msgOk
 have hx' : m_attr_deps.length <= 1099511627776 := by omega
 cases hg : isGrp n
 ·(refine fork_in ?_; repeat' (refine fork_eq ?_ ?_<;>intro _<;>try simp (disch := first|assumption|omega) only [S0,rA,rQ,rB,rT,rE,impl_isInstance,impl_within, *]))
 have hn := isGrp_rng hg
 have hk : inR m_kind 1 7 = true -> 1 <= m_kind /\ m_kind <= 7 := by simp [inR]
 (refine fork_in ?_; repeat' (refine fork_eq ?_ ?_<;>intro _<;>try simp (disch := first|assumption|omega) only [S0,rA,rQ,rB,rT,rE,impl_isInstance,impl_within,impl_Msg_row,impl_goodRow,impl_GoodAttr,impl_GoodCmd,S_eqs,impl_noneAttr,impl_SameAttr, *]))
 all_goals (refine bool_fin ?_; simp only [Bool.and_eq_true, Bool.or_eq_true, Bool.not_eq_true', Bool.not_eq_false', Bool.and_eq_false_iff, Bool.or_eq_false_iff, Bool.false_eq_true, beq_iff_eq, beq_eq_false_iff_ne, decide_eq_true_eq, decide_eq_false_iff_not, ne_eq] at *; grind)
theorem spec_l1Own (xs : List Int) (hx : xs.length <= 10000000000) : Fun T 102 [rL xs] = some [rL xs] := by
 rw [Fun_k (t := tm102) rfl]; unfold tm102
 have h0 : (Prim.mk 1 0).run [] = some [.rows 1 []] := rfl
 (refine fork_in ?_; repeat' (refine fork_eq ?_ ?_<;>intro _<;>try simp (disch := first|assumption|omega) only [S0,rA,rQ,rB,rT,rE,h0,S_app, *]))
theorem spec_l4OwnAttr (s : Int) (xs : List Int) (hx : xs.length <= 10000000000) : Fun T 101 [i64 s, rL xs] = some [i64 s, rL xs] := by
 rw [Fun_k (t := tm101) rfl]; unfold tm101
 (refine fork_in ?_; repeat' (refine fork_eq ?_ ?_<;>intro _<;>try simp (disch := first|assumption|omega) only [S0,rA,rQ,rB,rT,rE,spec_l1Own, *]))
theorem spec_l1Most (a b : Int) : Fun T 9 [i64 a, i64 b] = some [i64 (max a b)] := by
 rw [Fun_k (t := tm9) rfl]; unfold tm9
 by_cases h : b < a
 ·have h2 : decide (b < a) = true := by simpa using h
  rw [Int.max_eq_left (by omega)]
  simp (disch := first|assumption|omega) only [S0,rA,rQ,rB,rT,rE, h2]
 ·have h2 : decide (b < a) = false := by simpa using h
  rw [Int.max_eq_right (by omega)]
  simp (disch := first|assumption|omega) only [S0,rA,rQ,rB,rT,rE, h2]
theorem cur_next (code : D) (hc : isBytes code) (a s : Int) (h0 : 0 <= a) (h1 : a <= 4611686018427387904) : ∃ v s', Fun T 7 [code, i64 a, u64 s] = some [i64 v, code, i64 (a + 1), u64 s'] /\ 0 <= v /\ v <= 255 := by
 rw [Fun_k (t := tm7) rfl]; unfold tm7
 obtain ⟨l1, l2⟩ := bytes_len hc
 by_cases hlt : a < (bLen code : Nat)
 ·obtain ⟨b1, b, b2, b3, b4⟩ := bytes_at hc h0 hlt
  have c8 := u8_conv b3 b4
  have d : decide (a < ((bLen code : Nat) : Int)) = true := by simpa using hlt
  have e : decide (a + 1 <= ((bLen code : Nat) : Int)) = true := by simp; omega
  simp (disch := first|assumption|omega) only [S0,rA,rQ,rB,rT,rE, l1, b1, b2, c8, d, e, S_u64]
  exact ⟨_, _, rfl, b3, b4⟩
 ·have d : decide (a < ((bLen code : Nat) : Int)) = false := by simpa using hlt
  have e : decide (a + 1 <= ((bLen code : Nat) : Int)) = false := by simp; omega
  simp (disch := first|assumption|omega) only [S0,rA,rQ,rB,rT,rE, l1, d, e, S_u64]
  exact ⟨_, _, rfl, (lowV_rng _).1, (lowV_rng _).2⟩
theorem cur_pick (code : D) (hc : isBytes code) (n a s : Int) (h0 : 0 <= a) (h1 : a <= 2305843009213693952) : ∃ v a' s', Fun T 6 [i64 n, code, i64 a, u64 s] = some [i64 v, code, i64 a', u64 s'] /\ 0 <= v /\ (1 <= n -> v < n) /\ a <= a' /\ a' <= a + 2 := by
 rw [Fun_k (t := tm6) rfl]; unfold tm6
 by_cases hn : n <= 1
 ·have d : decide (n <= 1) = true := by simpa using hn
  simp (disch := first|assumption|omega) only [S0,rA,rQ,rB,rT,rE, d]
  exact ⟨_, _, _, rfl, by omega, by omega, by omega, by omega⟩
 ·have d : decide (n <= 1) = false := by simpa using hn
  obtain ⟨v, s', e, v1, v2⟩ := cur_next code hc a s h0 (by omega)
  by_cases hn2 : 200 < n
  ·have d2 : decide (200 < n) = true := by simpa using hn2
   obtain ⟨w, s2, e2, w1, w2⟩ := cur_next code hc (a + 1) s' (by omega) (by omega)
   have r1 : (Prim.bin .mul).run [i64 v, i64 256] = some [i64 (v * 256)] := run_mulI (by omega) (by omega)
   have r2 := run_rem' (a := v * 256 + w) (b := n) (by omega) (by omega)
   simp (disch := first|assumption|omega) only [S0,rA,rQ,rB,rT,rE, d, d2, e, e2, r1, r2]
   exact ⟨_, _, _, rfl, Int.emod_nonneg _ (by omega), fun _ => Int.emod_lt_of_pos _ (by omega), by omega, by omega⟩
  ·have d2 : decide (200 < n) = false := by simpa using hn2
   have r2 := run_rem' (a := v) (b := n) (by omega) (by omega)
   simp (disch := first|assumption|omega) only [S0,rA,rQ,rB,rT,rE, d, d2, e, r2]
   exact ⟨_, _, _, rfl, Int.emod_nonneg _ (by omega), fun _ => Int.emod_lt_of_pos _ (by omega), by omega, by omega⟩
theorem cur_one (code : D) (hc : isBytes code) (n a s : Int) (h0 : 0 <= a) (h1 : a <= 2305843009213693952) : ∃ v a' s', Fun T 12 [i64 n, code, i64 a, u64 s] = some [.bool v, code, i64 a', u64 s'] /\ a <= a' /\ a' <= a + 2 := by
 rw [Fun_k (t := tm12) rfl]; unfold tm12
 obtain ⟨v, a', s', e, v1, v2, v3, v4⟩ := cur_pick code hc n a s h0 h1
 simp (disch := first|assumption|omega) only [S0,rA,rQ,rB,rT,rE, e]
 exact ⟨_, _, _, rfl, v3, v4⟩
theorem cur_among (code : D) (hc : isBytes code) (xs : List Int) (a s : Int) (hx : 0 < xs.length) (hx2 : xs.length <= 10000000000) (h0 : 0 <= a) (h1 : a <= 2305843009213693952) : ∃ v a' s', Fun T 5 [rL xs, code, i64 a, u64 s] = some [i64 v, code, i64 a', u64 s'] /\ v ∈ xs /\ a <= a' /\ a' <= a + 2 := by
 rw [Fun_k (t := tm5) rfl]; unfold tm5
 obtain ⟨v, a', s', e, v1, v2, v3, v4⟩ := cur_pick code hc xs.length a s h0 h1
 have hb : InB xs v := by unfold InB; omega
 simp (disch := first|assumption|omega) only [S0,rA,rQ,rB,rT,rE, e, S_row]
 exact ⟨_, _, _, rfl, at_memI hb, v3, v4⟩
theorem cur_cmd (code : D) (hc : isBytes code) (a s : Int) (h0 : 0 <= a) (h1 : a <= 1152921504606846976) : ∃ (c : TCmd) (a' s' : Int), Fun T 11 [code, i64 a, u64 s] = some [i64 c.kind, i64 c.id, i64 c.src, i64 c.dst, i64 c.amt, code, i64 a', u64 s'] /\ (1 <= c.amt -> c.kind = 1) /\ (0 <= c.amt /\ c.amt <= 30) /\ a <= a' /\ a' <= a + 10 := by
 rw [Fun_k (t := tm11) rfl]; unfold tm11
 obtain ⟨v1, a1, s1, e1, p1, q1, g1, k1⟩ := cur_pick code hc 9 a s h0 (by omega)
 obtain ⟨v2, a2, s2, e2, p2, q2, g2, k2⟩ := cur_pick code hc 4 a1 s1 (by omega) (by omega)
 obtain ⟨v3, a3, s3, e3, p3, q3, g3, k3⟩ := cur_pick code hc 30 a2 s2 (by omega) (by omega)
 obtain ⟨v4, a4, s4, e4, p4, q4, g4, k4⟩ := cur_pick code hc 3 a3 s3 (by omega) (by omega)
 obtain ⟨v5, a5, s5, e5, g5, k5⟩ := cur_one code hc 4 a4 s4 (by omega) (by omega)
 have r2 := run_rem' (a := v2 + 1 + v4) (b := 4) (by omega) (by omega)
 have q1' := q1 (by omega)
 have q2' := q2 (by omega)
 have q3' := q3 (by omega)
 have q4' := q4 (by omega)
 cases v5
 ·simp (disch := first|assumption|omega) only [S0,rA,rQ,rB,rT,rE, e1, e2, e3, e4, e5, r2]
  exact ⟨⟨_, _, _, _, _⟩, _, _, rfl, fun _ => rfl, by simp only; omega, by omega, by omega⟩
 ·simp (disch := first|assumption|omega) only [S0,rA,rQ,rB,rT,rE, e1, e2, e3, e4, e5, r2]
  exact ⟨⟨_, _, _, _, _⟩, _, _, rfl, by simp only; omega, by simp only; omega, by omega, by omega⟩
theorem spec_l3None_any (n : Int) (h0 : 0 <= n) (h1 : n <= 1000) : Fun T 10 [i64 n] = some [i64 0, rL (List.replicate n.toNat (0 : Int))] := by
 rw [Fun_k (t := tm10) rfl]; unfold tm10
 (refine fork_in ?_; repeat' (refine fork_eq ?_ ?_<;>intro _<;>try simp (disch := first|assumption|omega) only [S0,rA,rQ,rB,rT,rE,S_make, *]))
theorem cur_row (code : D) (hc : isBytes code) (n a s : Int) (hn : 0 <= n) (hn2 : n <= 10) (h0 : 0 <= a) (h1 : a <= 576460752303423488) : ∃ (r : TRow) (a' s' : Int), Fun T 14 [i64 n, code, i64 a, u64 s] = some [i64 r.ballot, i64 r.vote, i64 r.state, i64 r.cmd.kind, i64 r.cmd.id, i64 r.cmd.src, i64 r.cmd.dst, i64 r.cmd.amt, i64 r.attr.seq, rL r.attr.deps, code, i64 a', u64 s'] /\ (r.attr.deps.length : Int) = n /\ a <= a' /\ a' <= a + 50 := by
 rw [Fun_k (t := tm14) rfl]; unfold tm14
 obtain ⟨v1, a1, s1, e1, p1, g1, k1⟩ := cur_among code hc [0, 0, 8, 9, 17] a s (by simp) (by simp) h0 (by omega)
 obtain ⟨v2, a2, s2, e2, p2, q2, g2, k2⟩ := cur_pick code hc 4 a1 s1 (by omega) (by omega)
 obtain ⟨c3, a3, s3, e3, -, -, g3, k3⟩ := cur_cmd code hc a2 s2 (by omega) (by omega)
 obtain ⟨v4, a4, s4, e4, p4, q4, g4, k4⟩ := cur_pick code hc 5 a3 s3 (by omega) (by omega)
 simp (disch := first|assumption|omega) only [S0,rA,rQ,rB,rT,rE, e1, e2, e3, e4, S_mk]
 generalize hE : Er T (Tm.loop _ _) _ = E
 have key : ∃ q, E = some q /\ ∃ (ds : List Int) (a' s' : Int), q = (.yield 1, [code, i64 a', u64 s', rL ds]) /\ (ds.length : Int) = n /\ a <= a' /\ a' <= a + 40 := by
  rw [<- hE]
  refine loopEx (γ := Nat × Int × Int × List Int) (fun c => n.toNat - c.1) (fun c => (c.1 : Int) <= n /\ c.2.2.2.length = c.1 /\ a4 <= c.2.1 /\ c.2.1 <= a4 + 2 * c.1) (fun c => [i64 c.1, code, i64 c.2.1, u64 c.2.2.1, rL c.2.2.2]) _ (0, a4, s4, []) rfl (by simp; omega) ?_
  rintro ⟨i, a5, s5, ds⟩ ⟨h2, h3, h4, h5⟩
  simp only at h2 h3 h4 h5
  by_cases hi : (i : Int) < n
  ·have d : decide ((i : Int) < n) = true := by simpa using hi
   obtain ⟨v6, a6, s6, e6, p6, q6, g6, k6⟩ := cur_pick code hc 3 a5 s5 (by omega) (by omega)
   have z : ds.length + ([v6] : List Int).length <= 100000000000 := by simp only [List.length_cons, List.length_nil]; omega
   refine .inl ⟨(i + 1, a6, s6, ds ++ [v6]), ?_, ⟨by simp only; omega, by simp [h3], by simp only; omega, by simp only; omega⟩, by simp only; omega⟩
   simp (disch := first|assumption|omega) only [S0,rA,rQ,rB,rT,rE, d, e6, S_mk, S_app]
  ·have d : decide ((i : Int) < n) = false := by simpa using hi
   refine .inr ⟨(.yield 1, [code, i64 a5, u64 s5, rL ds]), ?_, by simp, ds, a5, s5, rfl, by omega, by omega, by omega⟩
   simp (disch := first|assumption|omega) only [S0,rA,rQ,rB,rT,rE, d]
 obtain ⟨q, rfl, ds, a5, s5, rfl, h2, h3, h4⟩ := key
 obtain ⟨v6, a6, s6, e6, g6, k6⟩ := cur_one code hc 2 a5 s5 (by omega) (by omega)
 cases hz : v2 == 0
 ·cases v6
  ·simp (disch := first|assumption|omega) only [S0,rA,rQ,rB,rT,rE, e6, hz]
   exact ⟨⟨_, _, _, ⟨_, _, _, _, _⟩, ⟨_, _⟩⟩, _, _, rfl, h2, by omega, by omega⟩
  ·simp (disch := first|assumption|omega) only [S0,rA,rQ,rB,rT,rE, e6, hz]
   exact ⟨⟨_, _, _, ⟨_, _, _, _, _⟩, ⟨_, _⟩⟩, _, _, rfl, h2, by omega, by omega⟩
 ·have e7 := spec_l3None_any n (by omega) (by omega)
  cases v6
  ·simp (disch := first|assumption|omega) only [S0,rA,rQ,rB,rT,rE, e6, e7, hz]
   exact ⟨⟨_, _, _, ⟨_, _, _, _, _⟩, ⟨_, _⟩⟩, _, _, rfl, by simp only [List.length_replicate]; omega, by omega, by omega⟩
  ·simp (disch := first|assumption|omega) only [S0,rA,rQ,rB,rT,rE, e6, e7, hz]
   exact ⟨⟨_, _, _, ⟨_, _, _, _, _⟩, ⟨_, _⟩⟩, _, _, rfl, by simp only [List.length_replicate]; omega, by omega, by omega⟩
theorem cur_anyCmd (code : D) (hc : isBytes code) (a s : Int) (h0 : 0 <= a) (h1 : a <= 288230376151711744) : ∃ (c : TCmd) (a' s' : Int), Fun T 15 [code, i64 a, u64 s] = some [i64 c.kind, i64 c.id, i64 c.src, i64 c.dst, i64 c.amt, code, i64 a', u64 s'] /\ a <= a' /\ a' <= a + 20 := by
 rw [Fun_k (t := tm15) rfl]; unfold tm15
 obtain ⟨c, a1, s1, e1, -, -, g1, k1⟩ := cur_cmd code hc a s h0 (by omega)
 obtain ⟨v2, a2, s2, e2, p2, q2, g2, k2⟩ := cur_pick code hc 20 a1 s1 (by omega) (by omega)
 cases c0 : v2 == 0
 rotate_left
 ·simp (disch := first|assumption|omega) only [S0,rA,rQ,rB,rT,rE, e1, e2, c0]
  exact ⟨⟨0, 0, 0, 0, 0⟩, _, _, rfl, by omega, by omega⟩
 cases c1 : v2 == 1
 rotate_left
 ·simp (disch := first|assumption|omega) only [S0,rA,rQ,rB,rT,rE, e1, e2, c0, c1]
  exact ⟨⟨c.kind, c.id, c.src, c.src, c.amt⟩, a2, s2, rfl, by omega, by omega⟩
 cases c2 : v2 == 2
 rotate_left
 ·obtain ⟨v3, a3, s3, e3, p3, g3, k3⟩ := cur_among code hc [0, 999, 1000] a2 s2 (by simp) (by simp) (by omega) (by omega)
  simp (disch := first|assumption|omega) only [S0,rA,rQ,rB,rT,rE, e1, e2, c0, c1, c2, S_mk, e3]
  exact ⟨⟨c.kind, v3, c.src, c.dst, c.amt⟩, a3, s3, rfl, by omega, by omega⟩
 cases c3 : v2 == 3
 rotate_left
 ·obtain ⟨v3, a3, s3, e3, p3, g3, k3⟩ := cur_among code hc [0, 1000, 1001] a2 s2 (by simp) (by simp) (by omega) (by omega)
  simp (disch := first|assumption|omega) only [S0,rA,rQ,rB,rT,rE, e1, e2, c0, c1, c2, c3, S_mk, e3]
  exact ⟨⟨c.kind, c.id, c.src, c.dst, v3⟩, a3, s3, rfl, by omega, by omega⟩
 cases c4 : v2 == 4
 rotate_left
 ·obtain ⟨v3, a3, s3, e3, p3, g3, k3⟩ := cur_among code hc [-1, 4] a2 s2 (by simp) (by simp) (by omega) (by omega)
  simp (disch := first|assumption|omega) only [S0,rA,rQ,rB,rT,rE, e1, e2, c0, c1, c2, c3, c4, S_mk, e3]
  exact ⟨⟨c.kind, c.id, v3, c.dst, c.amt⟩, a3, s3, rfl, by omega, by omega⟩
 cases c5 : v2 == 5
 ·simp (disch := first|assumption|omega) only [S0,rA,rQ,rB,rT,rE, e1, e2, c0, c1, c2, c3, c4, c5]
  exact ⟨c, a2, s2, rfl, by omega, by omega⟩
 ·obtain ⟨v3, a3, s3, e3, p3, q3, g3, k3⟩ := cur_pick code hc 4 a2 s2 (by omega) (by omega)
  simp (disch := first|assumption|omega) only [S0,rA,rQ,rB,rT,rE, e1, e2, c0, c1, c2, c3, c4, c5, e3]
  exact ⟨⟨v3, c.id, c.src, c.dst, c.amt⟩, a3, s3, rfl, by omega, by omega⟩
theorem laws_big (code more : D) (hc : isBytes code) (hm : isBytes more) : ∃ b, Fun T 1 [code, more] = some [.bool b] := by
 rw [Fun_k (t := tm1) rfl]; unfold tm1
 obtain ⟨l1, l2⟩ := bytes_len hc
 obtain ⟨l3, l4⟩ := bytes_len hm
 cases d : decide (1048576 < ((bLen code : Nat) : Int))
 ·simp (disch := first|assumption|omega) only [S0,rA,rQ,rB,rT,rE, l1, l3, d]
  exact ⟨_, rfl⟩
 ·simp (disch := first|assumption|omega) only [S0,rA,rQ,rB,rT,rE, l1, l3, d]
  exact ⟨_, rfl⟩
theorem same_ints (xs ys : List Int) (hx : xs.length <= 1099511627776) : Fun T 90 [rL xs, rL ys] = some [.bool (decide (xs = ys))] := by
 rw [Fun_k (t := tm90) rfl]; unfold tm90
 by_cases hl : ys.length = xs.length
 ·have e1 : ((xs.length : Int) == ys.length) = true := by simp [hl]
  simp (disch := first|assumption|omega) only [S0,rA,rQ,rB,rT,rE, e1]
  rw [scanF 1 xs.length (fun i => decide (atI xs (i : Int) = atI ys (i : Int))) [.bool false], allB_eq hl.symm]
  ·cases decide (xs = ys) <;> simp (disch := first|assumption|omega) only [S0,rA,rQ,rB,rT,rE]
  ·intro i hi hlt
   have hb : InB xs (i : Int) := InB_nat.2 hi
   have hb2 : InB ys (i : Int) := InB_nat.2 (by omega)
   have e : (!(atI xs (i : Int) == atI ys (i : Int))) = !decide (atI xs (i : Int) = atI ys (i : Int)) := by rw [Bool.beq_eq_decide_eq]
   (refine fork_in ?_; repeat' (refine fork_eq ?_ ?_<;>intro _<;>try simp (disch := first|assumption|omega) only [S0,rA,rQ,rB,rT,rE,S_row,hlt,e, *]))
  ·intro hlt
   simp (disch := first|assumption|omega) only [S0,rA,rQ,rB,rT,rE, hlt]
 ·have e1 : ((xs.length : Int) == ys.length) = false := by simp; omega
  rw [eq_len (fun e => hl e.symm)]
  simp (disch := first|assumption|omega) only [S0,rA,rQ,rB,rT,rE, e1]
theorem same_attr (s t : Int) (xs ys : List Int) (hx : xs.length <= 1099511627776) : Fun T 89 [i64 s, rL xs, i64 t, rL ys] = some [.bool (decide ((⟨s, xs⟩ : TAttr) = ⟨t, ys⟩))] := by
 rw [Fun_k (t := tm89) rfl]; unfold tm89
 have e : decide ((⟨s, xs⟩ : TAttr) = ⟨t, ys⟩) = (s == t && decide (xs = ys)) := by simp [TAttr.mk.injEq, Bool.beq_eq_decide_eq]
 rw [e]
 cases h : s == t
 ·simp (disch := first|assumption|omega) only [S0,rA,rQ,rB,rT,rE, same_ints, h]
 ·simp (disch := first|assumption|omega) only [S0,rA,rQ,rB,rT,rE, same_ints, h]
theorem spec_l1Split (s : List UInt8) (b : UInt8) (hs : s.length <= 1000000000) : Fun T 95 [.str s, u8 b] = some [rL (splitB b s)] := by
 rw [Fun_k (t := tm95) rfl]; unfold tm95
 simp (disch := first|assumption|omega) only [S0,rA,rQ,rB,rT,rE]
 generalize hE : Er T (Tm.loop _ _) _ = E
 have key : ∃ q, E = some q /\ ∃ (out : List (List UInt8)) (f : Nat), q = (.yield 1, [rL out, i64 f]) /\ f <= s.length /\ out ++ splitB b (s.drop f) = splitB b s /\ b ∉ s.drop f /\ out.length <= s.length := by
  rw [<- hE]
  refine loopEx (γ := Nat × Nat × List (List UInt8)) (fun c => s.length - c.1) (fun c => c.2.1 <= c.1 /\ c.1 <= s.length /\ c.2.2 ++ splitB b (s.drop c.2.1) = splitB b s /\ b ∉ (s.take c.1).drop c.2.1 /\ c.2.2.length <= c.1) (fun c => [rL c.2.2, i64 c.2.1, i64 c.1]) _ (0, 0, []) rfl (by simp) ?_
  rintro ⟨i, f, out⟩ ⟨h1, h2, h3, h4, h5⟩
  simp only at h1 h2 h3 h4 h5
  by_cases hi : i < s.length
  ·have d : decide ((i : Int) < (s.length : Int)) = true := by simpa using hi
   have hx : (i : Int) < (s.length : Int) := by omega
   have hx0 : (0 : Int) <= i := by omega
   have es := t_sidx (s := s) (k := (i : Int)) hx0 hx
   have eds := drop_split (s := s) h1 hi
   left
   by_cases hc : atI s (i : Int) = b
   ·have ec : (atI s (i : Int) == b) = true := by simpa using hc
    have eb := t_ssub (s := s) (lo := (f : Int)) (hi := (i : Int)) (by omega) (by omega) (by omega)
    rw [Int.toNat_natCast, Int.toNat_natCast] at eb
    have z : out.length + ([(s.take i).drop f] : List (List UInt8)).length <= 100000000000 := by simp only [List.length_cons, List.length_nil]; omega
    refine ⟨(i + 1, i + 1, out ++ [(s.take i).drop f]), ?_, ⟨by simp only; omega, by simp only; omega, ?_, by simp, by simp; omega⟩, by simp only; omega⟩
    ·simp (disch := first|assumption|omega) only [S0,rA,rQ,rB,rT,rE, t_slen, d, es, u8_eq, ec, eb, S_mk, S_app]
    ·simp only
     rw [<- h3, eds, hc, splitB_app _ h4, List.append_assoc]
     rfl
   ·have ec : (atI s (i : Int) == b) = false := by simpa using hc
    refine ⟨(i + 1, f, out), ?_, ⟨by simp only; omega, by simp only; omega, h3, ?_, by simp only; omega⟩, by simp only; omega⟩
    ·simp (disch := first|assumption|omega) only [S0,rA,rQ,rB,rT,rE, t_slen, d, es, u8_eq, ec]
    ·simp only
     rw [take_drop_succ h1 hi]
     simp only [List.mem_append, List.mem_singleton, not_or]
     exact ⟨h4, fun e => hc e.symm⟩
  ·have d : decide ((i : Int) < (s.length : Int)) = false := by simpa using hi
   refine .inr ⟨(.yield 1, [rL out, i64 f]), ?_, by simp, out, f, rfl, by omega, h3, ?_, by omega⟩
   ·simp (disch := first|assumption|omega) only [S0,rA,rQ,rB,rT,rE, t_slen, d]
   ·rw [List.take_of_length_le (by omega)] at h4
    exact h4
 obtain ⟨q, rfl, out, f, rfl, h1, h2, h3, h4⟩ := key
 have eb := t_ssub (s := s) (lo := (f : Int)) (hi := (s.length : Int)) (by omega) (by omega) (by omega)
 rw [Int.toNat_natCast, Int.toNat_natCast, List.take_of_length_le (Nat.le_refl _)] at eb
 have z : out.length + ([s.drop f] : List (List UInt8)).length <= 100000000000 := by simp only [List.length_cons, List.length_nil]; omega
 have e : out ++ [s.drop f] = splitB b s := by rw [<- h2, splitB_no h3]
 simp (disch := first|assumption|omega) only [S0,rA,rQ,rB,rT,rE, t_slen, eb, S_mk, S_app, e]
theorem countString (s : List UInt8) (b : UInt8) : Fun T 76 [.str s, u8 b] = some [i64 (s.count b : Nat)] := by
 rw [Fun_ext (e := cntE) rfl]
 exact cntE_u8
theorem indexByteString (s : List UInt8) (b : UInt8) : Fun T 80 [.str s, u8 b] = some [i64 (Lib.indexByte s b)] := by
 rw [Fun_ext (e := ixE) rfl]
 exact ixE_u8
theorem lite_IndexByte (s : List UInt8) (b : UInt8) : Fun T 79 [.str s, u8 b] = some [i64 (Lib.indexByte s b)] := by
 rw [Fun_k (t := tm79) rfl]; unfold tm79
 simp (disch := first|assumption|omega) only [S0,rA,rQ,rB,rT,rE, indexByteString]
theorem strings_Count (s : List UInt8) (b : UInt8) : Fun T 75 [.str s, .str [b]] = some [i64 (s.count b : Nat)] := by
 rw [Fun_k (t := tm75) rfl]; unfold tm75
 have e1 : Prim.slen.run [.str [b]] = some [i64 1] := rfl
 have e2 : Prim.sidx.run [.str [b], i64 0] = some [u8 b] := rfl
 simp (disch := first|assumption|omega) only [S0,rA,rQ,rB,rT,rE, e1, e2, countString]
theorem lite_Index (s : List UInt8) (b : UInt8) : Fun T 78 [.str s, .str [b]] = some [i64 (Lib.indexByte s b)] := by
 rw [Fun_k (t := tm78) rfl]; unfold tm78
 have e1 : Prim.slen.run [.str [b]] = some [i64 1] := rfl
 have e2 : Prim.sidx.run [.str [b], i64 0] = some [u8 b] := rfl
 cases e : ([b] : List UInt8) == s
 ·simp (disch := first|assumption|omega) only [S0,rA,rQ,rB,rT,rE, e1, e2, t_eq, e, lite_IndexByte]
 ·have hs : s = [b] := (show [b] = s by simpa using e).symm
  have hi : Lib.indexByte s b = 0 := by rw [hs]; unfold Lib.indexByte; simp
  rw [hi]
  simp (disch := first|assumption|omega) only [S0,rA,rQ,rB,rT,rE, e1, t_eq, e]
theorem strings_Index (s : List UInt8) (b : UInt8) : Fun T 77 [.str s, .str [b]] = some [i64 (Lib.indexByte s b)] := by
 rw [Fun_k (t := tm77) rfl]; unfold tm77
 simp (disch := first|assumption|omega) only [S0,rA,rQ,rB,rT,rE, lite_Index]
theorem strings_genSplit (s : List UInt8) (b : UInt8) (hs : s.length <= 1000000000) : Fun T 70 [.str s, .str [b], i64 0, i64 (-1)] = some [rL (splitB b s)] := by
 rw [Fun_k (t := tm70) rfl]; unfold tm70
 have e0 : (([b] : List UInt8) == []) = false := rfl
 have hcl : s.count b <= s.length := List.count_le_length
 have hmin : min ((s.count b : Nat) + 1 : Int) ((s.length : Int) + 1) = ((s.count b : Nat) : Int) + 1 := by omega
 have emk : (Prim.make 16 [(.str [])]).run [i64 (((s.count b : Nat) : Int) + 1)] = some [rL (List.replicate (s.count b + 1) ([] : List UInt8))] := by
  have := S_make.2.1 (n := ((s.count b : Nat) : Int) + 1) (by omega) (by omega)
  rw [this]
  congr
 have ea : ((s.count b : Nat) : Int) + 1 - 1 = ((s.count b : Nat) : Int) := by omega
 simp (disch := first|assumption|omega) only [S0,rA,rQ,rB,rT,rE, t_eq, e0, strings_Count, t_slen, hmin, emk, ea]
 generalize hE : Er T (Tm.loop _ _) _ = E
 have key : ∃ q, E = some q /\ ∃ (r : List UInt8) (a : List (List UInt8)), q = (.yield 1, [.str r, rL a, i64 (s.count b : Nat)]) /\ a.length = s.count b + 1 /\ b ∉ r /\ a.take (s.count b) ++ splitB b r = splitB b s := by
  rw [<- hE]
  refine loopEx (γ := Nat × List UInt8 × List (List UInt8)) (fun c => s.count b - c.1) (fun c => c.1 <= s.count b /\ c.2.2.length = s.count b + 1 /\ c.2.1.count b + c.1 = s.count b /\ c.2.1.length <= s.length /\ c.2.2.take c.1 ++ splitB b c.2.1 = splitB b s) (fun c => [.str c.2.1, rL c.2.2, i64 c.1]) _ (0, s, List.replicate (s.count b + 1) []) rfl (by simp) ?_
  rintro ⟨i, r, a⟩ ⟨h1, h2, h3, h4, h5⟩
  simp only at h1 h2 h3 h4 h5
  by_cases hi : i < s.count b
  ·have d : decide ((i : Int) < ((s.count b : Nat) : Int)) = true := by simpa using hi
   have hm : b ∈ r := List.count_pos_iff.1 (by omega)
   obtain ⟨p, t, hr, hp, hix⟩ := ix_some hm
   have hbi : InB a (i : Int) := by unfold InB; omega
   have d2 : decide ((p.length : Int) < 0) = false := by simp
   have hrl : r.length = p.length + t.length + 1 := by rw [hr]; simp; omega
   have ea0 : (p.length : Int) + 0 = p.length := by omega
   have es1 := t_ssub (s := r) (lo := 0) (hi := (p.length : Int)) (by omega) (by omega) (by omega)
   have es2 := t_ssub (s := r) (lo := (p.length : Int) + 1) (hi := (r.length : Int)) (by omega) (by omega) (by omega)
   have et1 : (r.take (p.length : Int).toNat).drop (0 : Int).toNat = p := by
    rw [Int.toNat_natCast, hr]; simp
   have et2 : (r.take (r.length : Int).toNat).drop ((p.length : Int) + 1).toNat = t := by
    rw [Int.toNat_natCast, List.take_of_length_le (Nat.le_refl _), show ((p.length : Int) + 1).toNat = p.length + 1 by omega, hr]
    rw [List.drop_append]
    simp
   rw [et1] at es1
   rw [et2] at es2
   have eb1 : Prim.slen.run [.str [b]] = some [i64 1] := rfl
   have hcr : r.count b = t.count b + 1 := by
    rw [hr, List.count_append, List.count_cons_self, List.count_eq_zero.2 hp]
    omega
   refine .inl ⟨(i + 1, t, setI a (i : Int) p), ?_, ⟨by simp only; omega, by simp only [setI_len]; omega, by simp only; omega, by simp only; omega, ?_⟩, by simp only; omega⟩
   ·simp (disch := first|assumption|omega) only [S0,rA,rQ,rB,rT,rE, d, strings_Index, hix, d2, ea0, es1, S_set, eb1, t_slen, es2]
   ·simp only
    have e6 : (setI a (i : Int) p).take (i + 1) = a.take i ++ [p] := by
     have hl : i < (setI a (i : Int) p).length := by rw [setI_len]; omega
     rw [<- take_at hl]
     have e7 : atI (setI a (i : Int) p) (i : Int) = p := S_upd.1 hbi
     rw [e7]
     congr 1
     unfold setI
     rw [Int.toNat_natCast, List.take_set_of_le (Nat.le_refl _)]
    rw [e6, List.append_assoc, <- h5, hr, splitB_app _ hp]
    rfl
  ·have d : decide ((i : Int) < ((s.count b : Nat) : Int)) = false := by simpa using hi
   obtain rfl : i = s.count b := by omega
   refine .inr ⟨(.yield 1, [.str r, rL a, i64 (s.count b : Nat)]), ?_, by simp, r, a, rfl, h2, List.count_eq_zero.1 (by omega), h5⟩
   simp (disch := first|assumption|omega) only [S0,rA,rQ,rB,rT,rE, d]
 obtain ⟨q, rfl, r, a, rfl, h1, h2, h3⟩ := key
 have hb : InB a ((s.count b : Nat) : Int) := by unfold InB; omega
 have hl : s.count b < (setI a ((s.count b : Nat) : Int) r).length := by rw [setI_len]; omega
 have hll : ((s.count b : Nat) : Int) + 1 <= ((setI a ((s.count b : Nat) : Int) r).length : Int) := by omega
 have e6 : ((setI a ((s.count b : Nat) : Int) r).take (((s.count b : Nat) : Int) + 1).toNat).drop (0 : Int).toNat = splitB b s := by
  rw [show (((s.count b : Nat) : Int) + 1).toNat = s.count b + 1 by omega]
  rw [<- take_at hl]
  have e7 : atI (setI a ((s.count b : Nat) : Int) r) ((s.count b : Nat) : Int) = r := S_upd.1 hb
  rw [e7, <- h3, splitB_no h2]
  simp only [Int.toNat_zero, List.drop_zero]
  congr 1
  unfold setI
  rw [Int.toNat_natCast, List.take_set_of_le (Nat.le_refl _)]
 simp (disch := first|assumption|omega) only [S0,rA,rQ,rB,rT,rE, S_set, S_sub, e6]
theorem strings_Split (s : List UInt8) (b : UInt8) (hs : s.length <= 1000000000) : Fun T 69 [.str s, .str [b]] = some [rL (splitB b s)] := by
 rw [Fun_k (t := tm69) rfl]; unfold tm69
 simp (disch := first|assumption|omega) only [S0,rA,rQ,rB,rT,rE, strings_genSplit]
theorem impl_digits (s : List UInt8) (most : Int) (hm : 0 <= most) (hm2 : most <= 9) (hs : s.length <= 1000000000) : Fun T 83 [.str s, i64 most] = some [i64 (digM s most)] := by
 rw [Fun_k (t := tm83) rfl]; unfold tm83
 simp (disch := first|assumption|omega) only [S0,rA,rQ,rB,rT,rE, t_slen]
 have hloop : ∀ i : Nat, i <= s.length -> (s.take i).all isDig = true -> (i : Int) <= most -> 0 <= valD (s.take i) /\ valD (s.take i) <= 1000000000 := by
  intro i hi hd hm3
  obtain ⟨h1, h2⟩ := valD_rng (s.take i) hd
  refine ⟨h1, ?_⟩
  have h3 : (s.take i).length <= 9 := by rw [List.length_take]; omega
  have h4 : (10 : Int) ^ (s.take i).length <= 10 ^ 9 := by
   exact_mod_cast Nat.pow_le_pow_right (by decide) h3
  have h5 : (10 : Int) ^ 9 = 1000000000 := by decide
  omega
 have stepN : ∀ i : Nat, i < s.length -> (s.take (i + 1)).all isDig = ((s.take i).all isDig && isDig (atI s (i : Int))) := by
  intro i hi
  rw [<- take_at hi, List.all_append]
  simp
 have stepV : ∀ i : Nat, i < s.length -> valD (s.take (i + 1)) = 10 * valD (s.take i) + (((atI s (i : Int)).toNat : Int) - 48) := by
  intro i hi
  rw [<- take_at hi, valD_app]
 have badall : ∀ i : Nat, i < s.length -> isDig (atI s (i : Int)) = false -> s.all isDig = false := by
  intro i hi hd
  cases h : s.all isDig
  ·rfl
  ·rw [List.all_eq_true] at h
   rw [h _ (at_mem hi)] at hd
   cases hd
 rw [whileE (if s.all isDig && decide ((s.length : Int) <= most) then (.yield 1, [i64 (valD s)]) else (.ret, [i64 (-1)])) (fun i : Nat => s.length - i) (fun i : Nat => i <= s.length /\ (s.take i).all isDig = true /\ (i : Int) <= most) (fun i => [i64 (valD (s.take i)), i64 i]) 0 rfl (by simp; omega) (by split <;> simp)]
 rotate_left
 ·rintro i ⟨hi, hd, hmi⟩
  by_cases hlt : i < s.length
  ·have d : decide ((i : Int) < (s.length : Int)) = true := by simpa using hlt
   have es := t_sidx (s := s) (k := (i : Int)) (by omega) (by omega)
   obtain ⟨v1, v2⟩ := hloop i hi hd hmi
   cases hdig : isDig (atI s (i : Int))
   ·right
    have hb := badall i hlt hdig
    rw [hb]
    simp only [Bool.false_and, Bool.false_eq_true, if_false]
    unfold isDig at hdig
    simp only [Bool.not_eq_false', Bool.or_eq_true, decide_eq_true_eq] at hdig
    by_cases h48 : (atI s (i : Int)).toNat < 48
    ·have d1 : decide ((atI s (i : Int)).toNat < 48) = true := by simpa using h48
     simp (disch := first|assumption|omega) only [S0,rA,rQ,rB,rT,rE, d, es, u8_lt48, d1]
    ·have d1 : decide ((atI s (i : Int)).toNat < 48) = false := by simpa using h48
     have d2 : decide (57 < (atI s (i : Int)).toNat) = true := by simp; omega
     simp (disch := first|assumption|omega) only [S0,rA,rQ,rB,rT,rE, d, es, u8_lt48, d1, u8_gt57, d2]
   ·have hr := isDig_rng hdig
    have d1 : decide ((atI s (i : Int)).toNat < 48) = false := by simp; omega
    have d2 : decide (57 < (atI s (i : Int)).toNat) = false := by simp; omega
    by_cases hmx : most <= (i : Int)
    ·right
     have d3 : decide (most <= (i : Int)) = true := by simpa using hmx
     have d4 : decide ((s.length : Int) <= most) = false := by simp; omega
     rw [d4]
     simp only [Bool.and_false, Bool.false_eq_true, if_false]
     simp (disch := first|assumption|omega) only [S0,rA,rQ,rB,rT,rE, d, es, u8_lt48, d1, u8_gt57, d2, d3]
    ·have d3 : decide (most <= (i : Int)) = false := by simpa using hmx
     have er : (Prim.bin .mul).run [i64 10, i64 (valD (s.take i))] = some [i64 (10 * valD (s.take i))] := run_mulI (by omega) (by omega)
     have ed := u8_dig hdig
     have ev := stepV i hlt
     refine .inl ⟨i + 1, ?_, ⟨by omega, by rw [stepN i hlt, hd, hdig]; rfl, by omega⟩, by omega⟩
     simp (disch := first|assumption|omega) only [S0,rA,rQ,rB,rT,rE, d, es, u8_lt48, d1, u8_gt57, d2, d3, er, u8_sub, ed, ev]
  ·have d : decide ((i : Int) < (s.length : Int)) = false := by simpa using hlt
   obtain rfl : i = s.length := by omega
   rw [List.take_of_length_le (Nat.le_refl _)] at hd ⊢
   have d4 : decide ((s.length : Int) <= most) = true := by simpa using hmi
   right
   rw [hd, d4]
   simp only [Bool.and_self, if_true]
   simp (disch := first|assumption|omega) only [S0,rA,rQ,rB,rT,rE, d]
 unfold digM
 cases hA : s.all isDig && decide ((s.length : Int) <= most)
 ·simp only [Bool.false_and, Bool.false_eq_true, if_false]
  simp (disch := first|assumption|omega) only [S0,rA,rQ,rB,rT,rE]
 ·simp only [Bool.true_and, if_true]
  by_cases hne : s = []
  ·subst hne
   have e0 : (([] : List UInt8) == []) = true := rfl
   simp (disch := first|assumption|omega) only [S0,rA,rQ,rB,rT,rE, t_eq, e0]
   rfl
  ·have e0 : (s == []) = false := by simpa using hne
   have hl : 0 < s.length := List.length_pos_iff.2 hne
   have es := t_sidx (s := s) (k := 0) (by omega) (by omega)
   rw [lead_of hne]
   cases hc : atI s 0 == 48
   ·simp only [Bool.false_and, Bool.not_false, if_true]
    simp (disch := first|assumption|omega) only [S0,rA,rQ,rB,rT,rE, t_eq, e0, es, u8_eq48, hc]
   ·cases d5 : decide ((1 : Int) < (s.length : Int))
    ·simp only [Bool.and_false, Bool.not_false, if_true]
     simp (disch := first|assumption|omega) only [S0,rA,rQ,rB,rT,rE, t_eq, e0, es, u8_eq48, hc, t_slen, d5]
    ·simp only [Bool.and_true, Bool.not_true, Bool.false_eq_true, if_false]
     simp (disch := first|assumption|omega) only [S0,rA,rQ,rB,rT,rE, t_eq, e0, es, u8_eq48, hc, t_slen, d5]
theorem spec_l1Read (s : List UInt8) (hs : s.length <= 1000000000) : Fun T 96 [.str s] = some [i64 (digM s 6)] := by
 rw [Fun_k (t := tm96) rfl]; unfold tm96
 unfold digM
 cases hlen : inR ((s.length : Nat) : Int) 1 6
 ·have hk : (s.all isDig && decide ((s.length : Int) <= 6) && !lead s) = false := by
   by_cases hne : s = []
   ·subst hne; rfl
   ·have hl : 0 < s.length := List.length_pos_iff.2 hne
    have d4 : decide ((s.length : Int) <= 6) = false := by
     cases hd : decide ((s.length : Int) <= 6)
     ·rfl
     ·simp only [decide_eq_true_eq] at hd
      have : inR ((s.length : Nat) : Int) 1 6 = true := inR_iff.2 ⟨by omega, hd⟩
      rw [this] at hlen
      cases hlen
    rw [d4, Bool.and_false, Bool.false_and]
  rw [hk]
  simp only [Bool.false_eq_true, if_false]
  simp (disch := first|assumption|omega) only [S0,rA,rQ,rB,rT,rE, t_slen, spec_l1In, hlen]
 ·have hr := inR_iff.1 hlen
  have d4 : decide ((s.length : Int) <= 6) = true := by simpa using hr.2
  have hne : s ≠ [] := by intro e; rw [e] at hr; simp at hr
  have es0 := t_sidx (s := s) (k := 0) (by omega) (by omega)
  rw [d4, Bool.and_true, lead_of hne]
  have hloop : ∀ i : Nat, i <= s.length -> (s.take i).all isDig = true -> 0 <= valD (s.take i) /\ valD (s.take i) <= 1000000000 := by
   intro i hi hd
   obtain ⟨h1, h2⟩ := valD_rng (s.take i) hd
   refine ⟨h1, ?_⟩
   have h3 : (s.take i).length <= 9 := by rw [List.length_take]; omega
   have h4 : (10 : Int) ^ (s.take i).length <= 10 ^ 9 := by
    exact_mod_cast Nat.pow_le_pow_right (by decide) h3
   have h5 : (10 : Int) ^ 9 = 1000000000 := by decide
   omega
  have stepN : ∀ i : Nat, i < s.length -> (s.take (i + 1)).all isDig = ((s.take i).all isDig && isDig (atI s (i : Int))) := by
   intro i hi
   rw [<- take_at hi, List.all_append]
   simp
  have stepV : ∀ i : Nat, i < s.length -> valD (s.take (i + 1)) = 10 * valD (s.take i) + (((atI s (i : Int)).toNat : Int) - 48) := by
   intro i hi
   rw [<- take_at hi, valD_app]
  have badall : ∀ i : Nat, i < s.length -> isDig (atI s (i : Int)) = false -> s.all isDig = false := by
   intro i hi hd
   cases h : s.all isDig
   ·rfl
   ·rw [List.all_eq_true] at h
    rw [h _ (at_mem hi)] at hd
    cases hd
  cases hc : atI s 0 == 48
  ·simp only [Bool.false_and, Bool.not_false, Bool.and_true]
   simp (disch := first|assumption|omega) only [S0,rA,rQ,rB,rT,rE, t_slen, spec_l1In, hlen, es0, u8_eq48, hc]
   rw [whileE (if s.all isDig then (.yield 1, [i64 (valD s)]) else (.ret, [i64 (-1)])) (fun i : Nat => s.length - i) (fun i : Nat => i <= s.length /\ (s.take i).all isDig = true) (fun i => [i64 (valD (s.take i)), i64 i]) 0 rfl (by simp) (by split <;> simp)]
   ·cases hA : s.all isDig
    ·simp only [Bool.false_eq_true, if_false]
     simp (disch := first|assumption|omega) only [S0,rA,rQ,rB,rT,rE]
    ·simp only [if_true]
     simp (disch := first|assumption|omega) only [S0,rA,rQ,rB,rT,rE]
   ·rintro i ⟨hi, hd⟩
    by_cases hlt : i < s.length
    ·have d : decide ((i : Int) < (s.length : Int)) = true := by simpa using hlt
     have es := t_sidx (s := s) (k := (i : Int)) (by omega) (by omega)
     obtain ⟨v1, v2⟩ := hloop i hi hd
     cases hdig : isDig (atI s (i : Int))
     ·right
      have hb := badall i hlt hdig
      rw [hb]
      simp only [Bool.false_eq_true, if_false]
      unfold isDig at hdig
      simp only [Bool.not_eq_false', Bool.or_eq_true, decide_eq_true_eq] at hdig
      by_cases h48 : (atI s (i : Int)).toNat < 48
      ·have d1 : decide ((atI s (i : Int)).toNat < 48) = true := by simpa using h48
       simp (disch := first|assumption|omega) only [S0,rA,rQ,rB,rT,rE, t_slen, d, es, u8_lt48, d1]
      ·have d1 : decide ((atI s (i : Int)).toNat < 48) = false := by simpa using h48
       have d2 : decide (57 < (atI s (i : Int)).toNat) = true := by simp; omega
       simp (disch := first|assumption|omega) only [S0,rA,rQ,rB,rT,rE, t_slen, d, es, u8_lt48, d1, u8_gt57, d2]
     ·have hr := isDig_rng hdig
      have d1 : decide ((atI s (i : Int)).toNat < 48) = false := by simp; omega
      have d2 : decide (57 < (atI s (i : Int)).toNat) = false := by simp; omega
      have er : (Prim.bin .mul).run [i64 10, i64 (valD (s.take i))] = some [i64 (10 * valD (s.take i))] := run_mulI (by omega) (by omega)
      have ed := u8_dig hdig
      have ev := stepV i hlt
      refine .inl ⟨i + 1, ?_, ⟨by omega, by rw [stepN i hlt, hd, hdig]; rfl⟩, by omega⟩
      simp (disch := first|assumption|omega) only [S0,rA,rQ,rB,rT,rE, t_slen, d, es, u8_lt48, d1, u8_gt57, d2, er, u8_sub, ed, ev]
    ·have d : decide ((i : Int) < (s.length : Int)) = false := by simpa using hlt
     obtain rfl : i = s.length := by omega
     rw [List.take_of_length_le (Nat.le_refl _)] at hd ⊢
     right
     rw [hd]
     simp only [if_true]
     simp (disch := first|assumption|omega) only [S0,rA,rQ,rB,rT,rE, t_slen, d]
  ·cases d5 : decide ((1 : Int) < (s.length : Int))
   ·simp only [Bool.and_false, Bool.not_false, Bool.and_true]
    simp (disch := first|assumption|omega) only [S0,rA,rQ,rB,rT,rE, t_slen, spec_l1In, hlen, es0, u8_eq48, hc, d5]
    rw [whileE (if s.all isDig then (.yield 1, [i64 (valD s)]) else (.ret, [i64 (-1)])) (fun i : Nat => s.length - i) (fun i : Nat => i <= s.length /\ (s.take i).all isDig = true) (fun i => [i64 (valD (s.take i)), i64 i]) 0 rfl (by simp) (by split <;> simp)]
    ·cases hA : s.all isDig
     ·simp only [Bool.false_eq_true, if_false]
      simp (disch := first|assumption|omega) only [S0,rA,rQ,rB,rT,rE]
     ·simp only [if_true]
      simp (disch := first|assumption|omega) only [S0,rA,rQ,rB,rT,rE]
    ·rintro i ⟨hi, hd⟩
     by_cases hlt : i < s.length
     ·have d : decide ((i : Int) < (s.length : Int)) = true := by simpa using hlt
      have es := t_sidx (s := s) (k := (i : Int)) (by omega) (by omega)
      obtain ⟨v1, v2⟩ := hloop i hi hd
      cases hdig : isDig (atI s (i : Int))
      ·right
       have hb := badall i hlt hdig
       rw [hb]
       simp only [Bool.false_eq_true, if_false]
       unfold isDig at hdig
       simp only [Bool.not_eq_false', Bool.or_eq_true, decide_eq_true_eq] at hdig
       by_cases h48 : (atI s (i : Int)).toNat < 48
       ·have d1 : decide ((atI s (i : Int)).toNat < 48) = true := by simpa using h48
        simp (disch := first|assumption|omega) only [S0,rA,rQ,rB,rT,rE, t_slen, d, es, u8_lt48, d1]
       ·have d1 : decide ((atI s (i : Int)).toNat < 48) = false := by simpa using h48
        have d2 : decide (57 < (atI s (i : Int)).toNat) = true := by simp; omega
        simp (disch := first|assumption|omega) only [S0,rA,rQ,rB,rT,rE, t_slen, d, es, u8_lt48, d1, u8_gt57, d2]
      ·have hr := isDig_rng hdig
       have d1 : decide ((atI s (i : Int)).toNat < 48) = false := by simp; omega
       have d2 : decide (57 < (atI s (i : Int)).toNat) = false := by simp; omega
       have er : (Prim.bin .mul).run [i64 10, i64 (valD (s.take i))] = some [i64 (10 * valD (s.take i))] := run_mulI (by omega) (by omega)
       have ed := u8_dig hdig
       have ev := stepV i hlt
       refine .inl ⟨i + 1, ?_, ⟨by omega, by rw [stepN i hlt, hd, hdig]; rfl⟩, by omega⟩
       simp (disch := first|assumption|omega) only [S0,rA,rQ,rB,rT,rE, t_slen, d, es, u8_lt48, d1, u8_gt57, d2, er, u8_sub, ed, ev]
     ·have d : decide ((i : Int) < (s.length : Int)) = false := by simpa using hlt
      obtain rfl : i = s.length := by omega
      rw [List.take_of_length_le (Nat.le_refl _)] at hd ⊢
      right
      rw [hd]
      simp only [if_true]
      simp (disch := first|assumption|omega) only [S0,rA,rQ,rB,rT,rE, t_slen, d]
   ·simp only [Bool.and_true, Bool.not_true, Bool.and_false, Bool.false_eq_true, if_false]
    simp (disch := first|assumption|omega) only [S0,rA,rQ,rB,rT,rE, t_slen, spec_l1In, hlen, es0, u8_eq48, hc, d5]
theorem impl_numbers (ws : List (List UInt8)) (most : Int) (hm : 0 <= most) (hm2 : most <= 9) (hw : ∀ w ∈ ws, w.length <= 1000000000) (hl : ws.length <= 1000000001) : Fun T 82 [rL ws, i64 most] = some [rL (numR most ws).1, .bool (numR most ws).2] := by
 rw [Fun_k (t := tm82) rfl]; unfold tm82
 have em0 : (Prim.mk 1 0).run [] = some [rL ([] : List Int)] := rfl
 simp (disch := first|assumption|omega) only [S0,rA,rQ,rB,rT,rE, em0]
 rw [whileE (if allNum most ws then (.yield 1, [rL (numsOf most ws)]) else (.ret, [rL ([] : List Int), .bool false])) (fun i : Nat => ws.length - i) (fun i : Nat => i <= ws.length /\ allNum most (ws.take i) = true) (fun i => [rL (numsOf most (ws.take i)), i64 i]) 0 rfl (by simp [allNum]) (by split <;> simp)]
 rotate_left
 ·rintro i ⟨hi, hA⟩
  by_cases hlt : i < ws.length
  ·have d : decide ((i : Int) < (ws.length : Int)) = true := by simpa using hlt
   have hb : InB ws (i : Int) := InB_nat.2 hlt
   have e := impl_digits (atI ws (i : Int)) most hm hm2 (hw _ (at_mem hlt))
   rcases (show digM (atI ws (i : Int)) most < 0 \/ 0 <= digM (atI ws (i : Int)) most by omega) with h0 | h0
   ·right
    have d0 : decide (digM (atI ws (i : Int)) most < 0) = true := by simpa using h0
    rw [allNum_bad hlt h0]
    simp only [Bool.false_eq_true, if_false]
    simp (disch := first|assumption|omega) only [S0,rA,rQ,rB,rT,rE, d, S_row, e, d0, S_nil]
   ·have d0 : decide (digM (atI ws (i : Int)) most < 0) = false := by simp; omega
    have z : (numsOf most (ws.take i)).length + ([digM (atI ws (i : Int)) most] : List Int).length <= 100000000000 := by rw [numsOf_len, List.length_take]; simp only [List.length_cons, List.length_nil]; omega
    have e3 := (numsOf_succ (m := most) hlt).symm
    refine .inl ⟨i + 1, ?_, ⟨by omega, by rw [allNum_succ hlt, hA, decide_eq_true h0]; rfl⟩, by omega⟩
    simp (disch := first|assumption|omega) only [S0,rA,rQ,rB,rT,rE, d, S_row, e, d0, S_mk, S_app, e3]
  ·have d : decide ((i : Int) < (ws.length : Int)) = false := by simpa using hlt
   obtain rfl : i = ws.length := by omega
   rw [List.take_of_length_le (Nat.le_refl _)] at hA ⊢
   right
   rw [hA]
   simp only [if_true]
   simp (disch := first|assumption|omega) only [S0,rA,rQ,rB,rT,rE, d]
 ·cases hA : allNum most ws
  ·rw [numR_no hA]
   simp only [Bool.false_eq_true, if_false]
   simp (disch := first|assumption|omega) only [S0,rA,rQ,rB,rT,rE]
  ·rw [numR_yes hA]
   simp only [if_true]
   simp (disch := first|assumption|omega) only [S0,rA,rQ,rB,rT,rE]
theorem slices_Index_str (xs : List (List UInt8)) (w : List UInt8) (hx : xs.length <= 1000) : Fun T 81 [rL xs, .str w] = some [i64 (ixF (fun x => w == x) xs)] := by
 rw [Fun_k (t := tm81) rfl]; unfold tm81
 simp (disch := first|assumption|omega) only [S0,rA,rQ,rB,rT,rE]
 rw [findX 1 xs (fun x => w == x) (fun i => [i64 i])]
 ·cases h : xs.any (fun x => w == x)
  ·have e : ixF (fun x => w == x) xs = -1 := by
    have h2 := ixF_any (fun x => w == x) xs
    rw [h] at h2
    unfold ixF at h2 ⊢
    split at h2 <;> simp_all
   rw [e]
   simp (disch := first|assumption|omega) only [S0,rA,rQ,rB,rT,rE]
  ·simp (disch := first|assumption|omega) only [S0,rA,rQ,rB,rT,rE]
 ·intro i hi hb hl hp
  simp (disch := first|assumption|omega) only [S0,rA,rQ,rB,rT,rE, S_row, t_eq, hl, hp]
 ·intro i hi hb hl hp
  simp (disch := first|assumption|omega) only [S0,rA,rQ,rB,rT,rE, S_row, t_eq, hl, hp]
 ·intro hl
  simp (disch := first|assumption|omega) only [S0,rA,rQ,rB,rT,rE, hl]
theorem impl_ReadCmd (s : List UInt8) (hs : s.length <= 1000000000) : ∃ code : Int, Fun T 84 [.str s] = some [i64 (cmdB s).1.kind, i64 (cmdB s).1.id, i64 (cmdB s).1.src, i64 (cmdB s).1.dst, i64 (cmdB s).1.amt, i64 code, .bool (cmdB s).2] := by
 rw [Fun_k (t := tm84) rfl]; unfold tm84
 have hsm : ∀ w ∈ splitB 32 s, w.length <= 1000000000 := fun w hw => by have := (splitB_mem hw).2; omega
 have hne := splitB_ne 32 s
 have hll : (splitB 32 s).length <= 1000000001 := by
  rw [splitB_len]
  have : s.count 32 <= s.length := List.count_le_length
  omega
 have esp := strings_Split s 32 hs
 unfold cmdB
 generalize splitB 32 s = ws at *
 have hl0 : 0 < ws.length := List.length_pos_iff.2 hne
 have hb0 : InB ws 0 := by unfold InB; omega
 have ei := slices_Index_str [[45], [109, 111, 118, 101], [114, 101, 97, 100]] (atI ws 0) (by decide)
 rw [ixF_kind] at ei
 have hdr : ∀ w ∈ ws.drop 1, w.length <= 1000000000 := fun w hw => hsm w (List.mem_of_mem_drop hw)
 have hdl := drop1_len (ws := ws)
 have en := impl_numbers (ws.drop 1) 4 (by decide) (by decide) hdr (by omega)
 have esub := sub_tail (ws := ws) (by omega)
 have b0 : InB ([1, 5, 3] : List Int) 0 := by unfold InB; decide
 have b1 : InB ([1, 5, 3] : List Int) 1 := by unfold InB; decide
 have b2 : InB ([1, 5, 3] : List Int) 2 := by unfold InB; decide
 have a0 : atI ([1, 5, 3] : List Int) 0 = 1 := rfl
 have a1 : atI ([1, 5, 3] : List Int) 1 = 5 := rfl
 have a2 : atI ([1, 5, 3] : List Int) 2 = 3 := rfl
 rcases kindB_cases (atI ws 0) with k | k | k | k
 ·rw [k] at ei
  by_cases hl : (ws.length : Int) = 1
  ·have hd : ws.drop 1 = [] := List.eq_nil_of_length_eq_zero (by omega)
   have hA : allNum 4 (ws.drop 1) = true := by rw [hd]; rfl
   have hN := numR_yes hA
   have dl : ((ws.length : Int) == 1) = true := by simpa using hl
   have hc := cmdWs_yes (ws := ws) k (by decide) hl hA rfl
   rw [hc]
   refine ⟨0, ?_⟩
   have eg := impl_GoodCmd 0 0 0 0 0
   have eg2 : cmdOk ⟨0, 0, 0, 0, 0⟩ = true := rfl
   have er : inR 0 0 3 = true := rfl
   have ec : cmdN 0 (numsOf 4 (ws.drop 1)) = ⟨0, 0, 0, 0, 0⟩ := rfl
   rw [ec]
   simp (disch := first|assumption|omega) only [S0,rA,rQ,rB,rT,rE, esp, S_mk, S_row, ei, b0, a0, dl, esub, en, hN, impl_isAccount, er, eg, eg2]
  ·have dl : ((ws.length : Int) == 1) = false := by simpa using hl
   rw [cmdWs_no (.inr (.inl (by rw [k]; exact hl)))]
   refine ⟨2, ?_⟩
   simp (disch := first|assumption|omega) only [S0,rA,rQ,rB,rT,rE, esp, S_mk, S_row, ei, b0, a0, dl]
 ·rw [k] at ei
  by_cases hl : (ws.length : Int) = 5
  ·have dl : ((ws.length : Int) == 5) = true := by simpa using hl
   cases hA : allNum 4 (ws.drop 1)
   ·have hN := numR_no hA
    rw [cmdWs_no (.inr (.inr (.inl hA)))]
    refine ⟨3, ?_⟩
    simp (disch := first|assumption|omega) only [S0,rA,rQ,rB,rT,rE, esp, S_mk, S_row, ei, b1, a1, dl, esub, en, hN]
   ·have hN := numR_yes hA
    have hnl : (numsOf 4 (ws.drop 1)).length = 4 := by rw [numsOf_len]; omega
    have hno := cmdWs_no (ws := ws)
    have hyes := cmdWs_yes (ws := ws) k (by decide) hl hA
    rw [k] at hno
    generalize numsOf 4 (ws.drop 1) = ns at *
    have c0 : InB ns 0 := by unfold InB; omega
    have c1 : InB ns 1 := by unfold InB; omega
    have c2 : InB ns 2 := by unfold InB; omega
    have c3 : InB ns 3 := by unfold InB; omega
    have ecn : cmdN 1 ns = ⟨1, atI ns 0, atI ns 1, atI ns 2, atI ns 3⟩ := rfl
    have eg := impl_GoodCmd 1 (atI ns 0) (atI ns 1) (atI ns 2) (atI ns 3)
    rw [ecn] at hno hyes
    cases q1 : inR (atI ns 1) 0 3
    ·rw [hno (.inr (.inr (.inr (by simp [cmdOk, q1]))))]
     refine ⟨4, ?_⟩
     simp (disch := first|assumption|omega) only [S0,rA,rQ,rB,rT,rE, esp, S_mk, S_row, ei, b1, a1, dl, esub, en, hN, impl_isAccount, q1]
    cases q2 : inR (atI ns 2) 0 3
    ·rw [hno (.inr (.inr (.inr (by simp [cmdOk, q2]))))]
     refine ⟨4, ?_⟩
     simp (disch := first|assumption|omega) only [S0,rA,rQ,rB,rT,rE, esp, S_mk, S_row, ei, b1, a1, dl, esub, en, hN, impl_isAccount, q1, q2]
    cases q3 : atI ns 1 == atI ns 2
    rotate_left
    ·rw [hno (.inr (.inr (.inr (by simp [cmdOk, q3]))))]
     refine ⟨5, ?_⟩
     simp (disch := first|assumption|omega) only [S0,rA,rQ,rB,rT,rE, esp, S_mk, S_row, ei, b1, a1, dl, esub, en, hN, impl_isAccount, q1, q2, q3]
    cases q4 : cmdOk ⟨1, atI ns 0, atI ns 1, atI ns 2, atI ns 3⟩
    ·rw [hno (.inr (.inr (.inr q4)))]
     refine ⟨6, ?_⟩
     simp (disch := first|assumption|omega) only [S0,rA,rQ,rB,rT,rE, esp, S_mk, S_row, ei, b1, a1, dl, esub, en, hN, impl_isAccount, q1, q2, q3, eg, q4]
    ·rw [hyes q4]
     refine ⟨0, ?_⟩
     simp (disch := first|assumption|omega) only [S0,rA,rQ,rB,rT,rE, esp, S_mk, S_row, ei, b1, a1, dl, esub, en, hN, impl_isAccount, q1, q2, q3, eg, q4]
  ·have dl : ((ws.length : Int) == 5) = false := by simpa using hl
   rw [cmdWs_no (.inr (.inl (by rw [k]; exact hl)))]
   refine ⟨2, ?_⟩
   simp (disch := first|assumption|omega) only [S0,rA,rQ,rB,rT,rE, esp, S_mk, S_row, ei, b1, a1, dl]
 ·rw [k] at ei
  by_cases hl : (ws.length : Int) = 3
  ·have dl : ((ws.length : Int) == 3) = true := by simpa using hl
   cases hA : allNum 4 (ws.drop 1)
   ·have hN := numR_no hA
    rw [cmdWs_no (.inr (.inr (.inl hA)))]
    refine ⟨3, ?_⟩
    simp (disch := first|assumption|omega) only [S0,rA,rQ,rB,rT,rE, esp, S_mk, S_row, ei, b2, a2, dl, esub, en, hN]
   ·have hN := numR_yes hA
    have hnl : (numsOf 4 (ws.drop 1)).length = 2 := by rw [numsOf_len]; omega
    have hno := cmdWs_no (ws := ws)
    have hyes := cmdWs_yes (ws := ws) k (by decide) hl hA
    rw [k] at hno
    generalize numsOf 4 (ws.drop 1) = ns at *
    have c0 : InB ns 0 := by unfold InB; omega
    have c1 : InB ns 1 := by unfold InB; omega
    have ecn : cmdN 2 ns = ⟨2, atI ns 0, atI ns 1, 0, 0⟩ := rfl
    have eg := impl_GoodCmd 2 (atI ns 0) (atI ns 1) 0 0
    have q2 : inR 0 0 3 = true := rfl
    rw [ecn] at hno hyes
    cases q1 : inR (atI ns 1) 0 3
    ·rw [hno (.inr (.inr (.inr (by simp [cmdOk, q1]))))]
     refine ⟨4, ?_⟩
     simp (disch := first|assumption|omega) only [S0,rA,rQ,rB,rT,rE, esp, S_mk, S_row, ei, b2, a2, dl, esub, en, hN, impl_isAccount, q1]
    cases q4 : cmdOk ⟨2, atI ns 0, atI ns 1, 0, 0⟩
    ·rw [hno (.inr (.inr (.inr q4)))]
     refine ⟨6, ?_⟩
     simp (disch := first|assumption|omega) only [S0,rA,rQ,rB,rT,rE, esp, S_mk, S_row, ei, b2, a2, dl, esub, en, hN, impl_isAccount, q1, q2, eg, q4]
    ·rw [hyes q4]
     refine ⟨0, ?_⟩
     simp (disch := first|assumption|omega) only [S0,rA,rQ,rB,rT,rE, esp, S_mk, S_row, ei, b2, a2, dl, esub, en, hN, impl_isAccount, q1, q2, eg, q4]
  ·have dl : ((ws.length : Int) == 3) = false := by simpa using hl
   rw [cmdWs_no (.inr (.inl (by rw [k]; exact hl)))]
   refine ⟨2, ?_⟩
   simp (disch := first|assumption|omega) only [S0,rA,rQ,rB,rT,rE, esp, S_mk, S_row, ei, b2, a2, dl]
 ·rw [k] at ei
  rw [cmdWs_no (.inl (by rw [k]; decide))]
  refine ⟨1, ?_⟩
  have d1 : decide ((-1 : Int) < 0) = true := rfl
  simp (disch := first|assumption|omega) only [S0,rA,rQ,rB,rT,rE, esp, S_mk, S_row, ei, d1]
theorem spec_ReadCmd (s : List UInt8) (hs : s.length <= 1000000000) : ∃ code : Int, Fun T 97 [.str s] = some [i64 (cmdB s).1.kind, i64 (cmdB s).1.id, i64 (cmdB s).1.src, i64 (cmdB s).1.dst, i64 (cmdB s).1.amt, i64 code, .bool (cmdB s).2] := by
 rw [Fun_k (t := tm97) rfl]; unfold tm97
 have hsm : ∀ w ∈ splitB 32 s, w.length <= 1000000000 := fun w hw => by have := (splitB_mem hw).2; omega
 have hne := splitB_ne 32 s
 have esp : Fun T 95 [.str s, .int .u8 32] = some [rL (splitB 32 s)] := spec_l1Split s 32 hs
 unfold cmdB
 generalize splitB 32 s = ws at *
 have hl0 : 0 < ws.length := List.length_pos_iff.2 hne
 have hb0 : InB ws 0 := by unfold InB; omega
 have hdr : ∀ w ∈ ws.drop 1, w.length <= 1000000000 := fun w hw => hsm w (List.mem_of_mem_drop hw)
 have hdl := drop1_len (ws := ws)
 have esub := sub_tail (ws := ws) (by omega)
 rcases kindB_cases (atI ws 0) with k | k | k | k
 ·have q1 : (atI ws 0 == [109, 111, 118, 101]) = false := by rw [kindB_nil k]; rfl
  have q2 : (atI ws 0 == [114, 101, 97, 100]) = false := by rw [kindB_nil k]; rfl
  have q3 : (atI ws 0 == [45]) = true := by rw [kindB_nil k]; rfl
  by_cases hl : (ws.length : Int) = 1
  ·have dl : ((ws.length : Int) == 1) = true := by simpa using hl
   have emk : (Prim.make 8 [(.int .i64 0)]).run [i64 4] = some [rL (fillN (ws.drop 1) 0)] := by
    have := S_make.1 (n := 4) (by omega) (by omega)
    rw [this]
    rfl
   have hno := cmdWs_no (ws := ws)
   have hyes := cmdWs_yes (ws := ws) k (by decide) hl
   rw [k] at hno
   generalize hxs : ws.drop 1 = xs at *
   have hx4 : xs.length = 0 := by omega
   cases hA0 : allNum 4 xs
   ·rw [hno (.inr (.inr (.inl hA0)))]
    refine ⟨3, ?_⟩
    simp (disch := first|assumption|omega) only [S0,rA,rQ,rB,rT,rE, esp, S_row, t_eq, q1, q2, q3, dl, emk, esub]
    rw [whileE (if allNum 4 xs then (.yield 2, [rL (fillN xs xs.length)]) else (.ret, [i64 0, i64 0, i64 0, i64 0, i64 0, i64 3, .bool false])) (fun i : Nat => xs.length - i) (fun i : Nat => i <= xs.length /\ allNum 4 (xs.take i) = true) (fun i => [rL (fillN xs i), i64 i]) 0 rfl (by simp [allNum]) (by split <;> simp)]
    rotate_left
    ·rintro i ⟨hi, hA⟩
     by_cases hlt : i < xs.length
     ·have d : decide ((i : Int) < (xs.length : Int)) = true := by simpa using hlt
      have hb : InB xs (i : Int) := InB_nat.2 hlt
      have e := spec_l1Read (atI xs (i : Int)) (hdr _ (at_mem hlt))
      have l1 := fillN_len (ws := xs) (i := i) (by omega) (by omega)
      have l2 := fillN_len (ws := xs) (i := i + 1) (by omega) (by omega)
      have hb1 : InB (fillN xs i) (i : Int) := by unfold InB; omega
      have hb2 : InB (fillN xs (i + 1)) (i : Int) := by unfold InB; omega
      have ef := fillN_set hlt (by omega)
      have ea : atI (fillN xs (i + 1)) (i : Int) = digM (atI xs (i : Int)) 6 := by rw [<- ef]; exact S_upd.1 hb1
      by_cases h4 : 4 < ((atI xs (i : Int)).length : Int)
      ·have d4 : decide (4 < ((atI xs (i : Int)).length : Int)) = true := by simpa using h4
       right
       rw [allNum_bad hlt (digM_long h4)]
       simp only [Bool.false_eq_true, if_false]
       simp (disch := first|assumption|omega) only [S0,rA,rQ,rB,rT,rE, d, S_row, e, S_set, ef, ea, t_slen, d4]
      ·have d4 : decide (4 < ((atI xs (i : Int)).length : Int)) = false := by simpa using h4
       have e4 := digM_short (s := atI xs (i : Int)) (by omega)
       rcases (show digM (atI xs (i : Int)) 6 < 0 \/ 0 <= digM (atI xs (i : Int)) 6 by omega) with h0 | h0
       ·have d0 : decide (digM (atI xs (i : Int)) 6 < 0) = true := by simpa using h0
        right
        rw [allNum_bad hlt (by rw [e4]; exact h0)]
        simp only [Bool.false_eq_true, if_false]
        simp (disch := first|assumption|omega) only [S0,rA,rQ,rB,rT,rE, d, S_row, e, S_set, ef, ea, t_slen, d4, d0]
       ·have d0 : decide (digM (atI xs (i : Int)) 6 < 0) = false := by simp; omega
        refine .inl ⟨i + 1, ?_, ⟨by omega, by rw [allNum_succ hlt, hA, e4, decide_eq_true h0]; rfl⟩, by omega⟩
        simp (disch := first|assumption|omega) only [S0,rA,rQ,rB,rT,rE, d, S_row, e, S_set, ef, ea, t_slen, d4, d0]
     ·have d : decide ((i : Int) < (xs.length : Int)) = false := by simpa using hlt
      obtain rfl : i = xs.length := by omega
      rw [List.take_of_length_le (Nat.le_refl _)] at hA
      right
      rw [hA]
      simp only [if_true]
      simp (disch := first|assumption|omega) only [S0,rA,rQ,rB,rT,rE, d]
    ·rw [hA0]
     simp only [Bool.false_eq_true, if_false]
     simp (disch := first|assumption|omega) only [S0,rA,rQ,rB,rT,rE]
   ·have hd : xs = [] := List.eq_nil_of_length_eq_zero hx4
    have ec : cmdN 0 (numsOf 4 xs) = ⟨0, 0, 0, 0, 0⟩ := rfl
    rw [ec] at hyes
    rw [hyes hA0 rfl]
    refine ⟨0, ?_⟩
    simp (disch := first|assumption|omega) only [S0,rA,rQ,rB,rT,rE, esp, S_row, t_eq, q1, q2, q3, dl, emk, esub]
    rw [whileE (if allNum 4 xs then (.yield 2, [rL (fillN xs xs.length)]) else (.ret, [i64 0, i64 0, i64 0, i64 0, i64 0, i64 3, .bool false])) (fun i : Nat => xs.length - i) (fun i : Nat => i <= xs.length /\ allNum 4 (xs.take i) = true) (fun i => [rL (fillN xs i), i64 i]) 0 rfl (by simp [allNum]) (by split <;> simp)]
    rotate_left
    ·rintro i ⟨hi, hA⟩
     by_cases hlt : i < xs.length
     ·have d : decide ((i : Int) < (xs.length : Int)) = true := by simpa using hlt
      have hb : InB xs (i : Int) := InB_nat.2 hlt
      have e := spec_l1Read (atI xs (i : Int)) (hdr _ (at_mem hlt))
      have l1 := fillN_len (ws := xs) (i := i) (by omega) (by omega)
      have l2 := fillN_len (ws := xs) (i := i + 1) (by omega) (by omega)
      have hb1 : InB (fillN xs i) (i : Int) := by unfold InB; omega
      have hb2 : InB (fillN xs (i + 1)) (i : Int) := by unfold InB; omega
      have ef := fillN_set hlt (by omega)
      have ea : atI (fillN xs (i + 1)) (i : Int) = digM (atI xs (i : Int)) 6 := by rw [<- ef]; exact S_upd.1 hb1
      by_cases h4 : 4 < ((atI xs (i : Int)).length : Int)
      ·have d4 : decide (4 < ((atI xs (i : Int)).length : Int)) = true := by simpa using h4
       right
       rw [allNum_bad hlt (digM_long h4)]
       simp only [Bool.false_eq_true, if_false]
       simp (disch := first|assumption|omega) only [S0,rA,rQ,rB,rT,rE, d, S_row, e, S_set, ef, ea, t_slen, d4]
      ·have d4 : decide (4 < ((atI xs (i : Int)).length : Int)) = false := by simpa using h4
       have e4 := digM_short (s := atI xs (i : Int)) (by omega)
       rcases (show digM (atI xs (i : Int)) 6 < 0 \/ 0 <= digM (atI xs (i : Int)) 6 by omega) with h0 | h0
       ·have d0 : decide (digM (atI xs (i : Int)) 6 < 0) = true := by simpa using h0
        right
        rw [allNum_bad hlt (by rw [e4]; exact h0)]
        simp only [Bool.false_eq_true, if_false]
        simp (disch := first|assumption|omega) only [S0,rA,rQ,rB,rT,rE, d, S_row, e, S_set, ef, ea, t_slen, d4, d0]
       ·have d0 : decide (digM (atI xs (i : Int)) 6 < 0) = false := by simp; omega
        refine .inl ⟨i + 1, ?_, ⟨by omega, by rw [allNum_succ hlt, hA, e4, decide_eq_true h0]; rfl⟩, by omega⟩
        simp (disch := first|assumption|omega) only [S0,rA,rQ,rB,rT,rE, d, S_row, e, S_set, ef, ea, t_slen, d4, d0]
     ·have d : decide ((i : Int) < (xs.length : Int)) = false := by simpa using hlt
      obtain rfl : i = xs.length := by omega
      rw [List.take_of_length_le (Nat.le_refl _)] at hA
      right
      rw [hA]
      simp only [if_true]
      simp (disch := first|assumption|omega) only [S0,rA,rQ,rB,rT,rE, d]
    ·rw [hA0]
     simp only [if_true]
     have ez : fillN xs xs.length = [0, 0, 0, 0] := by rw [hd]; rfl
     have z0 : InB ([0, 0, 0, 0] : List Int) 0 := by unfold InB; decide
     have z1 : InB ([0, 0, 0, 0] : List Int) 1 := by unfold InB; decide
     have z2 : InB ([0, 0, 0, 0] : List Int) 2 := by unfold InB; decide
     have z3 : InB ([0, 0, 0, 0] : List Int) 3 := by unfold InB; decide
     have y0 : atI ([0, 0, 0, 0] : List Int) 0 = 0 := rfl
     have y1 : atI ([0, 0, 0, 0] : List Int) 1 = 0 := rfl
     have y2 : atI ([0, 0, 0, 0] : List Int) 2 = 0 := rfl
     have y3 : atI ([0, 0, 0, 0] : List Int) 3 = 0 := rfl
     rw [ez]
     simp (disch := first|assumption|omega) only [S0,rA,rQ,rB,rT,rE, S_row, y0, y1, y2, y3]
  ·have dl : ((ws.length : Int) == 1) = false := by simpa using hl
   rw [cmdWs_no (.inr (.inl (by rw [k]; exact hl)))]
   refine ⟨2, ?_⟩
   simp (disch := first|assumption|omega) only [S0,rA,rQ,rB,rT,rE, esp, S_row, t_eq, q1, q2, q3, dl]
 ·have q1 : (atI ws 0 == [109, 111, 118, 101]) = true := by rw [kindB_one k]; rfl
  by_cases hl : (ws.length : Int) = 5
  ·have dl : ((ws.length : Int) == 5) = true := by simpa using hl
   have emk : (Prim.make 8 [(.int .i64 0)]).run [i64 4] = some [rL (fillN (ws.drop 1) 0)] := by
    have := S_make.1 (n := 4) (by omega) (by omega)
    rw [this]
    rfl
   have hno := cmdWs_no (ws := ws)
   have hyes := cmdWs_yes (ws := ws) k (by decide) hl
   rw [k] at hno
   generalize hxs : ws.drop 1 = xs at *
   have hx4 : xs.length = 4 := by omega
   cases hA0 : allNum 4 xs
   ·rw [hno (.inr (.inr (.inl hA0)))]
    refine ⟨3, ?_⟩
    simp (disch := first|assumption|omega) only [S0,rA,rQ,rB,rT,rE, esp, S_row, t_eq, q1, dl, emk, esub]
    rw [whileE (if allNum 4 xs then (.yield 2, [rL (fillN xs xs.length)]) else (.ret, [i64 0, i64 0, i64 0, i64 0, i64 0, i64 3, .bool false])) (fun i : Nat => xs.length - i) (fun i : Nat => i <= xs.length /\ allNum 4 (xs.take i) = true) (fun i => [rL (fillN xs i), i64 i]) 0 rfl (by simp [allNum]) (by split <;> simp)]
    rotate_left
    ·rintro i ⟨hi, hA⟩
     by_cases hlt : i < xs.length
     ·have d : decide ((i : Int) < (xs.length : Int)) = true := by simpa using hlt
      have hb : InB xs (i : Int) := InB_nat.2 hlt
      have e := spec_l1Read (atI xs (i : Int)) (hdr _ (at_mem hlt))
      have l1 := fillN_len (ws := xs) (i := i) (by omega) (by omega)
      have l2 := fillN_len (ws := xs) (i := i + 1) (by omega) (by omega)
      have hb1 : InB (fillN xs i) (i : Int) := by unfold InB; omega
      have hb2 : InB (fillN xs (i + 1)) (i : Int) := by unfold InB; omega
      have ef := fillN_set hlt (by omega)
      have ea : atI (fillN xs (i + 1)) (i : Int) = digM (atI xs (i : Int)) 6 := by rw [<- ef]; exact S_upd.1 hb1
      by_cases h4 : 4 < ((atI xs (i : Int)).length : Int)
      ·have d4 : decide (4 < ((atI xs (i : Int)).length : Int)) = true := by simpa using h4
       right
       rw [allNum_bad hlt (digM_long h4)]
       simp only [Bool.false_eq_true, if_false]
       simp (disch := first|assumption|omega) only [S0,rA,rQ,rB,rT,rE, d, S_row, e, S_set, ef, ea, t_slen, d4]
      ·have d4 : decide (4 < ((atI xs (i : Int)).length : Int)) = false := by simpa using h4
       have e4 := digM_short (s := atI xs (i : Int)) (by omega)
       rcases (show digM (atI xs (i : Int)) 6 < 0 \/ 0 <= digM (atI xs (i : Int)) 6 by omega) with h0 | h0
       ·have d0 : decide (digM (atI xs (i : Int)) 6 < 0) = true := by simpa using h0
        right
        rw [allNum_bad hlt (by rw [e4]; exact h0)]
        simp only [Bool.false_eq_true, if_false]
        simp (disch := first|assumption|omega) only [S0,rA,rQ,rB,rT,rE, d, S_row, e, S_set, ef, ea, t_slen, d4, d0]
       ·have d0 : decide (digM (atI xs (i : Int)) 6 < 0) = false := by simp; omega
        refine .inl ⟨i + 1, ?_, ⟨by omega, by rw [allNum_succ hlt, hA, e4, decide_eq_true h0]; rfl⟩, by omega⟩
        simp (disch := first|assumption|omega) only [S0,rA,rQ,rB,rT,rE, d, S_row, e, S_set, ef, ea, t_slen, d4, d0]
     ·have d : decide ((i : Int) < (xs.length : Int)) = false := by simpa using hlt
      obtain rfl : i = xs.length := by omega
      rw [List.take_of_length_le (Nat.le_refl _)] at hA
      right
      rw [hA]
      simp only [if_true]
      simp (disch := first|assumption|omega) only [S0,rA,rQ,rB,rT,rE, d]
    ·rw [hA0]
     simp only [Bool.false_eq_true, if_false]
     simp (disch := first|assumption|omega) only [S0,rA,rQ,rB,rT,rE]
   ·have hnl : (numsOf 4 xs).length = 4 := by rw [numsOf_len]; omega
    have hyes := hyes hA0
    have ecn : cmdN 1 (numsOf 4 xs) = ⟨1, atI (numsOf 4 xs) 0, atI (numsOf 4 xs) 1, atI (numsOf 4 xs) 2, atI (numsOf 4 xs) 3⟩ := rfl
    rw [ecn] at hno hyes
    have eg := spec_l2Code 1 (atI (numsOf 4 xs) 0) (atI (numsOf 4 xs) 1) (atI (numsOf 4 xs) 2) (atI (numsOf 4 xs) 3)
    have ek := @cmdCode_one (atI (numsOf 4 xs) 0) (atI (numsOf 4 xs) 1) (atI (numsOf 4 xs) 2) (atI (numsOf 4 xs) 3)
    cases q4 : cmdOk ⟨1, atI (numsOf 4 xs) 0, atI (numsOf 4 xs) 1, atI (numsOf 4 xs) 2, atI (numsOf 4 xs) 3⟩
    ·rw [hno (.inr (.inr (.inr q4)))]
     rw [q4] at ek
     refine ⟨cmdCode ⟨1, atI (numsOf 4 xs) 0, atI (numsOf 4 xs) 1, atI (numsOf 4 xs) 2, atI (numsOf 4 xs) 3⟩, ?_⟩
     simp (disch := first|assumption|omega) only [S0,rA,rQ,rB,rT,rE, esp, S_row, t_eq, q1, dl, emk, esub]
     rw [whileE (if allNum 4 xs then (.yield 2, [rL (fillN xs xs.length)]) else (.ret, [i64 0, i64 0, i64 0, i64 0, i64 0, i64 3, .bool false])) (fun i : Nat => xs.length - i) (fun i : Nat => i <= xs.length /\ allNum 4 (xs.take i) = true) (fun i => [rL (fillN xs i), i64 i]) 0 rfl (by simp [allNum]) (by split <;> simp)]
     rotate_left
     ·rintro i ⟨hi, hA⟩
      by_cases hlt : i < xs.length
      ·have d : decide ((i : Int) < (xs.length : Int)) = true := by simpa using hlt
       have hb : InB xs (i : Int) := InB_nat.2 hlt
       have e := spec_l1Read (atI xs (i : Int)) (hdr _ (at_mem hlt))
       have l1 := fillN_len (ws := xs) (i := i) (by omega) (by omega)
       have l2 := fillN_len (ws := xs) (i := i + 1) (by omega) (by omega)
       have hb1 : InB (fillN xs i) (i : Int) := by unfold InB; omega
       have hb2 : InB (fillN xs (i + 1)) (i : Int) := by unfold InB; omega
       have ef := fillN_set hlt (by omega)
       have ea : atI (fillN xs (i + 1)) (i : Int) = digM (atI xs (i : Int)) 6 := by rw [<- ef]; exact S_upd.1 hb1
       by_cases h4 : 4 < ((atI xs (i : Int)).length : Int)
       ·have d4 : decide (4 < ((atI xs (i : Int)).length : Int)) = true := by simpa using h4
        right
        rw [allNum_bad hlt (digM_long h4)]
        simp only [Bool.false_eq_true, if_false]
        simp (disch := first|assumption|omega) only [S0,rA,rQ,rB,rT,rE, d, S_row, e, S_set, ef, ea, t_slen, d4]
       ·have d4 : decide (4 < ((atI xs (i : Int)).length : Int)) = false := by simpa using h4
        have e4 := digM_short (s := atI xs (i : Int)) (by omega)
        rcases (show digM (atI xs (i : Int)) 6 < 0 \/ 0 <= digM (atI xs (i : Int)) 6 by omega) with h0 | h0
        ·have d0 : decide (digM (atI xs (i : Int)) 6 < 0) = true := by simpa using h0
         right
         rw [allNum_bad hlt (by rw [e4]; exact h0)]
         simp only [Bool.false_eq_true, if_false]
         simp (disch := first|assumption|omega) only [S0,rA,rQ,rB,rT,rE, d, S_row, e, S_set, ef, ea, t_slen, d4, d0]
        ·have d0 : decide (digM (atI xs (i : Int)) 6 < 0) = false := by simp; omega
         refine .inl ⟨i + 1, ?_, ⟨by omega, by rw [allNum_succ hlt, hA, e4, decide_eq_true h0]; rfl⟩, by omega⟩
         simp (disch := first|assumption|omega) only [S0,rA,rQ,rB,rT,rE, d, S_row, e, S_set, ef, ea, t_slen, d4, d0]
      ·have d : decide ((i : Int) < (xs.length : Int)) = false := by simpa using hlt
       obtain rfl : i = xs.length := by omega
       rw [List.take_of_length_le (Nat.le_refl _)] at hA
       right
       rw [hA]
       simp only [if_true]
       simp (disch := first|assumption|omega) only [S0,rA,rQ,rB,rT,rE, d]
     rw [hA0]
     simp only [if_true]
     have efl : fillN xs xs.length = numsOf 4 xs := by
      unfold fillN
      rw [List.take_of_length_le (Nat.le_refl _), numsOf_up hA0 (by decide), hx4]
      exact List.append_nil _
     rw [efl]
     generalize numsOf 4 xs = ns at *
     have c0 : InB ns 0 := by unfold InB; omega
     have c1 : InB ns 1 := by unfold InB; omega
     have c2 : InB ns 2 := by unfold InB; omega
     have c3 : InB ns 3 := by unfold InB; omega
     simp (disch := first|assumption|omega) only [S0,rA,rQ,rB,rT,rE, S_row, eg, ek]
    ·rw [hyes q4]
     rw [q4] at ek
     refine ⟨0, ?_⟩
     simp (disch := first|assumption|omega) only [S0,rA,rQ,rB,rT,rE, esp, S_row, t_eq, q1, dl, emk, esub]
     rw [whileE (if allNum 4 xs then (.yield 2, [rL (fillN xs xs.length)]) else (.ret, [i64 0, i64 0, i64 0, i64 0, i64 0, i64 3, .bool false])) (fun i : Nat => xs.length - i) (fun i : Nat => i <= xs.length /\ allNum 4 (xs.take i) = true) (fun i => [rL (fillN xs i), i64 i]) 0 rfl (by simp [allNum]) (by split <;> simp)]
     rotate_left
     ·rintro i ⟨hi, hA⟩
      by_cases hlt : i < xs.length
      ·have d : decide ((i : Int) < (xs.length : Int)) = true := by simpa using hlt
       have hb : InB xs (i : Int) := InB_nat.2 hlt
       have e := spec_l1Read (atI xs (i : Int)) (hdr _ (at_mem hlt))
       have l1 := fillN_len (ws := xs) (i := i) (by omega) (by omega)
       have l2 := fillN_len (ws := xs) (i := i + 1) (by omega) (by omega)
       have hb1 : InB (fillN xs i) (i : Int) := by unfold InB; omega
       have hb2 : InB (fillN xs (i + 1)) (i : Int) := by unfold InB; omega
       have ef := fillN_set hlt (by omega)
       have ea : atI (fillN xs (i + 1)) (i : Int) = digM (atI xs (i : Int)) 6 := by rw [<- ef]; exact S_upd.1 hb1
       by_cases h4 : 4 < ((atI xs (i : Int)).length : Int)
       ·have d4 : decide (4 < ((atI xs (i : Int)).length : Int)) = true := by simpa using h4
        right
        rw [allNum_bad hlt (digM_long h4)]
        simp only [Bool.false_eq_true, if_false]
        simp (disch := first|assumption|omega) only [S0,rA,rQ,rB,rT,rE, d, S_row, e, S_set, ef, ea, t_slen, d4]
       ·have d4 : decide (4 < ((atI xs (i : Int)).length : Int)) = false := by simpa using h4
        have e4 := digM_short (s := atI xs (i : Int)) (by omega)
        rcases (show digM (atI xs (i : Int)) 6 < 0 \/ 0 <= digM (atI xs (i : Int)) 6 by omega) with h0 | h0
        ·have d0 : decide (digM (atI xs (i : Int)) 6 < 0) = true := by simpa using h0
         right
         rw [allNum_bad hlt (by rw [e4]; exact h0)]
         simp only [Bool.false_eq_true, if_false]
         simp (disch := first|assumption|omega) only [S0,rA,rQ,rB,rT,rE, d, S_row, e, S_set, ef, ea, t_slen, d4, d0]
        ·have d0 : decide (digM (atI xs (i : Int)) 6 < 0) = false := by simp; omega
         refine .inl ⟨i + 1, ?_, ⟨by omega, by rw [allNum_succ hlt, hA, e4, decide_eq_true h0]; rfl⟩, by omega⟩
         simp (disch := first|assumption|omega) only [S0,rA,rQ,rB,rT,rE, d, S_row, e, S_set, ef, ea, t_slen, d4, d0]
      ·have d : decide ((i : Int) < (xs.length : Int)) = false := by simpa using hlt
       obtain rfl : i = xs.length := by omega
       rw [List.take_of_length_le (Nat.le_refl _)] at hA
       right
       rw [hA]
       simp only [if_true]
       simp (disch := first|assumption|omega) only [S0,rA,rQ,rB,rT,rE, d]
     rw [hA0]
     simp only [if_true]
     have efl : fillN xs xs.length = numsOf 4 xs := by
      unfold fillN
      rw [List.take_of_length_le (Nat.le_refl _), numsOf_up hA0 (by decide), hx4]
      exact List.append_nil _
     rw [efl]
     generalize numsOf 4 xs = ns at *
     have c0 : InB ns 0 := by unfold InB; omega
     have c1 : InB ns 1 := by unfold InB; omega
     have c2 : InB ns 2 := by unfold InB; omega
     have c3 : InB ns 3 := by unfold InB; omega
     simp (disch := first|assumption|omega) only [S0,rA,rQ,rB,rT,rE, S_row, eg, ek]
  ·have dl : ((ws.length : Int) == 5) = false := by simpa using hl
   rw [cmdWs_no (.inr (.inl (by rw [k]; exact hl)))]
   refine ⟨2, ?_⟩
   simp (disch := first|assumption|omega) only [S0,rA,rQ,rB,rT,rE, esp, S_row, t_eq, q1, dl]
 ·have q1 : (atI ws 0 == [109, 111, 118, 101]) = false := by rw [kindB_two k]; rfl
  have q2 : (atI ws 0 == [114, 101, 97, 100]) = true := by rw [kindB_two k]; rfl
  by_cases hl : (ws.length : Int) = 3
  ·have dl : ((ws.length : Int) == 3) = true := by simpa using hl
   have emk : (Prim.make 8 [(.int .i64 0)]).run [i64 4] = some [rL (fillN (ws.drop 1) 0)] := by
    have := S_make.1 (n := 4) (by omega) (by omega)
    rw [this]
    rfl
   have hno := cmdWs_no (ws := ws)
   have hyes := cmdWs_yes (ws := ws) k (by decide) hl
   rw [k] at hno
   generalize hxs : ws.drop 1 = xs at *
   have hx4 : xs.length = 2 := by omega
   cases hA0 : allNum 4 xs
   ·rw [hno (.inr (.inr (.inl hA0)))]
    refine ⟨3, ?_⟩
    simp (disch := first|assumption|omega) only [S0,rA,rQ,rB,rT,rE, esp, S_row, t_eq, q1, q2, dl, emk, esub]
    rw [whileE (if allNum 4 xs then (.yield 2, [rL (fillN xs xs.length)]) else (.ret, [i64 0, i64 0, i64 0, i64 0, i64 0, i64 3, .bool false])) (fun i : Nat => xs.length - i) (fun i : Nat => i <= xs.length /\ allNum 4 (xs.take i) = true) (fun i => [rL (fillN xs i), i64 i]) 0 rfl (by simp [allNum]) (by split <;> simp)]
    rotate_left
    ·rintro i ⟨hi, hA⟩
     by_cases hlt : i < xs.length
     ·have d : decide ((i : Int) < (xs.length : Int)) = true := by simpa using hlt
      have hb : InB xs (i : Int) := InB_nat.2 hlt
      have e := spec_l1Read (atI xs (i : Int)) (hdr _ (at_mem hlt))
      have l1 := fillN_len (ws := xs) (i := i) (by omega) (by omega)
      have l2 := fillN_len (ws := xs) (i := i + 1) (by omega) (by omega)
      have hb1 : InB (fillN xs i) (i : Int) := by unfold InB; omega
      have hb2 : InB (fillN xs (i + 1)) (i : Int) := by unfold InB; omega
      have ef := fillN_set hlt (by omega)
      have ea : atI (fillN xs (i + 1)) (i : Int) = digM (atI xs (i : Int)) 6 := by rw [<- ef]; exact S_upd.1 hb1
      by_cases h4 : 4 < ((atI xs (i : Int)).length : Int)
      ·have d4 : decide (4 < ((atI xs (i : Int)).length : Int)) = true := by simpa using h4
       right
       rw [allNum_bad hlt (digM_long h4)]
       simp only [Bool.false_eq_true, if_false]
       simp (disch := first|assumption|omega) only [S0,rA,rQ,rB,rT,rE, d, S_row, e, S_set, ef, ea, t_slen, d4]
      ·have d4 : decide (4 < ((atI xs (i : Int)).length : Int)) = false := by simpa using h4
       have e4 := digM_short (s := atI xs (i : Int)) (by omega)
       rcases (show digM (atI xs (i : Int)) 6 < 0 \/ 0 <= digM (atI xs (i : Int)) 6 by omega) with h0 | h0
       ·have d0 : decide (digM (atI xs (i : Int)) 6 < 0) = true := by simpa using h0
        right
        rw [allNum_bad hlt (by rw [e4]; exact h0)]
        simp only [Bool.false_eq_true, if_false]
        simp (disch := first|assumption|omega) only [S0,rA,rQ,rB,rT,rE, d, S_row, e, S_set, ef, ea, t_slen, d4, d0]
       ·have d0 : decide (digM (atI xs (i : Int)) 6 < 0) = false := by simp; omega
        refine .inl ⟨i + 1, ?_, ⟨by omega, by rw [allNum_succ hlt, hA, e4, decide_eq_true h0]; rfl⟩, by omega⟩
        simp (disch := first|assumption|omega) only [S0,rA,rQ,rB,rT,rE, d, S_row, e, S_set, ef, ea, t_slen, d4, d0]
     ·have d : decide ((i : Int) < (xs.length : Int)) = false := by simpa using hlt
      obtain rfl : i = xs.length := by omega
      rw [List.take_of_length_le (Nat.le_refl _)] at hA
      right
      rw [hA]
      simp only [if_true]
      simp (disch := first|assumption|omega) only [S0,rA,rQ,rB,rT,rE, d]
    ·rw [hA0]
     simp only [Bool.false_eq_true, if_false]
     simp (disch := first|assumption|omega) only [S0,rA,rQ,rB,rT,rE]
   ·have hnl : (numsOf 4 xs).length = 2 := by rw [numsOf_len]; omega
    have hyes := hyes hA0
    have ecn : cmdN 2 (numsOf 4 xs) = ⟨2, atI (numsOf 4 xs) 0, atI (numsOf 4 xs) 1, 0, 0⟩ := rfl
    rw [ecn] at hno hyes
    have eg := spec_l2Code 2 (atI (numsOf 4 xs) 0) (atI (numsOf 4 xs) 1) (0) (0)
    have ek := @cmdCode_two (atI (numsOf 4 xs) 0) (atI (numsOf 4 xs) 1)
    cases q4 : cmdOk ⟨2, atI (numsOf 4 xs) 0, atI (numsOf 4 xs) 1, 0, 0⟩
    ·rw [hno (.inr (.inr (.inr q4)))]
     rw [q4] at ek
     refine ⟨cmdCode ⟨2, atI (numsOf 4 xs) 0, atI (numsOf 4 xs) 1, 0, 0⟩, ?_⟩
     simp (disch := first|assumption|omega) only [S0,rA,rQ,rB,rT,rE, esp, S_row, t_eq, q1, q2, dl, emk, esub]
     rw [whileE (if allNum 4 xs then (.yield 2, [rL (fillN xs xs.length)]) else (.ret, [i64 0, i64 0, i64 0, i64 0, i64 0, i64 3, .bool false])) (fun i : Nat => xs.length - i) (fun i : Nat => i <= xs.length /\ allNum 4 (xs.take i) = true) (fun i => [rL (fillN xs i), i64 i]) 0 rfl (by simp [allNum]) (by split <;> simp)]
     rotate_left
     ·rintro i ⟨hi, hA⟩
      by_cases hlt : i < xs.length
      ·have d : decide ((i : Int) < (xs.length : Int)) = true := by simpa using hlt
       have hb : InB xs (i : Int) := InB_nat.2 hlt
       have e := spec_l1Read (atI xs (i : Int)) (hdr _ (at_mem hlt))
       have l1 := fillN_len (ws := xs) (i := i) (by omega) (by omega)
       have l2 := fillN_len (ws := xs) (i := i + 1) (by omega) (by omega)
       have hb1 : InB (fillN xs i) (i : Int) := by unfold InB; omega
       have hb2 : InB (fillN xs (i + 1)) (i : Int) := by unfold InB; omega
       have ef := fillN_set hlt (by omega)
       have ea : atI (fillN xs (i + 1)) (i : Int) = digM (atI xs (i : Int)) 6 := by rw [<- ef]; exact S_upd.1 hb1
       by_cases h4 : 4 < ((atI xs (i : Int)).length : Int)
       ·have d4 : decide (4 < ((atI xs (i : Int)).length : Int)) = true := by simpa using h4
        right
        rw [allNum_bad hlt (digM_long h4)]
        simp only [Bool.false_eq_true, if_false]
        simp (disch := first|assumption|omega) only [S0,rA,rQ,rB,rT,rE, d, S_row, e, S_set, ef, ea, t_slen, d4]
       ·have d4 : decide (4 < ((atI xs (i : Int)).length : Int)) = false := by simpa using h4
        have e4 := digM_short (s := atI xs (i : Int)) (by omega)
        rcases (show digM (atI xs (i : Int)) 6 < 0 \/ 0 <= digM (atI xs (i : Int)) 6 by omega) with h0 | h0
        ·have d0 : decide (digM (atI xs (i : Int)) 6 < 0) = true := by simpa using h0
         right
         rw [allNum_bad hlt (by rw [e4]; exact h0)]
         simp only [Bool.false_eq_true, if_false]
         simp (disch := first|assumption|omega) only [S0,rA,rQ,rB,rT,rE, d, S_row, e, S_set, ef, ea, t_slen, d4, d0]
        ·have d0 : decide (digM (atI xs (i : Int)) 6 < 0) = false := by simp; omega
         refine .inl ⟨i + 1, ?_, ⟨by omega, by rw [allNum_succ hlt, hA, e4, decide_eq_true h0]; rfl⟩, by omega⟩
         simp (disch := first|assumption|omega) only [S0,rA,rQ,rB,rT,rE, d, S_row, e, S_set, ef, ea, t_slen, d4, d0]
      ·have d : decide ((i : Int) < (xs.length : Int)) = false := by simpa using hlt
       obtain rfl : i = xs.length := by omega
       rw [List.take_of_length_le (Nat.le_refl _)] at hA
       right
       rw [hA]
       simp only [if_true]
       simp (disch := first|assumption|omega) only [S0,rA,rQ,rB,rT,rE, d]
     rw [hA0]
     simp only [if_true]
     have efl : fillN xs xs.length = numsOf 4 xs ++ [0, 0] := by
      unfold fillN
      rw [List.take_of_length_le (Nat.le_refl _), numsOf_up hA0 (by decide), hx4]
      rfl
     rw [efl]
     generalize numsOf 4 xs = ns at *
     have g0 : InB (ns ++ [0, 0]) 0 := by unfold InB; simp; omega
     have g1 : InB (ns ++ [0, 0]) 1 := by unfold InB; simp; omega
     have g2 : InB (ns ++ [0, 0]) 2 := by unfold InB; simp; omega
     have g3 : InB (ns ++ [0, 0]) 3 := by unfold InB; simp; omega
     have y0 : atI (ns ++ [0, 0]) 0 = atI ns 0 := by obtain ⟨a, b, rfl⟩ := list2 hnl; rfl
     have y1 : atI (ns ++ [0, 0]) 1 = atI ns 1 := by obtain ⟨a, b, rfl⟩ := list2 hnl; rfl
     have y2 : atI (ns ++ [0, 0]) 2 = 0 := by obtain ⟨a, b, rfl⟩ := list2 hnl; rfl
     have y3 : atI (ns ++ [0, 0]) 3 = 0 := by obtain ⟨a, b, rfl⟩ := list2 hnl; rfl
     simp (disch := first|assumption|omega) only [S0,rA,rQ,rB,rT,rE, S_row, y0, y1, y2, y3, eg, ek]
    ·rw [hyes q4]
     rw [q4] at ek
     refine ⟨0, ?_⟩
     simp (disch := first|assumption|omega) only [S0,rA,rQ,rB,rT,rE, esp, S_row, t_eq, q1, q2, dl, emk, esub]
     rw [whileE (if allNum 4 xs then (.yield 2, [rL (fillN xs xs.length)]) else (.ret, [i64 0, i64 0, i64 0, i64 0, i64 0, i64 3, .bool false])) (fun i : Nat => xs.length - i) (fun i : Nat => i <= xs.length /\ allNum 4 (xs.take i) = true) (fun i => [rL (fillN xs i), i64 i]) 0 rfl (by simp [allNum]) (by split <;> simp)]
     rotate_left
     ·rintro i ⟨hi, hA⟩
      by_cases hlt : i < xs.length
      ·have d : decide ((i : Int) < (xs.length : Int)) = true := by simpa using hlt
       have hb : InB xs (i : Int) := InB_nat.2 hlt
       have e := spec_l1Read (atI xs (i : Int)) (hdr _ (at_mem hlt))
       have l1 := fillN_len (ws := xs) (i := i) (by omega) (by omega)
       have l2 := fillN_len (ws := xs) (i := i + 1) (by omega) (by omega)
       have hb1 : InB (fillN xs i) (i : Int) := by unfold InB; omega
       have hb2 : InB (fillN xs (i + 1)) (i : Int) := by unfold InB; omega
       have ef := fillN_set hlt (by omega)
       have ea : atI (fillN xs (i + 1)) (i : Int) = digM (atI xs (i : Int)) 6 := by rw [<- ef]; exact S_upd.1 hb1
       by_cases h4 : 4 < ((atI xs (i : Int)).length : Int)
       ·have d4 : decide (4 < ((atI xs (i : Int)).length : Int)) = true := by simpa using h4
        right
        rw [allNum_bad hlt (digM_long h4)]
        simp only [Bool.false_eq_true, if_false]
        simp (disch := first|assumption|omega) only [S0,rA,rQ,rB,rT,rE, d, S_row, e, S_set, ef, ea, t_slen, d4]
       ·have d4 : decide (4 < ((atI xs (i : Int)).length : Int)) = false := by simpa using h4
        have e4 := digM_short (s := atI xs (i : Int)) (by omega)
        rcases (show digM (atI xs (i : Int)) 6 < 0 \/ 0 <= digM (atI xs (i : Int)) 6 by omega) with h0 | h0
        ·have d0 : decide (digM (atI xs (i : Int)) 6 < 0) = true := by simpa using h0
         right
         rw [allNum_bad hlt (by rw [e4]; exact h0)]
         simp only [Bool.false_eq_true, if_false]
         simp (disch := first|assumption|omega) only [S0,rA,rQ,rB,rT,rE, d, S_row, e, S_set, ef, ea, t_slen, d4, d0]
        ·have d0 : decide (digM (atI xs (i : Int)) 6 < 0) = false := by simp; omega
         refine .inl ⟨i + 1, ?_, ⟨by omega, by rw [allNum_succ hlt, hA, e4, decide_eq_true h0]; rfl⟩, by omega⟩
         simp (disch := first|assumption|omega) only [S0,rA,rQ,rB,rT,rE, d, S_row, e, S_set, ef, ea, t_slen, d4, d0]
      ·have d : decide ((i : Int) < (xs.length : Int)) = false := by simpa using hlt
       obtain rfl : i = xs.length := by omega
       rw [List.take_of_length_le (Nat.le_refl _)] at hA
       right
       rw [hA]
       simp only [if_true]
       simp (disch := first|assumption|omega) only [S0,rA,rQ,rB,rT,rE, d]
     rw [hA0]
     simp only [if_true]
     have efl : fillN xs xs.length = numsOf 4 xs ++ [0, 0] := by
      unfold fillN
      rw [List.take_of_length_le (Nat.le_refl _), numsOf_up hA0 (by decide), hx4]
      rfl
     rw [efl]
     generalize numsOf 4 xs = ns at *
     have g0 : InB (ns ++ [0, 0]) 0 := by unfold InB; simp; omega
     have g1 : InB (ns ++ [0, 0]) 1 := by unfold InB; simp; omega
     have g2 : InB (ns ++ [0, 0]) 2 := by unfold InB; simp; omega
     have g3 : InB (ns ++ [0, 0]) 3 := by unfold InB; simp; omega
     have y0 : atI (ns ++ [0, 0]) 0 = atI ns 0 := by obtain ⟨a, b, rfl⟩ := list2 hnl; rfl
     have y1 : atI (ns ++ [0, 0]) 1 = atI ns 1 := by obtain ⟨a, b, rfl⟩ := list2 hnl; rfl
     have y2 : atI (ns ++ [0, 0]) 2 = 0 := by obtain ⟨a, b, rfl⟩ := list2 hnl; rfl
     have y3 : atI (ns ++ [0, 0]) 3 = 0 := by obtain ⟨a, b, rfl⟩ := list2 hnl; rfl
     simp (disch := first|assumption|omega) only [S0,rA,rQ,rB,rT,rE, S_row, y0, y1, y2, y3, eg, ek]
  ·have dl : ((ws.length : Int) == 3) = false := by simpa using hl
   rw [cmdWs_no (.inr (.inl (by rw [k]; exact hl)))]
   refine ⟨2, ?_⟩
   simp (disch := first|assumption|omega) only [S0,rA,rQ,rB,rT,rE, esp, S_row, t_eq, q1, q2, dl]
 ·obtain ⟨q3, q1, q2⟩ := kindB_neg k
  rw [cmdWs_no (.inl (by rw [k]; decide))]
  refine ⟨1, ?_⟩
  simp (disch := first|assumption|omega) only [S0,rA,rQ,rB,rT,rE, esp, S_row, t_eq, q1, q2, q3]
theorem lite_Cut_no (s : List UInt8) (b : UInt8) (h : b ∉ s) : Fun T 87 [.str s, .str [b]] = some [.str s, .str [], .bool false] := by
 rw [Fun_k (t := tm87) rfl]; unfold tm87
 have e := lite_Index s b
 rw [ix_none h] at e
 have d : decide ((0 : Int) <= -1) = false := rfl
 simp (disch := first|assumption|omega) only [S0,rA,rQ,rB,rT,rE, e, d]
theorem lite_Cut_at (p t : List UInt8) (b : UInt8) (h : b ∉ p) (hpl : p.length <= 1000000000) : Fun T 87 [.str (p ++ b :: t), .str [b]] = some [.str p, .str t, .bool true] := by
 rw [Fun_k (t := tm87) rfl]; unfold tm87
 have e := lite_Index (p ++ b :: t) b
 rw [ix_app t h] at e
 have d : decide ((0 : Int) <= (p.length : Int)) = true := by simp
 have hl : (p ++ b :: t).length = p.length + t.length + 1 := by simp; omega
 have e1 : Prim.slen.run [.str [b]] = some [i64 1] := rfl
 generalize hs : p ++ b :: t = s at *
 have es1 := t_ssub (s := s) (lo := 0) (hi := (p.length : Int)) (by omega) (by omega) (by omega)
 have es2 := t_ssub (s := s) (lo := (p.length : Int) + 1) (hi := (s.length : Int)) (by omega) (by omega) (by omega)
 have et1 : (s.take (p.length : Int).toNat).drop (0 : Int).toNat = p := by
  rw [Int.toNat_natCast, <- hs]; simp
 have et2 : (s.take (s.length : Int).toNat).drop ((p.length : Int) + 1).toNat = t := by
  rw [Int.toNat_natCast, List.take_of_length_le (Nat.le_refl _), show ((p.length : Int) + 1).toNat = p.length + 1 by omega, <- hs]
  rw [List.drop_append]
  simp
 rw [et1] at es1
 rw [et2] at es2
 simp (disch := first|assumption|omega) only [S0,rA,rQ,rB,rT,rE, e, d, es1, e1, t_slen, es2]
theorem strings_Cut_no (s : List UInt8) (b : UInt8) (h : b ∉ s) : Fun T 86 [.str s, .str [b]] = some [.str s, .str [], .bool false] := by
 rw [Fun_k (t := tm86) rfl]; unfold tm86
 simp (disch := first|assumption|omega) only [S0,rA,rQ,rB,rT,rE, lite_Cut_no]
theorem strings_Cut_at (p t : List UInt8) (b : UInt8) (h : b ∉ p) (hpl : p.length <= 1000000000) : Fun T 86 [.str (p ++ b :: t), .str [b]] = some [.str p, .str t, .bool true] := by
 rw [Fun_k (t := tm86) rfl]; unfold tm86
 simp (disch := first|assumption|omega) only [S0,rA,rQ,rB,rT,rE, lite_Cut_at]
theorem impl_ReadAttr (n : Int) (s : List UInt8) (hs : s.length <= 1000000000) : Fun T 85 [i64 n, .str s] = some [i64 (attrB n s).1.seq, rL (attrB n s).1.deps, .bool (attrB n s).2] := by
 rw [Fun_k (t := tm85) rfl]; unfold tm85
 by_cases hm : (58 : UInt8) ∈ s
 ·obtain ⟨p, t, hst, hp, _⟩ := ix_some hm
  rw [attrB_cut hst hp]
  have hsl : s.length = p.length + t.length + 1 := by rw [hst]; simp; omega
  have ec := strings_Cut_at p t 58 hp (by omega)
  rw [<- hst] at ec
  have ed := impl_digits p 3 (by decide) (by decide) (by omega)
  have esp := strings_Split t 44 (by omega)
  have htm : ∀ w ∈ splitB 44 t, w.length <= 1000000000 := fun w hw => by have := (splitB_mem hw).2; omega
  have htl : (splitB 44 t).length <= 1000000001 := by
   rw [splitB_len]
   have : t.count 44 <= t.length := List.count_le_length
   omega
  have en := impl_numbers (splitB 44 t) 1 (by decide) (by decide) htm htl
  have eg := impl_GoodAttr n (digM p 3) (numsOf 1 (splitB 44 t)) (by rw [numsOf_len]; omega)
  cases hA : allNum 1 (splitB 44 t)
  ·have hN := numR_no hA
   simp only [Bool.not_false, Bool.true_or, if_true]
   simp (disch := first|assumption|omega) only [S0,rA,rQ,rB,rT,rE, ec, ed, esp, en, hN]
   rfl
  ·have hN := numR_yes hA
   cases d4 : decide (40 < (s.length : Int))
   ·cases hG : isGrp n && attrOk n ⟨digM p 3, numsOf 1 (splitB 44 t)⟩
    ·simp only [Bool.not_true, Bool.not_false, Bool.or_true, if_true]
     simp (disch := first|assumption|omega) only [S0,rA,rQ,rB,rT,rE, ec, ed, esp, en, hN, t_slen, d4, eg, hG]
     rfl
    ·simp only [Bool.not_true, Bool.or_false, Bool.false_eq_true, if_false]
     simp (disch := first|assumption|omega) only [S0,rA,rQ,rB,rT,rE, ec, ed, esp, en, hN, t_slen, d4, eg, hG]
   ·simp only [Bool.not_true, Bool.or_true, Bool.true_or, if_true]
    simp (disch := first|assumption|omega) only [S0,rA,rQ,rB,rT,rE, ec, ed, esp, en, hN, t_slen, d4]
    rfl
 ·rw [attrB_none hm]
  have ec := strings_Cut_no s 58 hm
  have ed := impl_digits s 3 (by decide) (by decide) hs
  have esp : Fun T 69 [.str [], .str [44]] = some [rL [[]]] := strings_Split [] 44 (by simp)
  have en := impl_numbers [[]] 1 (by decide) (by decide) (by simp) (by simp)
  have hN : numR 1 [[]] = ([], false) := rfl
  simp (disch := first|assumption|omega) only [S0,rA,rQ,rB,rT,rE, ec, ed, esp, en, hN]
  rfl
theorem spec_GoodAttr (n s : Int) (xs : List Int) (hx : xs.length <= 1099511627776) : Fun T 99 [i64 n, i64 s, rL xs] = some [.bool (isGrp n && attrOk n ⟨s, xs⟩)] := by
 rw [Fun_k (t := tm99) rfl]; unfold tm99
 (refine fork_in ?_; repeat' (refine fork_eq ?_ ?_<;>intro _<;>try simp (disch := first|assumption|omega) only [S0,rA,rQ,rB,rT,rE,spec_IsGroup,spec_l3Attr, *]))
theorem spec_ReadAttr (n : Int) (s : List UInt8) (hs : s.length <= 1000000000) : Fun T 98 [i64 n, .str s] = some [i64 (attrB n s).1.seq, rL (attrB n s).1.deps, .bool (attrB n s).2] := by
 rw [Fun_k (t := tm98) rfl]; unfold tm98
 have esp : Fun T 95 [.str s, .int .u8 58] = some [rL (splitB 58 s)] := spec_l1Split s 58 hs
 have hsm : ∀ w ∈ splitB 58 s, w.length <= s.length := fun w hw => (splitB_mem hw).2
 unfold attrB attrWs
 generalize splitB 58 s = ps at *
 cases d4 : decide (40 < (s.length : Int))
 rotate_left
 ·simp only [Bool.true_or, if_true]
  simp (disch := first|assumption|omega) only [S0,rA,rQ,rB,rT,rE, esp, t_slen, d4]
  rfl
 cases d2 : (ps.length : Int) == 2
 ·simp only [Bool.not_false, Bool.or_true, Bool.true_or, if_true]
  simp (disch := first|assumption|omega) only [S0,rA,rQ,rB,rT,rE, esp, t_slen, d4, d2]
  rfl
 ·have hl2 : (ps.length : Int) = 2 := by simpa using d2
  have b0 : InB ps 0 := by unfold InB; omega
  have b1 : InB ps 1 := by unfold InB; omega
  have m0 := hsm _ (at_memI b0)
  have m1 := hsm _ (at_memI b1)
  have er := spec_l1Read (atI ps 0) (by omega)
  have esp2 : Fun T 95 [.str (atI ps 1), .int .u8 44] = some [rL (splitB 44 (atI ps 1))] := spec_l1Split (atI ps 1) 44 (by omega)
  have htm : ∀ w ∈ splitB 44 (atI ps 1), w.length <= 1000000000 := fun w hw => by have := (splitB_mem hw).2; omega
  have htl : (splitB 44 (atI ps 1)).length <= 1000000001 := by
   rw [splitB_len]
   have : (atI ps 1).count 44 <= (atI ps 1).length := List.count_le_length
   omega
  simp (disch := first|assumption|omega) only [S0,rA,rQ,rB,rT,rE, esp, t_slen, d4, d2, S_row, er, esp2]
  generalize splitB 44 (atI ps 1) = ws at *
  rw [whileE (.yield 1, [rL (numsOf 6 ws)]) (fun i : Nat => ws.length - i) (fun i : Nat => i <= ws.length) (fun i => [i64 i, rL (numsOf 6 (ws.take i))]) 0 rfl (by simp) (by simp)]
  rotate_left
  ·intro i hi
   by_cases hlt : i < ws.length
   ·have d : decide ((i : Int) < (ws.length : Int)) = true := by simpa using hlt
    have hb : InB ws (i : Int) := InB_nat.2 hlt
    have e := spec_l1Read (atI ws (i : Int)) (htm _ (at_mem hlt))
    have z : (numsOf 6 (ws.take i)).length + ([digM (atI ws (i : Int)) 6] : List Int).length <= 100000000000 := by rw [numsOf_len, List.length_take]; simp only [List.length_cons, List.length_nil]; omega
    have e3 := (numsOf_succ (m := 6) hlt).symm
    refine .inl ⟨i + 1, ?_, by omega, by omega⟩
    simp (disch := first|assumption|omega) only [S0,rA,rQ,rB,rT,rE, d, S_row, e, S_mk, S_app, e3]
   ·have d : decide ((i : Int) < (ws.length : Int)) = false := by simpa using hlt
    obtain rfl : i = ws.length := by omega
    right
    rw [List.take_of_length_le (Nat.le_refl _)]
    simp (disch := first|assumption|omega) only [S0,rA,rQ,rB,rT,rE, d]
  ·have eg := spec_GoodAttr n (digM (atI ps 0) 6) (numsOf 6 ws) (by rw [numsOf_len]; omega)
   cases hG : isGrp n && attrOk n ⟨digM (atI ps 0) 6, numsOf 6 ws⟩
   ·simp only [Bool.not_true, Bool.not_false, Bool.or_true, if_true]
    simp (disch := first|assumption|omega) only [S0,rA,rQ,rB,rT,rE, eg, hG]
    rfl
   ·simp only [Bool.not_true, Bool.or_false, Bool.false_eq_true, if_false]
    simp (disch := first|assumption|omega) only [S0,rA,rQ,rB,rT,rE, eg, hG]
theorem spec_l1Num : ∀ n : Nat, n <= 1000000 -> Fun T 64 [i64 n] = some [.str (numD n)] := by
 intro n
 induction n using Nat.strongRecOn with
 | _ n ih =>
  intro hn
  have hdig : ∀ k : Nat, k < 10 -> (Prim.conv .u8).run [i64 (48 + (k : Int))] = some [.int .u8 (48 + (k : Int))] /\ Prim.bstr.run [.rows 1 [[.int .u8 (48 + (k : Int))]]] = some [.str [UInt8.ofNat (48 + k)]] := by
   intro k hk
   constructor
   ·show some [D.int .u8 (IntKind.u8.wrap (48 + (k : Int)))] = _
    have : IntKind.u8.wrap (48 + (k : Int)) = 48 + (k : Int) := by simp [IntKind.wrap, IntKind.bits, IntKind.signed]; omega
    rw [this]
   ·show some [D.str [UInt8.ofNat (48 + (k : Int)).toNat]] = _
    rw [show (48 + (k : Int)).toNat = 48 + k by omega]
  have hmk : ∀ x : Int, (Prim.mk 1 1).run [.int .u8 x] = some [.rows 1 [[.int .u8 x]]] := fun _ => rfl
  rw [Fun_k (t := tm64) rfl]; unfold tm64
  by_cases h : n < 10
  ·have d : decide ((n : Int) < 10) = true := by simp; omega
   obtain ⟨e1, e2⟩ := hdig n h
   rw [numD_lt h]
   simp (disch := first|assumption|omega) only [S0,rA,rQ,rB,rT,rE, d, e1, hmk, e2]
  ·have d : decide ((n : Int) < 10) = false := by simp; omega
   have eq : (Prim.bin .quo).run [i64 n, i64 10] = some [i64 ((n / 10 : Nat) : Int)] := by
    show (if (10 : Int) = 0 then none else some (D.int .i64 (IntKind.i64.wrap ((n : Int).tdiv 10)))).map (fun d => [d]) = _
    rw [if_neg (by decide)]
    have : (n : Int).tdiv 10 = ((n / 10 : Nat) : Int) := by rw [Int.tdiv_eq_ediv_of_nonneg (by omega)]; omega
    rw [this, wrap_i64 (by omega) (by omega)]
    rfl
   have em : (Prim.bin .rem).run [i64 n, i64 10] = some [i64 ((n % 10 : Nat) : Int)] := by
    show (if (10 : Int) = 0 then none else some (D.int .i64 ((n : Int).tmod 10))).map (fun d => [d]) = _
    rw [if_neg (by decide)]
    have : (n : Int).tmod 10 = ((n % 10 : Nat) : Int) := by rw [Int.tmod_eq_emod_of_nonneg (by omega)]; omega
    rw [this]
    rfl
   have ei := ih (n / 10) (by omega) (by omega)
   obtain ⟨e1, e2⟩ := hdig (n % 10) (by omega)
   have hl := numD_len (n / 10)
   have ea := t_add (a := numD (n / 10)) (b := [UInt8.ofNat (48 + n % 10)]) (by simp only [List.length_cons, List.length_nil]; omega)
   rw [numD_ge (by omega)]
   simp (disch := first|assumption|omega) only [S0,rA,rQ,rB,rT,rE, d, eq, em, ei, e1, hmk, e2, ea]
theorem spec_l1NumT (n : Int) (h0 : 0 <= n) (h1 : n <= 9999) : Fun T 64 [i64 n] = some [.str (numT n)] := by
 have := spec_l1Num n.toNat (by omega)
 rw [show ((n.toNat : Nat) : Int) = n by omega] at this
 exact this
theorem spec_l2Text (k i f t a : Int) (h : cmdOk ⟨k, i, f, t, a⟩ = true) : Fun T 65 [i64 k, i64 i, i64 f, i64 t, i64 a] = some [.str (cmdT ⟨k, i, f, t, a⟩)] := by
 rw [Fun_k (t := tm65) rfl]; unfold tm65
 have hr := cmdOk_rng h
 simp only at hr
 obtain ⟨⟨i0, i1⟩, ⟨f0, f1⟩, ⟨t0, t1⟩, a0, a1⟩ := hr
 have li := numT_len i1
 have lf := numT_len f1
 have lt := numT_len t1
 have la := numT_len a1
 have ni := spec_l1NumT i i0 i1
 have nf := spec_l1NumT f f0 f1
 have nt := spec_l1NumT t t0 t1
 have na := spec_l1NumT a a0 a1
 have hk := cmdOk_kind h
 simp only at hk
 unfold cmdT
 rcases hk with rfl | rfl | rfl
 ·simp (disch := first|assumption|omega) only [S0,rA,rQ,rB,rT,rE]
 ·have g1 := t_add (a := [109, 111, 118, 101, 32]) (b := numT i) (by simp only [List.length_cons, List.length_nil]; omega)
  have g2 := t_add (a := [109, 111, 118, 101, 32] ++ numT i) (b := [32]) (by simp only [List.length_append, List.length_cons, List.length_nil]; omega)
  have g3 := t_add (a := [109, 111, 118, 101, 32] ++ numT i ++ [32]) (b := numT f) (by simp only [List.length_append, List.length_cons, List.length_nil]; omega)
  have g4 := t_add (a := [109, 111, 118, 101, 32] ++ numT i ++ [32] ++ numT f) (b := [32]) (by simp only [List.length_append, List.length_cons, List.length_nil]; omega)
  have g5 := t_add (a := [109, 111, 118, 101, 32] ++ numT i ++ [32] ++ numT f ++ [32]) (b := numT t) (by simp only [List.length_append, List.length_cons, List.length_nil]; omega)
  have g6 := t_add (a := [109, 111, 118, 101, 32] ++ numT i ++ [32] ++ numT f ++ [32] ++ numT t) (b := [32]) (by simp only [List.length_append, List.length_cons, List.length_nil]; omega)
  have g7 := t_add (a := [109, 111, 118, 101, 32] ++ numT i ++ [32] ++ numT f ++ [32] ++ numT t ++ [32]) (b := numT a) (by simp only [List.length_append, List.length_cons, List.length_nil]; omega)
  simp (disch := first|assumption|omega) only [S0,rA,rQ,rB,rT,rE, ni, nf, nt, na, g1, g2, g3, g4, g5, g6, g7]
 ·have g1 := t_add (a := [114, 101, 97, 100, 32]) (b := numT i) (by simp only [List.length_cons, List.length_nil]; omega)
  have g2 := t_add (a := [114, 101, 97, 100, 32] ++ numT i) (b := [32]) (by simp only [List.length_append, List.length_cons, List.length_nil]; omega)
  have g3 := t_add (a := [114, 101, 97, 100, 32] ++ numT i ++ [32]) (b := numT f) (by simp only [List.length_append, List.length_cons, List.length_nil]; omega)
  simp (disch := first|assumption|omega) only [S0,rA,rQ,rB,rT,rE, ni, nf, g1, g2, g3]
theorem spec_l3List (xs : List Int) (hr : ∀ x ∈ xs, 0 <= x /\ x <= 9999) (hx : xs.length <= 1000) : Fun T 67 [rL xs] = some [.str (joinB 44 (xs.map numT))] := by
 rw [Fun_k (t := tm67) rfl]; unfold tm67
 simp (disch := first|assumption|omega) only [S0,rA,rQ,rB,rT,rE]
 have hj : ∀ i : Nat, i <= xs.length -> (joinB 44 ((xs.take i).map numT)).length <= 10010000 := by
  intro i hi
  have := joinB_len (b := 44) (ws := (xs.take i).map numT) (by
   intro w hw
   obtain ⟨x, h1, rfl⟩ := List.mem_map.1 hw
   exact numT_len (hr x (List.mem_of_mem_take h1)).2)
  rw [List.length_map, List.length_take] at this
  omega
 rw [whileE (.yield 1, [.str (joinB 44 (xs.map numT))]) (fun i : Nat => xs.length - i) (fun i : Nat => i <= xs.length) (fun i => [.str (joinB 44 ((xs.take i).map numT)), i64 i]) 0 rfl (by simp) (by simp)]
 rotate_left
 ·intro i hi
  by_cases hlt : i < xs.length
  ·have d : decide ((i : Int) < (xs.length : Int)) = true := by simpa using hlt
   have hb : InB xs (i : Int) := InB_nat.2 hlt
   have hm := hr _ (at_mem hlt)
   have e := spec_l1NumT (atI xs (i : Int)) hm.1 hm.2
   have l1 := numT_len hm.2
   have l2 := hj i hi
   refine .inl ⟨i + 1, ?_, by omega, by omega⟩
   by_cases h0 : 0 < i
   ·have d0 : decide ((0 : Int) < (i : Int)) = true := by simpa using h0
    have g1 := t_add (a := joinB 44 ((xs.take i).map numT)) (b := [44]) (by simp only [List.length_cons, List.length_nil]; omega)
    have g2 := t_add (a := joinB 44 ((xs.take i).map numT) ++ [44]) (b := numT (atI xs (i : Int))) (by simp only [List.length_append, List.length_cons, List.length_nil]; omega)
    have e3 : joinB 44 ((xs.take i).map numT) ++ [44] ++ numT (atI xs (i : Int)) = joinB 44 ((xs.take (i + 1)).map numT) := by
     rw [<- take_at hlt, List.map_append]
     refine (joinB_snoc ?_).symm
     intro hn
     have := congrArg List.length hn
     simp only [List.length_map, List.length_take, List.length_nil] at this
     omega
    simp (disch := first|assumption|omega) only [S0,rA,rQ,rB,rT,rE, d, S_row, e, d0, g1, g2, e3]
   ·obtain rfl : i = 0 := by omega
    have d0 : decide ((0 : Int) < ((0 : Nat) : Int)) = false := rfl
    have g2 := t_add (a := joinB 44 ((xs.take 0).map numT)) (b := numT (atI xs ((0 : Nat) : Int))) (by omega)
    have e3 : joinB 44 ((xs.take 0).map numT) ++ numT (atI xs ((0 : Nat) : Int)) = joinB 44 ((xs.take (0 + 1)).map numT) := by
     rw [<- take_at hlt]
     simp [joinB]
    simp (disch := first|assumption|omega) only [S0,rA,rQ,rB,rT,rE, d, S_row, e, d0, g2, e3]
  ·have d : decide ((i : Int) < (xs.length : Int)) = false := by simpa using hlt
   obtain rfl : i = xs.length := by omega
   right
   rw [List.take_of_length_le (Nat.le_refl _)]
   simp (disch := first|assumption|omega) only [S0,rA,rQ,rB,rT,rE, d]
 ·simp (disch := first|assumption|omega) only [S0,rA,rQ,rB,rT,rE]
theorem spec_l3Text (sq : Int) (xs : List Int) (h0 : 0 <= sq) (h1 : sq <= 9999) (hr : ∀ x ∈ xs, 0 <= x /\ x <= 9999) (hx : xs.length <= 1000) : Fun T 66 [i64 sq, rL xs] = some [.str (attrT ⟨sq, xs⟩)] /\ (attrT ⟨sq, xs⟩).length <= 20000000 := by
 have l1 := numT_len h1
 have l2 : (joinB 44 (xs.map numT)).length <= 10001 * xs.length := by
  have := joinB_len (b := 44) (ws := xs.map numT) (by
   intro w hw
   obtain ⟨x, h1, rfl⟩ := List.mem_map.1 hw
   exact numT_len (hr x h1).2)
  rwa [List.length_map] at this
 refine ⟨?_, by simp only [attrT, List.length_append, List.length_cons]; omega⟩
 rw [Fun_k (t := tm66) rfl]; unfold tm66
 have e := spec_l1NumT sq h0 h1
 have e2 := spec_l3List xs hr hx
 have g1 := t_add (a := numT sq) (b := [58]) (by simp only [List.length_cons, List.length_nil]; omega)
 have g2 := t_add (a := numT sq ++ [58]) (b := joinB 44 (xs.map numT)) (by simp only [List.length_append, List.length_cons, List.length_nil]; omega)
 have e3 : numT sq ++ [58] ++ joinB 44 (xs.map numT) = attrT ⟨sq, xs⟩ := by simp [attrT]
 simp (disch := first|assumption|omega) only [S0,rA,rQ,rB,rT,rE, e, g1, e2, g2, e3]
theorem spec_l7Words : Fun T 63 [] = some [rL wordsM] := by
 rw [Fun_k (t := tm63) rfl]; unfold tm63
 have e : (Prim.mk 1 8).run [.str [], .str [112, 114, 101], .str [112, 114, 101, 111, 107], .str [97, 99, 99], .str [97, 99, 99, 111, 107], .str [99, 111, 109], .str [112, 114, 101, 112], .str [112, 114, 101, 112, 111, 107]] = some [rL wordsM] := rfl
 simp (disch := first|assumption|omega) only [S0,rA,rQ,rB,rT,rE, e]
theorem impl_msgWords : Fun T 35 [] = some [rL wordsM] := by
 rw [Fun_k (t := tm35) rfl]; unfold tm35
 have e : (Prim.mk 1 8).run [.str [], .str [112, 114, 101], .str [112, 114, 101, 111, 107], .str [97, 99, 99], .str [97, 99, 99, 111, 107], .str [99, 111, 109], .str [112, 114, 101, 112], .str [112, 114, 101, 112, 111, 107]] = some [rL wordsM] := rfl
 simp (disch := first|assumption|omega) only [S0,rA,rQ,rB,rT,rE, e]
theorem impl_ReadMsg (n : Int) (s : List UInt8) (hs : s.length <= 1000000000) : Fun T 68 [i64 n, .str s] = some [i64 (readM n s).1.kind, i64 (readM n s).1.src, i64 (readM n s).1.dst, i64 (readM n s).1.rep, i64 (readM n s).1.no, i64 (readM n s).1.ballot, i64 (readM n s).1.vote, i64 (readM n s).1.state,
  i64 (readM n s).1.cmd.kind, i64 (readM n s).1.cmd.id, i64 (readM n s).1.cmd.src, i64 (readM n s).1.cmd.dst, i64 (readM n s).1.cmd.amt, i64 (readM n s).1.attr.seq, rL (readM n s).1.attr.deps, i64 (readM n s).2.1, .bool (readM n s).2.2] := by
 rw [Fun_k (t := tm68) rfl]; unfold tm68
 have esp := strings_Split s 124 hs
 have hsm : ∀ w ∈ splitB 124 s, w.length <= s.length := fun w hw => (splitB_mem hw).2
 unfold readM
 generalize splitB 124 s = ps at *
 unfold readMs
 cases hg : isGrp n
 ·simp only [Bool.not_false, Bool.true_or, if_true]
  simp (disch := first|assumption|omega) only [S0,rA,rQ,rB,rT,rE, esp, impl_IsGroup, hg]
  rfl
 cases d3 : (ps.length : Int) == 3
 ·simp only [Bool.not_true, Bool.not_false, Bool.or_true, if_true]
  simp (disch := first|assumption|omega) only [S0,rA,rQ,rB,rT,rE, esp, impl_IsGroup, hg, d3]
  rfl
 have hl3 : (ps.length : Int) = 3 := by simpa using d3
 have b0 : InB ps 0 := by unfold InB; omega
 have b1 : InB ps 1 := by unfold InB; omega
 have b2 : InB ps 2 := by unfold InB; omega
 have m0 := hsm _ (at_memI b0)
 have m1 := hsm _ (at_memI b1)
 have m2 := hsm _ (at_memI b2)
 have htm : ∀ w ∈ splitB 32 (atI ps 0), w.length <= 1000000000 := fun w hw => by have := (splitB_mem hw).2; omega
 have htl : (splitB 32 (atI ps 0)).length <= 1000000001 := by
  rw [splitB_len]
  have : (atI ps 0).count 32 <= (atI ps 0).length := List.count_le_length
  omega
 have hwn := splitB_ne 32 (atI ps 0)
 have esp2 := strings_Split (atI ps 0) 32 (by omega)
 obtain ⟨code, eC⟩ := impl_ReadCmd (atI ps 1) (by omega)
 have eA := impl_ReadAttr n (atI ps 2) (by omega)
 have lA := attrB_len (n := n) (s := atI ps 2)
 simp only [Bool.not_true, Bool.or_false, Bool.false_eq_true, if_false]
 generalize splitB 32 (atI ps 0) = ws at *
 have hl0 : 0 < ws.length := List.length_pos_iff.2 hwn
 have w0 : InB ws 0 := by unfold InB; omega
 have ei := slices_Index_str wordsM (atI ws 0) (by decide)
 have esub := sub_tail (ws := ws) (by omega)
 have hdr : ∀ w ∈ ws.drop 1, w.length <= 1000000000 := fun w hw => htm w (List.mem_of_mem_drop hw)
 have hdl := drop1_len (ws := ws)
 have en := impl_numbers (ws.drop 1) 4 (by decide) (by decide) hdr (by omega)
 change Fun _ _ _ = some [i64 (kindM (atI ws 0))] at ei
 have hnl : (numsOf 4 (ws.drop 1)).length = ws.length - 1 := by rw [numsOf_len, hdl]
 cases dk : decide (kindM (atI ws 0) < 1)
 rotate_left
 ·simp only [Bool.true_or, if_true]
  simp (disch := first|assumption|omega) only [S0,rA,rQ,rB,rT,rE, esp, impl_IsGroup, hg, d3, S_row, esp2, impl_msgWords, ei, esub, en, dk]
  rfl
 cases hA : allNum 4 (ws.drop 1)
 ·have hN := numR_no hA
  simp only [Bool.not_false, Bool.false_or, Bool.true_or, if_true]
  simp (disch := first|assumption|omega) only [S0,rA,rQ,rB,rT,rE, esp, impl_IsGroup, hg, d3, S_row, esp2, impl_msgWords, ei, esub, en, dk, hN]
  rfl
 have hN := numR_yes hA
 cases d8 : ((ws.length : Nat) : Int) == 8
 ·have hl8 : (ws.length : Int) ≠ 8 := by simpa using d8
  have d7 : (((numsOf 4 (ws.drop 1)).length : Int) == 7) = false := by rw [hnl]; simp; omega
  simp only [Bool.not_true, Bool.not_false, Bool.or_true, if_true]
  simp (disch := first|assumption|omega) only [S0,rA,rQ,rB,rT,rE, esp, impl_IsGroup, hg, d3, S_row, esp2, impl_msgWords, ei, esub, en, dk, hN, d7]
  rfl
 have hl8 : (ws.length : Int) = 8 := by simpa using d8
 have d7 : (((numsOf 4 (ws.drop 1)).length : Int) == 7) = true := by rw [hnl]; simp; omega
 simp only [Bool.not_true, Bool.or_false, Bool.false_eq_true, if_false]
 generalize numsOf 4 (ws.drop 1) = ns at *
 generalize kindM (atI ws 0) = k at *
 generalize cmdB (atI ps 1) = cb at *
 generalize attrB n (atI ps 2) = ab at *
 obtain ⟨⟨ck, ci, cf, ct, ca⟩, co⟩ := cb
 obtain ⟨⟨sq, xs⟩, ao⟩ := ab
 simp only at eC eA lA
 cases co
 ·simp only [Bool.not_false, if_true]
  simp (disch := first|assumption|omega) only [S0,rA,rQ,rB,rT,rE, esp, impl_IsGroup, hg, d3, S_row, esp2, impl_msgWords, ei, esub, en, dk, hN, d7, eC]
  rfl
 cases ao
 ·simp only [Bool.not_true, Bool.not_false, Bool.false_eq_true, if_false, if_true]
  simp (disch := first|assumption|omega) only [S0,rA,rQ,rB,rT,rE, esp, impl_IsGroup, hg, d3, S_row, esp2, impl_msgWords, ei, esub, en, dk, hN, d7, eC, eA]
  rfl
 simp only [Bool.not_true, Bool.false_eq_true, if_false]
 have c0 : InB ns 0 := by unfold InB; omega
 have c1 : InB ns 1 := by unfold InB; omega
 have c2 : InB ns 2 := by unfold InB; omega
 have c3 : InB ns 3 := by unfold InB; omega
 have c4 : InB ns 4 := by unfold InB; omega
 have c5 : InB ns 5 := by unfold InB; omega
 have c6 : InB ns 6 := by unfold InB; omega
 have eG := impl_GoodMsg n k (atI ns 0) (atI ns 1) (atI ns 2) (atI ns 3) (atI ns 4) (atI ns 5) (atI ns 6) ck ci cf ct ca sq xs (by omega)
 unfold msgN
 cases hm : msgOk n ⟨k, atI ns 0, atI ns 1, atI ns 2, atI ns 3, atI ns 4, atI ns 5, atI ns 6, ⟨ck, ci, cf, ct, ca⟩, ⟨sq, xs⟩⟩
 ·simp only [Bool.false_eq_true, if_false]
  simp (disch := first|assumption|omega) only [S0,rA,rQ,rB,rT,rE, esp, impl_IsGroup, hg, d3, S_row, esp2, impl_msgWords, ei, esub, en, dk, hN, d7, eC, eA, eG, hm]
  rfl
 ·simp only [if_true]
  simp (disch := first|assumption|omega) only [S0,rA,rQ,rB,rT,rE, esp, impl_IsGroup, hg, d3, S_row, esp2, impl_msgWords, ei, esub, en, dk, hN, d7, eC, eA, eG, hm]
theorem spec_ReadMsg (n : Int) (s : List UInt8) (hs : s.length <= 1000000000) : Fun T 94 [i64 n, .str s] = some [i64 (readM n s).1.kind, i64 (readM n s).1.src, i64 (readM n s).1.dst, i64 (readM n s).1.rep, i64 (readM n s).1.no, i64 (readM n s).1.ballot, i64 (readM n s).1.vote, i64 (readM n s).1.state,
  i64 (readM n s).1.cmd.kind, i64 (readM n s).1.cmd.id, i64 (readM n s).1.cmd.src, i64 (readM n s).1.cmd.dst, i64 (readM n s).1.cmd.amt, i64 (readM n s).1.attr.seq, rL (readM n s).1.attr.deps, i64 (readM n s).2.1, .bool (readM n s).2.2] := by
 rw [Fun_k (t := tm94) rfl]; unfold tm94
 have esp : Fun T 95 [.str s, .int .u8 124] = some [rL (splitB 124 s)] := spec_l1Split s 124 hs
 have hsm : ∀ w ∈ splitB 124 s, w.length <= s.length := fun w hw => (splitB_mem hw).2
 unfold readM
 generalize splitB 124 s = ps at *
 unfold readMs
 cases hg : isGrp n
 ·simp only [Bool.not_false, Bool.true_or, if_true]
  simp (disch := first|assumption|omega) only [S0,rA,rQ,rB,rT,rE, esp, spec_IsGroup, hg]
  rfl
 cases d3 : (ps.length : Int) == 3
 ·simp only [Bool.not_true, Bool.not_false, Bool.or_true, if_true]
  simp (disch := first|assumption|omega) only [S0,rA,rQ,rB,rT,rE, esp, spec_IsGroup, hg, d3]
  rfl
 have hl3 : (ps.length : Int) = 3 := by simpa using d3
 have b0 : InB ps 0 := by unfold InB; omega
 have b1 : InB ps 1 := by unfold InB; omega
 have b2 : InB ps 2 := by unfold InB; omega
 have m0 := hsm _ (at_memI b0)
 have m1 := hsm _ (at_memI b1)
 have m2 := hsm _ (at_memI b2)
 have htm : ∀ w ∈ splitB 32 (atI ps 0), w.length <= 1000000000 := fun w hw => by have := (splitB_mem hw).2; omega
 have htl : (splitB 32 (atI ps 0)).length <= 1000000001 := by
  rw [splitB_len]
  have : (atI ps 0).count 32 <= (atI ps 0).length := List.count_le_length
  omega
 have hwn := splitB_ne 32 (atI ps 0)
 have esp2 : Fun T 95 [.str (atI ps 0), .int .u8 32] = some [rL (splitB 32 (atI ps 0))] := spec_l1Split (atI ps 0) 32 (by omega)
 obtain ⟨code, eC⟩ := spec_ReadCmd (atI ps 1) (by omega)
 have eA := spec_ReadAttr n (atI ps 2) (by omega)
 have lA := attrB_len (n := n) (s := atI ps 2)
 simp only [Bool.not_true, Bool.or_false, Bool.false_eq_true, if_false]
 generalize splitB 32 (atI ps 0) = ws at *
 have hl0 : 0 < ws.length := List.length_pos_iff.2 hwn
 have w0 : InB ws 0 := by unfold InB; omega
 have esub := sub_tail (ws := ws) (by omega)
 have hdr : ∀ w ∈ ws.drop 1, w.length <= 1000000000 := fun w hw => htm w (List.mem_of_mem_drop hw)
 have hdl := drop1_len (ws := ws)
 have hw8 : (wordsM.length : Int) = 8 := rfl
 have hlast := lastM_eq (atI ws 0)
 simp (disch := first|assumption|omega) only [S0,rA,rQ,rB,rT,rE, esp, spec_IsGroup, hg, d3, S_row, esp2, spec_l7Words, hw8]
 rw [whileE (.yield 1, [i64 (lastM (atI ws 0) 8)]) (fun i : Nat => 8 - i) (fun i : Nat => i <= 8) (fun i => [i64 (lastM (atI ws 0) i), i64 i]) 0 rfl (by simp) (by simp)]
 rotate_left
 ·intro i hi
  by_cases hlt : i < 8
  ·have d : decide ((i : Int) < 8) = true := by simp; omega
   have hb : InB wordsM (i : Int) := by unfold InB; omega
   refine .inl ⟨i + 1, ?_, by omega, by omega⟩
   have hls : lastM (atI ws 0) (i + 1) = if decide (0 < (i : Int)) && (atI wordsM (i : Int) == atI ws 0) then (i : Int) else lastM (atI ws 0) i := rfl
   rw [hls]
   cases d0 : decide (0 < (i : Int))
   ·simp only [Bool.false_and, Bool.false_eq_true, if_false]
    simp (disch := first|assumption|omega) only [S0,rA,rQ,rB,rT,rE, d, S_row, d0]
   ·cases dw : atI wordsM (i : Int) == atI ws 0
    ·simp only [Bool.and_false, Bool.false_eq_true, if_false]
     simp (disch := first|assumption|omega) only [S0,rA,rQ,rB,rT,rE, d, S_row, d0, t_eq, dw]
    ·simp only [Bool.and_true, if_true]
     simp (disch := first|assumption|omega) only [S0,rA,rQ,rB,rT,rE, d, S_row, d0, t_eq, dw]
  ·have d : decide ((i : Int) < 8) = false := by simp; omega
   have e8 : lastM (atI ws 0) i = lastM (atI ws 0) 8 := by rw [show i = 8 by omega]
   right
   simp (disch := first|assumption|omega) only [S0,rA,rQ,rB,rT,rE, d, e8]
 rw [hlast]
 have hk7 := kindM_rng (atI ws 0)
 generalize kindM (atI ws 0) = k at *
 cases dk : decide (k < 1)
 rotate_left
 ·have hk : ¬1 <= k := by simp only [decide_eq_true_eq] at dk; omega
  rw [if_neg hk]
  simp only [Bool.true_or, if_true]
  have d0 : ((0 : Int) == 0) = true := rfl
  simp (disch := first|assumption|omega) only [S0,rA,rQ,rB,rT,rE, d0]
  rfl
 have hk : 1 <= k := by simp only [decide_eq_false_iff_not] at dk; omega
 rw [if_pos hk]
 have dk0 : (k == 0) = false := by simp; omega
 cases d8 : ((ws.length : Nat) : Int) == 8
 ·simp only [Bool.not_false, Bool.or_true, if_true]
  simp (disch := first|assumption|omega) only [S0,rA,rQ,rB,rT,rE, dk0, d8]
  rfl
 have hl8 : (ws.length : Int) = 8 := by simpa using d8
 simp only [Bool.not_true, Bool.or_false, Bool.false_or]
 simp (disch := first|assumption|omega) only [S0,rA,rQ,rB,rT,rE, dk0, d8, esub]
 generalize ws.drop 1 = xs at *
 have hx7 : xs.length = 7 := by omega
 rw [whileE (if allNum 4 xs then (.yield 3, [rL (numsOf 6 xs)]) else (.ret, [i64 0, i64 0, i64 0, i64 0, i64 0, i64 0, i64 0, i64 0, i64 0, i64 0, i64 0, i64 0, i64 0, i64 0, rL ([] : List Int), i64 2, .bool false])) (fun i : Nat => xs.length - i) (fun i : Nat => i <= xs.length /\ allNum 4 (xs.take i) = true) (fun i => [rL (numsOf 6 (xs.take i)), i64 i]) 0 rfl (by simp [allNum]) (by split <;> simp)]
 rotate_left
 ·rintro i ⟨hi, hA⟩
  by_cases hlt : i < xs.length
  ·have d : decide ((i : Int) < (xs.length : Int)) = true := by simpa using hlt
   have hb : InB xs (i : Int) := InB_nat.2 hlt
   have e := spec_l1Read (atI xs (i : Int)) (hdr _ (at_mem hlt))
   have hl1 : (numsOf 6 (xs.take (i + 1))).length = i + 1 := by rw [numsOf_len, List.length_take]; omega
   have el : ((numsOf 6 (xs.take (i + 1))).length : Int) = (i : Int) + 1 := by omega
   have ex : (i : Int) + 1 - 1 = (i : Int) := by omega
   have hb2 : InB (numsOf 6 (xs.take (i + 1))) (i : Int) := by unfold InB; omega
   have z : (numsOf 6 (xs.take i)).length + ([digM (atI xs (i : Int)) 6] : List Int).length <= 100000000000 := by rw [numsOf_len, List.length_take]; simp only [List.length_cons, List.length_nil]; omega
   have e3 := (numsOf_succ (m := 6) hlt).symm
   have ea : atI (numsOf 6 (xs.take (i + 1))) (i : Int) = digM (atI xs (i : Int)) 6 := by
    rw [numsOf_at (by rw [List.length_take]; omega)]
    congr 1
    rw [atI_get (by rw [List.length_take]; omega), atI_get hlt, List.getElem_take]
   by_cases h4 : 4 < ((atI xs (i : Int)).length : Int)
   ·have d4 : decide (4 < ((atI xs (i : Int)).length : Int)) = true := by simpa using h4
    right
    rw [allNum_bad hlt (digM_long h4)]
    simp only [Bool.false_eq_true, if_false]
    simp (disch := first|assumption|omega) only [S0,rA,rQ,rB,rT,rE, d, S_row, e, S_mk, S_app, e3, el, ex, ea, t_slen, d4]
    rfl
   ·have d4 : decide (4 < ((atI xs (i : Int)).length : Int)) = false := by simpa using h4
    have e4 := digM_short (s := atI xs (i : Int)) (by omega)
    rcases (show digM (atI xs (i : Int)) 6 < 0 \/ 0 <= digM (atI xs (i : Int)) 6 by omega) with h0 | h0
    ·have d0 : decide (digM (atI xs (i : Int)) 6 < 0) = true := by simpa using h0
     right
     rw [allNum_bad hlt (by rw [e4]; exact h0)]
     simp only [Bool.false_eq_true, if_false]
     simp (disch := first|assumption|omega) only [S0,rA,rQ,rB,rT,rE, d, S_row, e, S_mk, S_app, e3, el, ex, ea, t_slen, d4, d0]
     rfl
    ·have d0 : decide (digM (atI xs (i : Int)) 6 < 0) = false := by simp; omega
     refine .inl ⟨i + 1, ?_, ⟨by omega, by rw [allNum_succ hlt, hA, e4, decide_eq_true h0]; rfl⟩, by omega⟩
     simp (disch := first|assumption|omega) only [S0,rA,rQ,rB,rT,rE, d, S_row, e, S_mk, S_app, e3, el, ex, ea, t_slen, d4, d0]
  ·have d : decide ((i : Int) < (xs.length : Int)) = false := by simpa using hlt
   obtain rfl : i = xs.length := by omega
   rw [List.take_of_length_le (Nat.le_refl _)] at hA ⊢
   right
   rw [hA]
   simp only [if_true]
   simp (disch := first|assumption|omega) only [S0,rA,rQ,rB,rT,rE, d]
 cases hA : allNum 4 xs
 ·simp only [Bool.not_false, Bool.false_eq_true, if_false, if_true]
  simp (disch := first|assumption|omega) only [S0,rA,rQ,rB,rT,rE]
  rfl
 simp only [Bool.not_true, Bool.false_eq_true, if_false, if_true]
 rw [numsOf_up hA (by decide)]
 have hnl : (numsOf 4 xs).length = 7 := by rw [numsOf_len]; exact hx7
 generalize numsOf 4 xs = ns at *
 generalize cmdB (atI ps 1) = cb at *
 generalize attrB n (atI ps 2) = ab at *
 obtain ⟨⟨ck, ci, cf, ct, ca⟩, co⟩ := cb
 obtain ⟨⟨sq, xs⟩, ao⟩ := ab
 simp only at eC eA lA
 cases co
 ·simp only [Bool.not_false, if_true]
  simp (disch := first|assumption|omega) only [S0,rA,rQ,rB,rT,rE, S_row, eC]
  rfl
 cases ao
 ·simp only [Bool.not_true, Bool.not_false, Bool.false_eq_true, if_false, if_true]
  simp (disch := first|assumption|omega) only [S0,rA,rQ,rB,rT,rE, S_row, eC, eA]
  rfl
 simp only [Bool.not_true, Bool.false_eq_true, if_false]
 have c0 : InB ns 0 := by unfold InB; omega
 have c1 : InB ns 1 := by unfold InB; omega
 have c2 : InB ns 2 := by unfold InB; omega
 have c3 : InB ns 3 := by unfold InB; omega
 have c4 : InB ns 4 := by unfold InB; omega
 have c5 : InB ns 5 := by unfold InB; omega
 have c6 : InB ns 6 := by unfold InB; omega
 have eG := spec_GoodMsg n k (atI ns 0) (atI ns 1) (atI ns 2) (atI ns 3) (atI ns 4) (atI ns 5) (atI ns 6) ck ci cf ct ca sq xs (by omega)
 unfold msgN
 cases hm : msgOk n ⟨k, atI ns 0, atI ns 1, atI ns 2, atI ns 3, atI ns 4, atI ns 5, atI ns 6, ⟨ck, ci, cf, ct, ca⟩, ⟨sq, xs⟩⟩
 ·simp only [Bool.false_eq_true, if_false]
  simp (disch := first|assumption|omega) only [S0,rA,rQ,rB,rT,rE, S_row, eC, eA, eG, hm]
  rfl
 ·simp only [if_true]
  simp (disch := first|assumption|omega) only [S0,rA,rQ,rB,rT,rE, S_row, eC, eA, eG, hm]
theorem strconv_FormatInt (n : Int) (h0 : 0 <= n) (h1 : n <= 9999) : Fun T 40 [i64 n, i64 10] = some [.str (numT n)] := by
 rw [Fun_ext (e := fmtE) rfl]
 exact fmtE_num h0 h1
theorem strconv_Itoa0 (n : Int) (h0 : 0 <= n) (h1 : n <= 9999) : Fun T 39 [i64 n] = some [.str (numT n)] := by
 rw [Fun_k (t := tm39) rfl]; unfold tm39
 simp (disch := first|assumption|omega) only [S0,rA,rQ,rB,rT,rE, strconv_FormatInt]
theorem strconv_Itoa (n : Int) (h0 : 0 <= n) (h1 : n <= 9999) : Fun T 38 [i64 n] = some [.str (numT n)] := by
 rw [Fun_k (t := tm38) rfl]; unfold tm38
 simp (disch := first|assumption|omega) only [S0,rA,rQ,rB,rT,rE, strconv_Itoa0]
theorem strings_Join (xs : List (List UInt8)) (b : UInt8) (hne : xs ≠ []) (hl : xs.length <= 100000) (hw : ∀ w ∈ xs, w.length <= 10000) : Fun T 43 [rL xs, .str [b]] = some [.str (joinB b xs)] := by
 rw [Fun_ext (e := joinE) rfl]
 exact joinE_B hne hl hw
theorem impl_joined (xs : List Int) (b : UInt8) (hne : xs ≠ []) (hl : xs.length <= 1000) (hr : ∀ x ∈ xs, 0 <= x /\ x <= 9999) : Fun T 37 [.str [b], rL xs] = some [.str (joinB b (xs.map numT))] := by
 rw [Fun_k (t := tm37) rfl]; unfold tm37
 have em0 : (Prim.mk 1 0).run [] = some [rL ([] : List (List UInt8))] := rfl
 simp (disch := first|assumption|omega) only [S0,rA,rQ,rB,rT,rE, em0]
 rw [whileE (.yield 1, [rL (xs.map numT)]) (fun i : Nat => xs.length - i) (fun i : Nat => i <= xs.length) (fun i => [rL ((xs.take i).map numT), i64 i]) 0 rfl (by simp) (by simp)]
 rotate_left
 ·intro i hi
  by_cases hlt : i < xs.length
  ·have d : decide ((i : Int) < (xs.length : Int)) = true := by simpa using hlt
   have hb : InB xs (i : Int) := InB_nat.2 hlt
   have hm := hr _ (at_mem hlt)
   have e := strconv_Itoa (atI xs (i : Int)) hm.1 hm.2
   have z : ((xs.take i).map numT).length + ([numT (atI xs (i : Int))] : List (List UInt8)).length <= 100000000000 := by rw [List.length_map, List.length_take]; simp only [List.length_cons, List.length_nil]; omega
   have e3 : (xs.take i).map numT ++ [numT (atI xs (i : Int))] = (xs.take (i + 1)).map numT := by
    rw [<- take_at hlt]
    simp
   refine .inl ⟨i + 1, ?_, by omega, by omega⟩
   simp (disch := first|assumption|omega) only [S0,rA,rQ,rB,rT,rE, d, S_row, e, S_mk, S_app, e3]
  ·have d : decide ((i : Int) < (xs.length : Int)) = false := by simpa using hlt
   obtain rfl : i = xs.length := by omega
   right
   rw [List.take_of_length_le (Nat.le_refl _)]
   simp (disch := first|assumption|omega) only [S0,rA,rQ,rB,rT,rE, d]
 ·have ej := strings_Join (xs.map numT) b (by simpa using hne) (by rw [List.length_map]; omega) (by
   intro w hw
   obtain ⟨x, h1, rfl⟩ := List.mem_map.1 hw
   exact numT_len (hr x h1).2)
  simp (disch := first|assumption|omega) only [S0,rA,rQ,rB,rT,rE, ej]
theorem impl_spelled (xs : List Int) (hne : xs ≠ []) (hl : xs.length <= 1000) (hr : ∀ x ∈ xs, 0 <= x /\ x <= 9999) : Fun T 36 [rL xs] = some [.str (joinB 32 (xs.map numT))] := by
 rw [Fun_k (t := tm36) rfl]; unfold tm36
 have e := impl_joined xs 32 hne hl hr
 simp (disch := first|assumption|omega) only [S0,rA,rQ,rB,rT,rE, e]
theorem impl_attrText (sq : Int) (xs : List Int) (hne : xs ≠ []) (h0 : 0 <= sq) (h1 : sq <= 9999) (hr : ∀ x ∈ xs, 0 <= x /\ x <= 9999) (hx : xs.length <= 1000) : Fun T 49 [i64 sq, rL xs] = some [.str (attrT ⟨sq, xs⟩)] /\ (attrT ⟨sq, xs⟩).length <= 20000000 := by
 have l1 := numT_len h1
 have l2 : (joinB 44 (xs.map numT)).length <= 10001 * xs.length := by
  have := joinB_len (b := 44) (ws := xs.map numT) (by
   intro w hw
   obtain ⟨x, h1, rfl⟩ := List.mem_map.1 hw
   exact numT_len (hr x h1).2)
  rwa [List.length_map] at this
 refine ⟨?_, by simp only [attrT, List.length_append, List.length_cons]; omega⟩
 rw [Fun_k (t := tm49) rfl]; unfold tm49
 have e := strconv_Itoa sq h0 h1
 have e2 := impl_joined xs 44 hne hx hr
 have g1 := t_add (a := numT sq) (b := [58]) (by simp only [List.length_cons, List.length_nil]; omega)
 have g2 := t_add (a := numT sq ++ [58]) (b := joinB 44 (xs.map numT)) (by simp only [List.length_append, List.length_cons, List.length_nil]; omega)
 have e3 : numT sq ++ [58] ++ joinB 44 (xs.map numT) = attrT ⟨sq, xs⟩ := by simp [attrT]
 simp (disch := first|assumption|omega) only [S0,rA,rQ,rB,rT,rE, e, g1, e2, g2, e3]
theorem impl_cmdText (k i f t a : Int) (h : cmdOk ⟨k, i, f, t, a⟩ = true) : Fun T 48 [i64 k, i64 i, i64 f, i64 t, i64 a] = some [.str (cmdT ⟨k, i, f, t, a⟩)] := by
 rw [Fun_k (t := tm48) rfl]; unfold tm48
 have hr := cmdOk_rng h
 simp only at hr
 obtain ⟨⟨i0, i1⟩, ⟨f0, f1⟩, ⟨t0, t1⟩, a0, a1⟩ := hr
 have li := numT_len i1
 have lf := numT_len f1
 have lt := numT_len t1
 have la := numT_len a1
 have hk := cmdOk_kind h
 simp only at hk
 unfold cmdT
 rcases hk with rfl | rfl | rfl
 ·simp (disch := first|assumption|omega) only [S0,rA,rQ,rB,rT,rE]
 ·have e := impl_spelled [i, f, t, a] (by simp) (by simp) (by
   intro x hx
   simp only [List.mem_cons, List.not_mem_nil, or_false] at hx
   omega)
  have g1 := t_add (a := [109, 111, 118, 101, 32]) (b := joinB 32 ([i, f, t, a].map numT)) (by simp only [List.map_cons, List.map_nil, joinB, List.length_append, List.length_cons, List.length_nil]; omega)
  have e3 : [109, 111, 118, 101, 32] ++ joinB 32 ([i, f, t, a].map numT) = [109, 111, 118, 101, 32] ++ numT i ++ [32] ++ numT f ++ [32] ++ numT t ++ [32] ++ numT a := by simp [joinB]
  simp (disch := first|assumption|omega) only [S0,rA,rQ,rB,rT,rE, S_mk, e, g1, e3]
 ·have e := impl_spelled [i, f] (by simp) (by simp) (by
   intro x hx
   simp only [List.mem_cons, List.not_mem_nil, or_false] at hx
   omega)
  have g1 := t_add (a := [114, 101, 97, 100, 32]) (b := joinB 32 ([i, f].map numT)) (by simp only [List.map_cons, List.map_nil, joinB, List.length_append, List.length_cons, List.length_nil]; omega)
  have e3 : [114, 101, 97, 100, 32] ++ joinB 32 ([i, f].map numT) = [114, 101, 97, 100, 32] ++ numT i ++ [32] ++ numT f := by simp [joinB]
  simp (disch := first|assumption|omega) only [S0,rA,rQ,rB,rT,rE, S_mk, e, g1, e3]
theorem impl_msgText (n kd src dst rep no bal vot sta k i f t a sq : Int) (xs : List Int) (h : msgOk n ⟨kd, src, dst, rep, no, bal, vot, sta, ⟨k, i, f, t, a⟩, ⟨sq, xs⟩⟩ = true) : Fun T 34 [i64 kd, i64 src, i64 dst, i64 rep, i64 no, i64 bal, i64 vot, i64 sta, i64 k, i64 i, i64 f, i64 t, i64 a, i64 sq, rL xs] = some [.str (msgT ⟨kd, src, dst, rep, no, bal, vot, sta, ⟨k, i, f, t, a⟩, ⟨sq, xs⟩⟩)] := by
 rw [Fun_k (t := tm34) rfl]; unfold tm34
 obtain ⟨hg, hk, hn, hc, ha⟩ := msgOk_rng h
 have hgr := isGrp_rng hg
 have h4 := attrOk_rng ha
 simp only at hk hc h4
 have hne : xs ≠ [] := by
  intro e
  rw [e] at h4
  simp only [List.length_nil] at h4
  omega
 have hb : InB wordsM kd := by
  have hl : wordsM.length = 8 := rfl
  unfold InB
  omega
 have hw := word_len hb
 have e0 := impl_spelled [src, dst, rep, no, bal, vot, sta] (by simp) (by simp) hn
 have ec := impl_cmdText k i f t a hc
 obtain ⟨ea, la⟩ := impl_attrText sq xs hne h4.1 (by omega) (fun x hx => ⟨(h4.2.2.2 x hx).1, by have := (h4.2.2.2 x hx).2; omega⟩) (by omega)
 have lc := cmdT_len hc
 have lA := joinB_len (b := 32) (ws := [src, dst, rep, no, bal, vot, sta].map numT) (by
  intro w hw
  obtain ⟨x, h1, rfl⟩ := List.mem_map.1 hw
  exact numT_len (hn x h1).2)
 have hjf := join_flat (xs := [src, dst, rep, no, bal, vot, sta]) (by simp)
 have hfin : atI wordsM kd ++ [32] ++ joinB 32 ([src, dst, rep, no, bal, vot, sta].map numT) ++ [124] ++ cmdT ⟨k, i, f, t, a⟩ ++ [124] ++ attrT ⟨sq, xs⟩ = msgT ⟨kd, src, dst, rep, no, bal, vot, sta, ⟨k, i, f, t, a⟩, ⟨sq, xs⟩⟩ := by
  unfold msgT msgNs
  rw [List.append_assoc (atI wordsM kd), hjf]
 have emk : (Prim.mk 1 7).run [i64 src, i64 dst, i64 rep, i64 no, i64 bal, i64 vot, i64 sta] = some [rL [src, dst, rep, no, bal, vot, sta]] := S_mk.2.2.2.2.2.1
 rw [List.length_map, show [src, dst, rep, no, bal, vot, sta].length = 7 from rfl] at lA
 generalize joinB 32 ([src, dst, rep, no, bal, vot, sta].map numT) = J at *
 generalize hW : atI wordsM kd = W at *
 have g0 := t_add (a := W) (b := [32]) (by simp only [List.length_cons, List.length_nil]; omega)
 have g1 := t_add (a := W ++ [32]) (b := J) (by simp only [List.length_append, List.length_cons, List.length_nil]; omega)
 have g2 := t_add (a := W ++ [32] ++ J) (b := [124]) (by simp only [List.length_append, List.length_cons, List.length_nil]; omega)
 have g3 := t_add (a := W ++ [32] ++ J ++ [124]) (b := cmdT ⟨k, i, f, t, a⟩) (by simp only [List.length_append, List.length_cons, List.length_nil]; omega)
 have g4 := t_add (a := W ++ [32] ++ J ++ [124] ++ cmdT ⟨k, i, f, t, a⟩) (b := [124]) (by simp only [List.length_append, List.length_cons, List.length_nil]; omega)
 have g5 := t_add (a := W ++ [32] ++ J ++ [124] ++ cmdT ⟨k, i, f, t, a⟩ ++ [124]) (b := attrT ⟨sq, xs⟩) (by simp only [List.length_append, List.length_cons, List.length_nil]; omega)
 simp (disch := first|assumption|omega) only [S0,rA,rQ,rB,rT,rE, impl_msgWords, S_row, hW, g0, emk, e0, g1, g2, ec, g3, g4, ea, g5, hfin]
theorem impl_MsgText (n kd src dst rep no bal vot sta k i f t a sq : Int) (xs : List Int) (hx : xs.length <= 10000000000) : Fun T 16 [i64 n, i64 kd, i64 src, i64 dst, i64 rep, i64 no, i64 bal, i64 vot, i64 sta, i64 k, i64 i, i64 f, i64 t, i64 a, i64 sq, rL xs] = some [.str (msgR n ⟨kd, src, dst, rep, no, bal, vot, sta, ⟨k, i, f, t, a⟩, ⟨sq, xs⟩⟩).1, .bool (msgR n ⟨kd, src, dst, rep, no, bal, vot, sta, ⟨k, i, f, t, a⟩, ⟨sq, xs⟩⟩).2] := by
 rw [Fun_k (t := tm16) rfl]; unfold tm16
 unfold msgR
 have eg := impl_GoodMsg n kd src dst rep no bal vot sta k i f t a sq xs hx
 cases h : msgOk n ⟨kd, src, dst, rep, no, bal, vot, sta, ⟨k, i, f, t, a⟩, ⟨sq, xs⟩⟩
 ·simp (disch := first|assumption|omega) only [S0,rA,rQ,rB,rT,rE, eg, h]
 ·have e := impl_msgText n kd src dst rep no bal vot sta k i f t a sq xs h
  simp (disch := first|assumption|omega) only [S0,rA,rQ,rB,rT,rE, eg, h, e]
theorem spec_MsgText (n kd src dst rep no bal vot sta k i f t a sq : Int) (xs : List Int) (hx : xs.length <= 10000000000) : Fun T 50 [i64 n, i64 kd, i64 src, i64 dst, i64 rep, i64 no, i64 bal, i64 vot, i64 sta, i64 k, i64 i, i64 f, i64 t, i64 a, i64 sq, rL xs] = some [.str (msgR n ⟨kd, src, dst, rep, no, bal, vot, sta, ⟨k, i, f, t, a⟩, ⟨sq, xs⟩⟩).1, .bool (msgR n ⟨kd, src, dst, rep, no, bal, vot, sta, ⟨k, i, f, t, a⟩, ⟨sq, xs⟩⟩).2] := by
 rw [Fun_k (t := tm50) rfl]; unfold tm50
 unfold msgR
 have eg := spec_GoodMsg n kd src dst rep no bal vot sta k i f t a sq xs hx
 cases h : msgOk n ⟨kd, src, dst, rep, no, bal, vot, sta, ⟨k, i, f, t, a⟩, ⟨sq, xs⟩⟩
 ·simp (disch := first|assumption|omega) only [S0,rA,rQ,rB,rT,rE, eg, h]
 obtain ⟨hg, hk, hn, hc, ha⟩ := msgOk_rng h
 have hgr := isGrp_rng hg
 have h4 := attrOk_rng ha
 simp only at hk hc h4
 have hb : InB wordsM kd := by
  have hl : wordsM.length = 8 := rfl
  unfold InB
  omega
 have hw := word_len hb
 have ec := spec_l2Text k i f t a hc
 obtain ⟨ea, la⟩ := spec_l3Text sq xs h4.1 (by omega) (fun x hx => ⟨(h4.2.2.2 x hx).1, by have := (h4.2.2.2 x hx).2; omega⟩) (by omega)
 have lc := cmdT_len hc
 have emk : (Prim.mk 1 7).run [i64 src, i64 dst, i64 rep, i64 no, i64 bal, i64 vot, i64 sta] = some [rL [src, dst, rep, no, bal, vot, sta]] := S_mk.2.2.2.2.2.1
 have hfin : atI wordsM kd ++ [src, dst, rep, no, bal, vot, sta].flatMap (fun x => 32 :: numT x) ++ [124] ++ cmdT ⟨k, i, f, t, a⟩ ++ [124] ++ attrT ⟨sq, xs⟩ = msgT ⟨kd, src, dst, rep, no, bal, vot, sta, ⟨k, i, f, t, a⟩, ⟨sq, xs⟩⟩ := rfl
 simp only [if_true]
 have hL : [src, dst, rep, no, bal, vot, sta].length = 7 := rfl
 change ∀ x ∈ [src, dst, rep, no, bal, vot, sta], _ at hn
 generalize [src, dst, rep, no, bal, vot, sta] = L at *
 generalize hW : atI wordsM kd = W at *
 simp (disch := first|assumption|omega) only [S0,rA,rQ,rB,rT,rE, eg, h, spec_l7Words, S_row, hW, emk]
 have hj : ∀ j : Nat, j <= L.length -> (W ++ (L.take j).flatMap (fun x => 32 :: numT x)).length <= 6 + 10001 * 7 := by
  intro j hj
  have := flat_len (xs := L.take j) (fun x hx => hn x (List.mem_of_mem_take hx))
  rw [List.length_take] at this
  rw [List.length_append]
  omega
 rw [whileE (.yield 1, [.str (W ++ L.flatMap (fun x => 32 :: numT x))]) (fun j : Nat => L.length - j) (fun j : Nat => j <= L.length) (fun j => [.str (W ++ (L.take j).flatMap (fun x => 32 :: numT x)), i64 j]) 0 (by simp [Atom.val]) (by simp) (by simp)]
 rotate_left
 ·intro j hjl
  by_cases hlt : j < L.length
  ·have d : decide ((j : Int) < (L.length : Int)) = true := by simpa using hlt
   have hb : InB L (j : Int) := InB_nat.2 hlt
   have hm := hn _ (at_mem hlt)
   have e := spec_l1NumT (atI L (j : Int)) hm.1 hm.2
   have l1 := numT_len hm.2
   have l2 := hj j hjl
   have e9 : ([32] ++ numT (atI L (j : Int))).length = (numT (atI L (j : Int))).length + 1 := by simp
   have g1 := t_add (a := [32]) (b := numT (atI L (j : Int))) (by simp only [List.length_cons, List.length_nil]; omega)
   have g2 := t_add (a := W ++ (L.take j).flatMap (fun x => 32 :: numT x)) (b := [32] ++ numT (atI L (j : Int))) (by omega)
   have e3 : W ++ (L.take j).flatMap (fun x => 32 :: numT x) ++ ([32] ++ numT (atI L (j : Int))) = W ++ (L.take (j + 1)).flatMap (fun x => 32 :: numT x) := by
    rw [<- take_at hlt]
    simp
   refine .inl ⟨j + 1, ?_, by omega, by omega⟩
   simp (disch := first|assumption|omega) only [S0,rA,rQ,rB,rT,rE, d, S_row, e, g1, g2, e3]
  ·have d : decide ((j : Int) < (L.length : Int)) = false := by simpa using hlt
   obtain rfl : j = L.length := by omega
   right
   rw [List.take_of_length_le (Nat.le_refl _)]
   simp (disch := first|assumption|omega) only [S0,rA,rQ,rB,rT,rE, d]
 ·have lF := hj L.length (Nat.le_refl _)
  rw [List.take_of_length_le (Nat.le_refl _)] at lF
  generalize W ++ L.flatMap (fun x => 32 :: numT x) = B at *
  have g1 := t_add (a := B) (b := [124]) (by simp only [List.length_cons, List.length_nil]; omega)
  have g2 := t_add (a := B ++ [124]) (b := cmdT ⟨k, i, f, t, a⟩) (by simp only [List.length_append, List.length_cons, List.length_nil]; omega)
  have g3 := t_add (a := B ++ [124] ++ cmdT ⟨k, i, f, t, a⟩) (b := [124]) (by simp only [List.length_append, List.length_cons, List.length_nil]; omega)
  have g4 := t_add (a := B ++ [124] ++ cmdT ⟨k, i, f, t, a⟩ ++ [124]) (b := attrT ⟨sq, xs⟩) (by simp only [List.length_append, List.length_cons, List.length_nil]; omega)
  simp (disch := first|assumption|omega) only [S0,rA,rQ,rB,rT,rE, g1, ec, g2, g3, ea, g4, hfin]
theorem laws_sameMsg (x y : TMsg) (hx : x.attr.deps.length <= 1099511627776) (hy : y.attr.deps.length <= 1099511627776) : Fun T 88 [i64 x.kind, i64 x.src, i64 x.dst, i64 x.rep, i64 x.no, i64 x.ballot, i64 x.vote, i64 x.state, i64 x.cmd.kind, i64 x.cmd.id, i64 x.cmd.src, i64 x.cmd.dst, i64 x.cmd.amt, i64 x.attr.seq, rL x.attr.deps, i64 y.kind, i64 y.src, i64 y.dst, i64 y.rep, i64 y.no, i64 y.ballot, i64 y.vote, i64 y.state, i64 y.cmd.kind, i64 y.cmd.id, i64 y.cmd.src, i64 y.cmd.dst, i64 y.cmd.amt, i64 y.attr.seq, rL y.attr.deps] = some [.bool (sameMq x y)] := by
 rw [Fun_k (t := tm88) rfl]; unfold tm88
 unfold sameMq
 (refine fork_in ?_; repeat' (refine fork_eq ?_ ?_<;>intro _<;>try simp (disch := first|assumption|omega) only [S0,rA,rQ,rB,rT,rE,S_eqs,same_attr, *]))
theorem impl_SameMsg (x y : TMsg) (hx : x.attr.deps.length <= 1099511627776) (hy : y.attr.deps.length <= 1099511627776) : Fun T 91 [i64 x.kind, i64 x.src, i64 x.dst, i64 x.rep, i64 x.no, i64 x.ballot, i64 x.vote, i64 x.state, i64 x.cmd.kind, i64 x.cmd.id, i64 x.cmd.src, i64 x.cmd.dst, i64 x.cmd.amt, i64 x.attr.seq, rL x.attr.deps, i64 y.kind, i64 y.src, i64 y.dst, i64 y.rep, i64 y.no, i64 y.ballot, i64 y.vote, i64 y.state, i64 y.cmd.kind, i64 y.cmd.id, i64 y.cmd.src, i64 y.cmd.dst, i64 y.cmd.amt, i64 y.attr.seq, rL y.attr.deps] = some [.bool (sameMq x y)] := by
 rw [Fun_k (t := tm91) rfl]; unfold tm91
 unfold sameMq
 (refine fork_in ?_; repeat' (refine fork_eq ?_ ?_<;>intro _<;>try simp (disch := first|assumption|omega) only [S0,rA,rQ,rB,rT,rE,S_eqs,impl_SameAttr, *]))
theorem spec_SameMsg (x y : TMsg) (hx : x.attr.deps.length <= 1099511627776) (hy : y.attr.deps.length <= 1099511627776) : Fun T 103 [i64 x.kind, i64 x.src, i64 x.dst, i64 x.rep, i64 x.no, i64 x.ballot, i64 x.vote, i64 x.state, i64 x.cmd.kind, i64 x.cmd.id, i64 x.cmd.src, i64 x.cmd.dst, i64 x.cmd.amt, i64 x.attr.seq, rL x.attr.deps, i64 y.kind, i64 y.src, i64 y.dst, i64 y.rep, i64 y.no, i64 y.ballot, i64 y.vote, i64 y.state, i64 y.cmd.kind, i64 y.cmd.id, i64 y.cmd.src, i64 y.cmd.dst, i64 y.cmd.amt, i64 y.attr.seq, rL y.attr.deps] = some [.bool (sameMq x y)] := by
 rw [Fun_k (t := tm103) rfl]; unfold tm103
 unfold sameMq
 (refine fork_in ?_; repeat' (refine fork_eq ?_ ?_<;>intro _<;>try simp (disch := first|assumption|omega) only [S0,rA,rQ,rB,rT,rE,S_eqs,spec_SameAttr, *]))
theorem cur_group (code : D) (hc : isBytes code) (a s : Int) (h0 : 0 <= a) (h1 : a <= 1152921504606846976) : ∃ v a' s', Fun T 4 [code, i64 a, u64 s] = some [i64 v, code, i64 a', u64 s'] /\ 0 <= v /\ v <= 5 /\ a <= a' /\ a' <= a + 2 := by
 rw [Fun_k (t := tm4) rfl]; unfold tm4
 obtain ⟨v, a', s', e, p, g, k⟩ := cur_among code hc [3, 3, 3, 5, 5, 4, 0] a s (by simp) (by simp) h0 (by omega)
 have z : (Prim.mk 1 7).run [i64 3, i64 3, i64 3, i64 5, i64 5, i64 4, i64 0] = some [rL ([3, 3, 3, 5, 5, 4, 0] : List Int)] := rfl
 simp only [List.mem_cons, List.not_mem_nil, or_false] at p
 simp (disch := first|assumption|omega) only [S0,rA,rQ,rB,rT,rE, z, e]
 exact ⟨_, _, _, rfl, by omega, by omega, g, k⟩
theorem cur_attr (code : D) (hc : isBytes code) (n a s : Int) (hn : 0 <= n) (hn2 : n <= 10) (h0 : 0 <= a) (h1 : a <= 576460752303423488) : ∃ (x : TAttr) (a' s' : Int), Fun T 13 [i64 n, code, i64 a, u64 s] = some [i64 x.seq, rL x.deps, code, i64 a', u64 s'] /\ x.deps.length <= 20 /\ a <= a' /\ a' <= a + 40 := by
 rw [Fun_k (t := tm13) rfl]; unfold tm13
 obtain ⟨v1, a4, s4, e1, p1, q1, g1, k1⟩ := cur_pick code hc 5 a s h0 (by omega)
 simp (disch := first|assumption|omega) only [S0,rA,rQ,rB,rT,rE, e1]
 generalize hE : Er T (Tm.loop _ _) _ = E
 have key : ∃ q, E = some q /\ ∃ (ds : List Int) (a' s' : Int), q = (.yield 1, [code, i64 a', u64 s', rL ds]) /\ (ds.length : Int) = n /\ a <= a' /\ a' <= a + 30 := by
  rw [<- hE]
  refine loopEx (γ := Nat × Int × Int × List Int) (fun c => n.toNat - c.1) (fun c => (c.1 : Int) <= n /\ c.2.2.2.length = c.1 /\ a4 <= c.2.1 /\ c.2.1 <= a4 + 2 * c.1) (fun c => [i64 c.1, code, i64 c.2.1, u64 c.2.2.1, rL c.2.2.2]) _ (0, a4, s4, []) rfl (by simp; omega) ?_
  rintro ⟨i, a5, s5, ds⟩ ⟨h2, h3, h4, h5⟩
  simp only at h2 h3 h4 h5
  by_cases hi : (i : Int) < n
  ·have d : decide ((i : Int) < n) = true := by simpa using hi
   obtain ⟨v6, a6, s6, e6, p6, q6, g6, k6⟩ := cur_pick code hc 4 a5 s5 (by omega) (by omega)
   have z : ds.length + ([v6] : List Int).length <= 100000000000 := by simp only [List.length_cons, List.length_nil]; omega
   refine .inl ⟨(i + 1, a6, s6, ds ++ [v6]), ?_, ⟨by simp only; omega, by simp [h3], by simp only; omega, by simp only; omega⟩, by simp only; omega⟩
   simp (disch := first|assumption|omega) only [S0,rA,rQ,rB,rT,rE, d, e6, S_mk, S_app]
  ·have d : decide ((i : Int) < n) = false := by simpa using hi
   refine .inr ⟨(.yield 1, [code, i64 a5, u64 s5, rL ds]), ?_, by simp, ds, a5, s5, rfl, by omega, by omega, by omega⟩
   simp (disch := first|assumption|omega) only [S0,rA,rQ,rB,rT,rE, d]
 obtain ⟨q, rfl, ds, a5, s5, rfl, h2, h3, h4⟩ := key
 obtain ⟨v6, a6, s6, e6, p6, q6, g6, k6⟩ := cur_pick code hc 30 a5 s5 (by omega) (by omega)
 cases c0 : v6 == 0
 rotate_left
 ·obtain ⟨v7, a7, s7, e7, p7, g7, k7⟩ := cur_among code hc [-1, 999, 1000] a6 s6 (by simp) (by simp) (by omega) (by omega)
  simp (disch := first|assumption|omega) only [S0,rA,rQ,rB,rT,rE, e6, c0, S_mk, e7]
  exact ⟨⟨v7, ds⟩, _, _, rfl, by simp only; omega, by omega, by omega⟩
 cases c1 : v6 == 1
 rotate_left
 ·by_cases hz : 0 < n
  ·have d : decide (0 < n) = true := by simpa using hz
   obtain ⟨v7, a7, s7, e7, p7, g7, k7⟩ := cur_among code hc [-1, 6, 7] a6 s6 (by simp) (by simp) (by omega) (by omega)
   have hb : InB ds 0 := by unfold InB; omega
   simp (disch := first|assumption|omega) only [S0,rA,rQ,rB,rT,rE, e6, c0, c1, d, S_mk, e7, S_set]
   exact ⟨⟨v1, setI ds 0 v7⟩, _, _, rfl, by simp only [setI_len]; omega, by omega, by omega⟩
  ·have d : decide (0 < n) = false := by simpa using hz
   simp (disch := first|assumption|omega) only [S0,rA,rQ,rB,rT,rE, e6, c0, c1, d]
   exact ⟨⟨v1, ds⟩, _, _, rfl, by simp only; omega, by omega, by omega⟩
 cases c2 : v6 == 2
 ·simp (disch := first|assumption|omega) only [S0,rA,rQ,rB,rT,rE, e6, c0, c1, c2]
  exact ⟨⟨v1, ds⟩, _, _, rfl, by simp only; omega, by omega, by omega⟩
 ·have z : ds.length + ([1] : List Int).length <= 100000000000 := by simp only [List.length_cons, List.length_nil]; omega
  simp (disch := first|assumption|omega) only [S0,rA,rQ,rB,rT,rE, e6, c0, c1, c2, S_mk, S_app]
  exact ⟨⟨v1, ds ++ [1]⟩, _, _, rfl, by simp only [List.length_append, List.length_cons, List.length_nil]; omega, by omega, by omega⟩
theorem cur_msg (code : D) (hc : isBytes code) (n a s : Int) (hn : 0 <= n) (hn2 : n <= 5) (h0 : 0 <= a) (h1 : a <= 100000000) : ∃ (m : TMsg) (a' s' : Int), Fun T 8 [i64 n, code, i64 a, u64 s] = some [i64 m.kind, i64 m.src, i64 m.dst, i64 m.rep, i64 m.no, i64 m.ballot, i64 m.vote, i64 m.state, i64 m.cmd.kind, i64 m.cmd.id, i64 m.cmd.src, i64 m.cmd.dst, i64 m.cmd.amt, i64 m.attr.seq, rL m.attr.deps, code, i64 a', u64 s'] /\ m.attr.deps.length <= 20 /\ a <= a' /\ a' <= a + 400 := by
 rw [Fun_k (t := tm8) rfl]; unfold tm8
 obtain ⟨v1, a1, s1, e1, p1, q1, g1, j1⟩ := cur_pick code hc 7 a s h0 (by omega)
 obtain ⟨v2, a2, s2, e2, p2, q2, g2, j2⟩ := cur_pick code hc 3 a1 s1 (by omega) (by omega)
 obtain ⟨v3, a3, s3, e3, p3, q3, g3, j3⟩ := cur_pick code hc 3 a2 s2 (by omega) (by omega)
 obtain ⟨v4, a4, s4, e4, p4, q4, g4, j4⟩ := cur_pick code hc 3 a3 s3 (by omega) (by omega)
 obtain ⟨v5, a5, s5, e5, p5, g5, j5⟩ := cur_among code hc [0, 0, 8, 9, 17] a4 s4 (by simp) (by simp) (by omega) (by omega)
 obtain ⟨v6, a6, s6, e6, p6, q6, g6, j6⟩ := cur_pick code hc 2 a5 s5 (by omega) (by omega)
 have q1' := q1 (by omega)
 have q2' := q2 (by omega)
 have q4' := q4 (by omega)
 have q6' := q6 (by omega)
 have em : Fun T 9 [i64 n, i64 0] = some [i64 n] := by
  rw [spec_l1Most, show max n 0 = n by omega]
 have e0 := spec_l3None_any n hn (by omega)
 have hl0 : (List.replicate n.toNat (0 : Int)).length <= 20 := by rw [List.length_replicate]; omega
 have er := run_rem' (a := v2 + 1 + v6) (b := 3) (by omega) (by omega)
 rcases (show v1 = 0 \/ v1 = 1 \/ v1 = 2 \/ v1 = 3 \/ v1 = 4 \/ v1 = 5 \/ v1 = 6 by omega) with rfl | rfl | rfl | rfl | rfl | rfl | rfl
 ·have k1 : ((1 + 0 : Int) == 1) = true := rfl
  have k3 : ((1 + 0 : Int) == 3) = false := rfl
  have k5 : ((1 + 0 : Int) == 5) = false := rfl
  have k2 : ((1 + 0 : Int) == 2) = false := rfl
  have k7 : ((1 + 0 : Int) == 7) = false := rfl
  obtain ⟨c, a7, s7, e7, -, -, g7, j7⟩ := cur_cmd code hc a6 s6 (by omega) (by omega)
  obtain ⟨x, a8, s8, e8, x1, g8, j8⟩ := cur_attr code hc n a7 s7 hn (by omega) (by omega) (by omega)
  obtain ⟨y, b1, r1, f1, y1, y2, y3, y4⟩ := cur_pick code hc 40 a8 s8 (by omega) (by omega)
  cases c0 : y == 0
  rotate_left
  ·simp (disch := first|assumption|omega) only [S0,rA,rQ,rB,rT,rE, e1, e2, e3, e4, S_mk, e5, em, e0, e6, er, k1, k3, k5, k2, k7, e7, e8, f1, c0]
   exact ⟨⟨_, _, _, _, _, _, _, _, ⟨_, _, _, _, _⟩, ⟨_, _⟩⟩, _, _, rfl, by first | assumption | (simp only; omega), by omega, by omega⟩
  cases c1 : y == 1
  rotate_left
  ·obtain ⟨z, b2, r2, f2, z1, z2, z3, z4⟩ := cur_pick code hc 5 b1 r1 (by omega) (by omega)
   simp (disch := first|assumption|omega) only [S0,rA,rQ,rB,rT,rE, e1, e2, e3, e4, S_mk, e5, em, e0, e6, er, k1, k3, k5, k2, k7, e7, e8, f1, c0, c1, f2]
   exact ⟨⟨_, _, _, _, _, _, _, _, ⟨_, _, _, _, _⟩, ⟨_, _⟩⟩, _, _, rfl, by first | assumption | (simp only; omega), by omega, by omega⟩
  cases c2 : y == 2
  ·simp (disch := first|assumption|omega) only [S0,rA,rQ,rB,rT,rE, e1, e2, e3, e4, S_mk, e5, em, e0, e6, er, k1, k3, k5, k2, k7, e7, e8, f1, c0, c1, c2]
   exact ⟨⟨_, _, _, _, _, _, _, _, ⟨_, _, _, _, _⟩, ⟨_, _⟩⟩, _, _, rfl, by first | assumption | (simp only; omega), by omega, by omega⟩
  ·obtain ⟨z, b2, r2, f2, z3, z4⟩ := cur_anyCmd code hc b1 r1 (by omega) (by omega)
   simp (disch := first|assumption|omega) only [S0,rA,rQ,rB,rT,rE, e1, e2, e3, e4, S_mk, e5, em, e0, e6, er, k1, k3, k5, k2, k7, e7, e8, f1, c0, c1, c2, f2]
   exact ⟨⟨_, _, _, _, _, _, _, _, ⟨_, _, _, _, _⟩, ⟨_, _⟩⟩, _, _, rfl, by first | assumption | (simp only; omega), by omega, by omega⟩
 ·have k1 : ((1 + 1 : Int) == 1) = false := rfl
  have k3 : ((1 + 1 : Int) == 3) = false := rfl
  have k5 : ((1 + 1 : Int) == 5) = false := rfl
  have k2 : ((1 + 1 : Int) == 2) = true := rfl
  have k7 : ((1 + 1 : Int) == 7) = false := rfl
  obtain ⟨x, a8, s8, e8, x1, g8, j8⟩ := cur_attr code hc n a6 s6 hn (by omega) (by omega) (by omega)
  obtain ⟨y, b1, r1, f1, y1, y2, y3, y4⟩ := cur_pick code hc 40 a8 s8 (by omega) (by omega)
  cases c0 : y == 0
  rotate_left
  ·simp (disch := first|assumption|omega) only [S0,rA,rQ,rB,rT,rE, e1, e2, e3, e4, S_mk, e5, em, e0, e6, er, k1, k3, k5, k2, k7, e8, f1, c0]
   exact ⟨⟨_, _, _, _, _, _, _, _, ⟨_, _, _, _, _⟩, ⟨_, _⟩⟩, _, _, rfl, by first | assumption | (simp only; omega), by omega, by omega⟩
  cases c1 : y == 1
  rotate_left
  ·obtain ⟨z, b2, r2, f2, z1, z2, z3, z4⟩ := cur_pick code hc 5 b1 r1 (by omega) (by omega)
   simp (disch := first|assumption|omega) only [S0,rA,rQ,rB,rT,rE, e1, e2, e3, e4, S_mk, e5, em, e0, e6, er, k1, k3, k5, k2, k7, e8, f1, c0, c1, f2]
   exact ⟨⟨_, _, _, _, _, _, _, _, ⟨_, _, _, _, _⟩, ⟨_, _⟩⟩, _, _, rfl, by first | assumption | (simp only; omega), by omega, by omega⟩
  cases c2 : y == 2
  ·simp (disch := first|assumption|omega) only [S0,rA,rQ,rB,rT,rE, e1, e2, e3, e4, S_mk, e5, em, e0, e6, er, k1, k3, k5, k2, k7, e8, f1, c0, c1, c2]
   exact ⟨⟨_, _, _, _, _, _, _, _, ⟨_, _, _, _, _⟩, ⟨_, _⟩⟩, _, _, rfl, by first | assumption | (simp only; omega), by omega, by omega⟩
  ·obtain ⟨z, b2, r2, f2, z3, z4⟩ := cur_anyCmd code hc b1 r1 (by omega) (by omega)
   simp (disch := first|assumption|omega) only [S0,rA,rQ,rB,rT,rE, e1, e2, e3, e4, S_mk, e5, em, e0, e6, er, k1, k3, k5, k2, k7, e8, f1, c0, c1, c2, f2]
   exact ⟨⟨_, _, _, _, _, _, _, _, ⟨_, _, _, _, _⟩, ⟨_, _⟩⟩, _, _, rfl, by first | assumption | (simp only; omega), by omega, by omega⟩
 ·have k1 : ((1 + 2 : Int) == 1) = false := rfl
  have k3 : ((1 + 2 : Int) == 3) = true := rfl
  have k5 : ((1 + 2 : Int) == 5) = false := rfl
  have k2 : ((1 + 2 : Int) == 2) = false := rfl
  have k7 : ((1 + 2 : Int) == 7) = false := rfl
  obtain ⟨c, a7, s7, e7, -, -, g7, j7⟩ := cur_cmd code hc a6 s6 (by omega) (by omega)
  obtain ⟨x, a8, s8, e8, x1, g8, j8⟩ := cur_attr code hc n a7 s7 hn (by omega) (by omega) (by omega)
  obtain ⟨y, b1, r1, f1, y1, y2, y3, y4⟩ := cur_pick code hc 40 a8 s8 (by omega) (by omega)
  cases c0 : y == 0
  rotate_left
  ·simp (disch := first|assumption|omega) only [S0,rA,rQ,rB,rT,rE, e1, e2, e3, e4, S_mk, e5, em, e0, e6, er, k1, k3, k5, k2, k7, e7, e8, f1, c0]
   exact ⟨⟨_, _, _, _, _, _, _, _, ⟨_, _, _, _, _⟩, ⟨_, _⟩⟩, _, _, rfl, by first | assumption | (simp only; omega), by omega, by omega⟩
  cases c1 : y == 1
  rotate_left
  ·obtain ⟨z, b2, r2, f2, z1, z2, z3, z4⟩ := cur_pick code hc 5 b1 r1 (by omega) (by omega)
   simp (disch := first|assumption|omega) only [S0,rA,rQ,rB,rT,rE, e1, e2, e3, e4, S_mk, e5, em, e0, e6, er, k1, k3, k5, k2, k7, e7, e8, f1, c0, c1, f2]
   exact ⟨⟨_, _, _, _, _, _, _, _, ⟨_, _, _, _, _⟩, ⟨_, _⟩⟩, _, _, rfl, by first | assumption | (simp only; omega), by omega, by omega⟩
  cases c2 : y == 2
  ·simp (disch := first|assumption|omega) only [S0,rA,rQ,rB,rT,rE, e1, e2, e3, e4, S_mk, e5, em, e0, e6, er, k1, k3, k5, k2, k7, e7, e8, f1, c0, c1, c2]
   exact ⟨⟨_, _, _, _, _, _, _, _, ⟨_, _, _, _, _⟩, ⟨_, _⟩⟩, _, _, rfl, by first | assumption | (simp only; omega), by omega, by omega⟩
  ·obtain ⟨z, b2, r2, f2, z3, z4⟩ := cur_anyCmd code hc b1 r1 (by omega) (by omega)
   simp (disch := first|assumption|omega) only [S0,rA,rQ,rB,rT,rE, e1, e2, e3, e4, S_mk, e5, em, e0, e6, er, k1, k3, k5, k2, k7, e7, e8, f1, c0, c1, c2, f2]
   exact ⟨⟨_, _, _, _, _, _, _, _, ⟨_, _, _, _, _⟩, ⟨_, _⟩⟩, _, _, rfl, by first | assumption | (simp only; omega), by omega, by omega⟩
 ·have k1 : ((1 + 3 : Int) == 1) = false := rfl
  have k3 : ((1 + 3 : Int) == 3) = false := rfl
  have k5 : ((1 + 3 : Int) == 5) = false := rfl
  have k2 : ((1 + 3 : Int) == 2) = false := rfl
  have k7 : ((1 + 3 : Int) == 7) = false := rfl
  obtain ⟨y, b1, r1, f1, y1, y2, y3, y4⟩ := cur_pick code hc 40 a6 s6 (by omega) (by omega)
  cases c0 : y == 0
  rotate_left
  ·simp (disch := first|assumption|omega) only [S0,rA,rQ,rB,rT,rE, e1, e2, e3, e4, S_mk, e5, em, e0, e6, er, k1, k3, k5, k2, k7, f1, c0]
   exact ⟨⟨_, _, _, _, _, _, _, _, ⟨_, _, _, _, _⟩, ⟨_, _⟩⟩, _, _, rfl, by first | assumption | (simp only; omega), by omega, by omega⟩
  cases c1 : y == 1
  rotate_left
  ·obtain ⟨z, b2, r2, f2, z1, z2, z3, z4⟩ := cur_pick code hc 5 b1 r1 (by omega) (by omega)
   simp (disch := first|assumption|omega) only [S0,rA,rQ,rB,rT,rE, e1, e2, e3, e4, S_mk, e5, em, e0, e6, er, k1, k3, k5, k2, k7, f1, c0, c1, f2]
   exact ⟨⟨_, _, _, _, _, _, _, _, ⟨_, _, _, _, _⟩, ⟨_, _⟩⟩, _, _, rfl, by first | assumption | (simp only; omega), by omega, by omega⟩
  cases c2 : y == 2
  ·simp (disch := first|assumption|omega) only [S0,rA,rQ,rB,rT,rE, e1, e2, e3, e4, S_mk, e5, em, e0, e6, er, k1, k3, k5, k2, k7, f1, c0, c1, c2]
   exact ⟨⟨_, _, _, _, _, _, _, _, ⟨_, _, _, _, _⟩, ⟨_, _⟩⟩, _, _, rfl, by first | assumption | (simp only; omega), by omega, by omega⟩
  ·obtain ⟨z, b2, r2, f2, z3, z4⟩ := cur_anyCmd code hc b1 r1 (by omega) (by omega)
   simp (disch := first|assumption|omega) only [S0,rA,rQ,rB,rT,rE, e1, e2, e3, e4, S_mk, e5, em, e0, e6, er, k1, k3, k5, k2, k7, f1, c0, c1, c2, f2]
   exact ⟨⟨_, _, _, _, _, _, _, _, ⟨_, _, _, _, _⟩, ⟨_, _⟩⟩, _, _, rfl, by first | assumption | (simp only; omega), by omega, by omega⟩
 ·have k1 : ((1 + 4 : Int) == 1) = false := rfl
  have k3 : ((1 + 4 : Int) == 3) = false := rfl
  have k5 : ((1 + 4 : Int) == 5) = true := rfl
  have k2 : ((1 + 4 : Int) == 2) = false := rfl
  have k7 : ((1 + 4 : Int) == 7) = false := rfl
  obtain ⟨c, a7, s7, e7, -, -, g7, j7⟩ := cur_cmd code hc a6 s6 (by omega) (by omega)
  obtain ⟨x, a8, s8, e8, x1, g8, j8⟩ := cur_attr code hc n a7 s7 hn (by omega) (by omega) (by omega)
  obtain ⟨y, b1, r1, f1, y1, y2, y3, y4⟩ := cur_pick code hc 40 a8 s8 (by omega) (by omega)
  cases c0 : y == 0
  rotate_left
  ·simp (disch := first|assumption|omega) only [S0,rA,rQ,rB,rT,rE, e1, e2, e3, e4, S_mk, e5, em, e0, e6, er, k1, k3, k5, k2, k7, e7, e8, f1, c0]
   exact ⟨⟨_, _, _, _, _, _, _, _, ⟨_, _, _, _, _⟩, ⟨_, _⟩⟩, _, _, rfl, by first | assumption | (simp only; omega), by omega, by omega⟩
  cases c1 : y == 1
  rotate_left
  ·obtain ⟨z, b2, r2, f2, z1, z2, z3, z4⟩ := cur_pick code hc 5 b1 r1 (by omega) (by omega)
   simp (disch := first|assumption|omega) only [S0,rA,rQ,rB,rT,rE, e1, e2, e3, e4, S_mk, e5, em, e0, e6, er, k1, k3, k5, k2, k7, e7, e8, f1, c0, c1, f2]
   exact ⟨⟨_, _, _, _, _, _, _, _, ⟨_, _, _, _, _⟩, ⟨_, _⟩⟩, _, _, rfl, by first | assumption | (simp only; omega), by omega, by omega⟩
  cases c2 : y == 2
  ·simp (disch := first|assumption|omega) only [S0,rA,rQ,rB,rT,rE, e1, e2, e3, e4, S_mk, e5, em, e0, e6, er, k1, k3, k5, k2, k7, e7, e8, f1, c0, c1, c2]
   exact ⟨⟨_, _, _, _, _, _, _, _, ⟨_, _, _, _, _⟩, ⟨_, _⟩⟩, _, _, rfl, by first | assumption | (simp only; omega), by omega, by omega⟩
  ·obtain ⟨z, b2, r2, f2, z3, z4⟩ := cur_anyCmd code hc b1 r1 (by omega) (by omega)
   simp (disch := first|assumption|omega) only [S0,rA,rQ,rB,rT,rE, e1, e2, e3, e4, S_mk, e5, em, e0, e6, er, k1, k3, k5, k2, k7, e7, e8, f1, c0, c1, c2, f2]
   exact ⟨⟨_, _, _, _, _, _, _, _, ⟨_, _, _, _, _⟩, ⟨_, _⟩⟩, _, _, rfl, by first | assumption | (simp only; omega), by omega, by omega⟩
 ·have k1 : ((1 + 5 : Int) == 1) = false := rfl
  have k3 : ((1 + 5 : Int) == 3) = false := rfl
  have k5 : ((1 + 5 : Int) == 5) = false := rfl
  have k2 : ((1 + 5 : Int) == 2) = false := rfl
  have k7 : ((1 + 5 : Int) == 7) = false := rfl
  obtain ⟨y, b1, r1, f1, y1, y2, y3, y4⟩ := cur_pick code hc 40 a6 s6 (by omega) (by omega)
  cases c0 : y == 0
  rotate_left
  ·simp (disch := first|assumption|omega) only [S0,rA,rQ,rB,rT,rE, e1, e2, e3, e4, S_mk, e5, em, e0, e6, er, k1, k3, k5, k2, k7, f1, c0]
   exact ⟨⟨_, _, _, _, _, _, _, _, ⟨_, _, _, _, _⟩, ⟨_, _⟩⟩, _, _, rfl, by first | assumption | (simp only; omega), by omega, by omega⟩
  cases c1 : y == 1
  rotate_left
  ·obtain ⟨z, b2, r2, f2, z1, z2, z3, z4⟩ := cur_pick code hc 5 b1 r1 (by omega) (by omega)
   simp (disch := first|assumption|omega) only [S0,rA,rQ,rB,rT,rE, e1, e2, e3, e4, S_mk, e5, em, e0, e6, er, k1, k3, k5, k2, k7, f1, c0, c1, f2]
   exact ⟨⟨_, _, _, _, _, _, _, _, ⟨_, _, _, _, _⟩, ⟨_, _⟩⟩, _, _, rfl, by first | assumption | (simp only; omega), by omega, by omega⟩
  cases c2 : y == 2
  ·simp (disch := first|assumption|omega) only [S0,rA,rQ,rB,rT,rE, e1, e2, e3, e4, S_mk, e5, em, e0, e6, er, k1, k3, k5, k2, k7, f1, c0, c1, c2]
   exact ⟨⟨_, _, _, _, _, _, _, _, ⟨_, _, _, _, _⟩, ⟨_, _⟩⟩, _, _, rfl, by first | assumption | (simp only; omega), by omega, by omega⟩
  ·obtain ⟨z, b2, r2, f2, z3, z4⟩ := cur_anyCmd code hc b1 r1 (by omega) (by omega)
   simp (disch := first|assumption|omega) only [S0,rA,rQ,rB,rT,rE, e1, e2, e3, e4, S_mk, e5, em, e0, e6, er, k1, k3, k5, k2, k7, f1, c0, c1, c2, f2]
   exact ⟨⟨_, _, _, _, _, _, _, _, ⟨_, _, _, _, _⟩, ⟨_, _⟩⟩, _, _, rfl, by first | assumption | (simp only; omega), by omega, by omega⟩
 ·have k1 : ((1 + 6 : Int) == 1) = false := rfl
  have k3 : ((1 + 6 : Int) == 3) = false := rfl
  have k5 : ((1 + 6 : Int) == 5) = false := rfl
  have k2 : ((1 + 6 : Int) == 2) = false := rfl
  have k7 : ((1 + 6 : Int) == 7) = true := rfl
  obtain ⟨x, a8, s8, e8, x1, g8, j8⟩ := cur_row code hc n a6 s6 hn (by omega) (by omega) (by omega)
  have x2 : x.attr.deps.length <= 20 := by omega
  cases st : x.state == 3
  ·obtain ⟨y, b1, r1, f1, y1, y2, y3, y4⟩ := cur_pick code hc 40 a8 s8 (by omega) (by omega)
   cases c0 : y == 0
   rotate_left
   ·simp (disch := first|assumption|omega) only [S0,rA,rQ,rB,rT,rE, e1, e2, e3, e4, S_mk, e5, em, e0, e6, er, k1, k3, k5, k2, k7, e8, st, f1, c0]
    exact ⟨⟨_, _, _, _, _, _, _, _, ⟨_, _, _, _, _⟩, ⟨_, _⟩⟩, _, _, rfl, by first | assumption | (simp only; omega), by omega, by omega⟩
   cases c1 : y == 1
   rotate_left
   ·obtain ⟨z, b2, r2, f2, z1, z2, z3, z4⟩ := cur_pick code hc 5 b1 r1 (by omega) (by omega)
    simp (disch := first|assumption|omega) only [S0,rA,rQ,rB,rT,rE, e1, e2, e3, e4, S_mk, e5, em, e0, e6, er, k1, k3, k5, k2, k7, e8, st, f1, c0, c1, f2]
    exact ⟨⟨_, _, _, _, _, _, _, _, ⟨_, _, _, _, _⟩, ⟨_, _⟩⟩, _, _, rfl, by first | assumption | (simp only; omega), by omega, by omega⟩
   cases c2 : y == 2
   ·simp (disch := first|assumption|omega) only [S0,rA,rQ,rB,rT,rE, e1, e2, e3, e4, S_mk, e5, em, e0, e6, er, k1, k3, k5, k2, k7, e8, st, f1, c0, c1, c2]
    exact ⟨⟨_, _, _, _, _, _, _, _, ⟨_, _, _, _, _⟩, ⟨_, _⟩⟩, _, _, rfl, by first | assumption | (simp only; omega), by omega, by omega⟩
   ·obtain ⟨z, b2, r2, f2, z3, z4⟩ := cur_anyCmd code hc b1 r1 (by omega) (by omega)
    simp (disch := first|assumption|omega) only [S0,rA,rQ,rB,rT,rE, e1, e2, e3, e4, S_mk, e5, em, e0, e6, er, k1, k3, k5, k2, k7, e8, st, f1, c0, c1, c2, f2]
    exact ⟨⟨_, _, _, _, _, _, _, _, ⟨_, _, _, _, _⟩, ⟨_, _⟩⟩, _, _, rfl, by first | assumption | (simp only; omega), by omega, by omega⟩
  ·obtain ⟨y, b1, r1, f1, y1, y2, y3, y4⟩ := cur_pick code hc 40 a8 s8 (by omega) (by omega)
   cases c0 : y == 0
   rotate_left
   ·simp (disch := first|assumption|omega) only [S0,rA,rQ,rB,rT,rE, e1, e2, e3, e4, S_mk, e5, em, e0, e6, er, k1, k3, k5, k2, k7, e8, st, f1, c0]
    exact ⟨⟨_, _, _, _, _, _, _, _, ⟨_, _, _, _, _⟩, ⟨_, _⟩⟩, _, _, rfl, by first | assumption | (simp only; omega), by omega, by omega⟩
   cases c1 : y == 1
   rotate_left
   ·obtain ⟨z, b2, r2, f2, z1, z2, z3, z4⟩ := cur_pick code hc 5 b1 r1 (by omega) (by omega)
    simp (disch := first|assumption|omega) only [S0,rA,rQ,rB,rT,rE, e1, e2, e3, e4, S_mk, e5, em, e0, e6, er, k1, k3, k5, k2, k7, e8, st, f1, c0, c1, f2]
    exact ⟨⟨_, _, _, _, _, _, _, _, ⟨_, _, _, _, _⟩, ⟨_, _⟩⟩, _, _, rfl, by first | assumption | (simp only; omega), by omega, by omega⟩
   cases c2 : y == 2
   ·simp (disch := first|assumption|omega) only [S0,rA,rQ,rB,rT,rE, e1, e2, e3, e4, S_mk, e5, em, e0, e6, er, k1, k3, k5, k2, k7, e8, st, f1, c0, c1, c2]
    exact ⟨⟨_, _, _, _, _, _, _, _, ⟨_, _, _, _, _⟩, ⟨_, _⟩⟩, _, _, rfl, by first | assumption | (simp only; omega), by omega, by omega⟩
   ·obtain ⟨z, b2, r2, f2, z3, z4⟩ := cur_anyCmd code hc b1 r1 (by omega) (by omega)
    simp (disch := first|assumption|omega) only [S0,rA,rQ,rB,rT,rE, e1, e2, e3, e4, S_mk, e5, em, e0, e6, er, k1, k3, k5, k2, k7, e8, st, f1, c0, c1, c2, f2]
    exact ⟨⟨_, _, _, _, _, _, _, _, ⟨_, _, _, _, _⟩, ⟨_, _⟩⟩, _, _, rfl, by first | assumption | (simp only; omega), by omega, by omega⟩
theorem drawGoodMsg (code : D) (hc : isBytes code) : ∃ (n : Int) (m : TMsg), Fun T 3 [code] = some [i64 n, i64 m.kind, i64 m.src, i64 m.dst, i64 m.rep, i64 m.no, i64 m.ballot, i64 m.vote, i64 m.state, i64 m.cmd.kind, i64 m.cmd.id, i64 m.cmd.src, i64 m.cmd.dst, i64 m.cmd.amt, i64 m.attr.seq, rL m.attr.deps] /\ m.attr.deps.length <= 20 := by
 rw [Fun_k (t := tm3) rfl]; unfold tm3
 obtain ⟨n, a1, s1, e1, p1, q1, g1, j1⟩ := cur_group code hc 0 0 (by omega) (by omega)
 have u0 : D.int .u64 0 = u64 0 := rfl
 obtain ⟨m, a2, s2, e2, h, g2, j2⟩ := cur_msg code hc n a1 s1 p1 q1 (by omega) (by omega)
 simp (disch := first|assumption|omega) only [S0,rA,rQ,rB,rT,rE, e1, e2, u0]
 exact ⟨n, m, rfl, h⟩
theorem drawMsgText (code : D) (hc : isBytes code) : ∃ (n : Int) (m : TMsg), Fun T 2 [code] = some [i64 n, i64 m.kind, i64 m.src, i64 m.dst, i64 m.rep, i64 m.no, i64 m.ballot, i64 m.vote, i64 m.state, i64 m.cmd.kind, i64 m.cmd.id, i64 m.cmd.src, i64 m.cmd.dst, i64 m.cmd.amt, i64 m.attr.seq, rL m.attr.deps] /\ m.attr.deps.length <= 20 := by
 rw [Fun_k (t := tm2) rfl]; unfold tm2
 obtain ⟨n, m, e, h⟩ := drawGoodMsg code hc
 simp (disch := first|assumption|omega) only [S0,rA,rQ,rB,rT,rE, e]
 exact ⟨n, m, rfl, h⟩
theorem cur_spoilt (code : D) (hc : isBytes code) (x y : List UInt8) (a s : Int) (hx : x.length <= 1000000) (hy : y.length = 7) (h0 : 0 <= a) (h1 : a <= 100000000) : ∃ (z : List UInt8) (a' s' : Int), Fun T 93 [.str x, .str y, code, i64 a, u64 s] = some [.str z, code, i64 a', u64 s'] /\ z.length <= x.length + 2 /\ a <= a' /\ a' <= a + 100 := by
 rw [Fun_k (t := tm93) rfl]; unfold tm93
 obtain ⟨v1, a1, s1, e1, p1, q1, g1, j1⟩ := cur_pick code hc 2 a s h0 (by omega)
 have q1' := q1 (by omega)
 simp (disch := first|assumption|omega) only [S0,rA,rQ,rB,rT,rE, e1]
 generalize hE : Er T (Tm.loop _ _) _ = E
 have key : ∃ q, E = some q /\ ∃ (z : List UInt8) (a' s' : Int), q = (.yield 1, [.str z, code, i64 a', u64 s']) /\ z.length <= x.length + 2 /\ a <= a' /\ a' <= a + 100 := by
  rw [<- hE]
  refine loopEx (γ := Nat × List UInt8 × Int × Int) (fun c => c.1) (fun c => c.1 <= 2 /\ c.2.1.length + c.1 <= x.length + 2 /\ a <= c.2.2.1 /\ c.2.2.1 + 10 * c.1 <= a + 22) (fun c => [.str c.2.1, i64 c.1, code, i64 c.2.2.1, u64 c.2.2.2]) _ ((1 + v1).toNat, x, a1, s1) (by rw [show (((1 + v1).toNat : Nat) : Int) = 1 + v1 by omega]; rfl) (by simp only; omega) ?_
  rintro ⟨k, t, a2, s2⟩ ⟨h2, h3, h4, h5⟩
  simp only at h2 h3 h4 h5
  by_cases hk : 0 < k
  rotate_left
  ·have d : decide (0 < (k : Int)) = false := by simpa using hk
   refine .inr ⟨(.yield 1, [.str t, code, i64 a2, u64 s2]), ?_, by simp, t, a2, s2, rfl, by omega, by omega, by omega⟩
   simp (disch := first|assumption|omega) only [S0,rA,rQ,rB,rT,rE, d]
  have d : decide (0 < (k : Int)) = true := by simpa using hk
  by_cases hz : 0 < (t.length : Int)
  rotate_left
  ·have d2 : decide (0 < (t.length : Int)) = false := by simpa using hz
   refine .inr ⟨(.yield 1, [.str t, code, i64 a2, u64 s2]), ?_, by simp, t, a2, s2, rfl, by omega, by omega, by omega⟩
   simp (disch := first|assumption|omega) only [S0,rA,rQ,rB,rT,rE, d, t_slen, d2]
  have d2 : decide (0 < (t.length : Int)) = true := by simpa using hz
  obtain ⟨v3, a3, s3, e3, p3, q3, g3, j3⟩ := cur_pick code hc t.length a2 s2 (by omega) (by omega)
  obtain ⟨v4, a4, s4, e4, p4, q4, g4, j4⟩ := cur_pick code hc y.length a3 s3 (by omega) (by omega)
  obtain ⟨v5, a5, s5, e5, p5, q5, g5, j5⟩ := cur_pick code hc 3 a4 s4 (by omega) (by omega)
  have q3' := q3 (by omega)
  have q4' := q4 (by omega)
  have ei := t_sidx (s := y) (k := v4) (by omega) (by omega)
  have ek : (Prim.mk 1 1).run [u8 (atI y v4)] = some [.rows 1 [[u8 (atI y v4)]]] := rfl
  have eb : Prim.bstr.run [.rows 1 [[u8 (atI y v4)]]] = some [.str [atI y v4]] := by
   show some [D.str [UInt8.ofNat ((atI y v4).toNat : Int).toNat]] = _
   rw [Int.toNat_natCast, UInt8.ofNat_toNat]
  have b1 := t_ssub (s := t) (lo := 0) (hi := v3) (by omega) (by omega) (by omega)
  have b2 := t_ssub (s := t) (lo := v3) (hi := (t.length : Int)) (by omega) (by omega) (by omega)
  have b3 := t_ssub (s := t) (lo := v3 + 1) (hi := (t.length : Int)) (by omega) (by omega) (by omega)
  have l1 : ((t.take v3.toNat).drop (0 : Int).toNat).length = v3.toNat := by rw [List.length_drop, List.length_take]; simp; omega
  have l2 : ((t.take (t.length : Int).toNat).drop v3.toNat).length = t.length - v3.toNat := by rw [List.length_drop, List.length_take]; omega
  have l3 : ((t.take (t.length : Int).toNat).drop (v3 + 1).toNat).length = t.length - (v3.toNat + 1) := by rw [List.length_drop, List.length_take]; omega
  have ek1 : (k : Int) - 1 = ((k - 1 : Nat) : Int) := by omega
  generalize (t.take v3.toNat).drop (0 : Int).toNat = A at *
  generalize (t.take (t.length : Int).toNat).drop v3.toNat = B at *
  generalize (t.take (t.length : Int).toNat).drop (v3 + 1).toNat = C at *
  have f1 := t_add (a := A) (b := [atI y v4]) (by simp only [List.length_cons, List.length_nil]; omega)
  have f2 := t_add (a := A ++ [atI y v4]) (b := B) (by simp only [List.length_append, List.length_cons, List.length_nil]; omega)
  have f3 := t_add (a := A ++ [atI y v4]) (b := C) (by simp only [List.length_append, List.length_cons, List.length_nil]; omega)
  have f4 := t_add (a := A) (b := C) (by omega)
  cases c0 : v5 == 0
  rotate_left
  ·refine .inl ⟨(k - 1, A ++ [atI y v4] ++ B, a5, s5), ?_, ⟨by simp only; omega, by simp only [List.length_append, List.length_cons, List.length_nil]; omega, by simp only; omega, by simp only; omega⟩, by simp only; omega⟩
   simp (disch := first|assumption|omega) only [S0,rA,rQ,rB,rT,rE, d, t_slen, d2, e3, e4, ei, ek, eb, e5, c0, b1, f1, b2, f2, ek1]
  cases c1 : v5 == 1
  rotate_left
  ·refine .inl ⟨(k - 1, A ++ [atI y v4] ++ C, a5, s5), ?_, ⟨by simp only; omega, by simp only [List.length_append, List.length_cons, List.length_nil]; omega, by simp only; omega, by simp only; omega⟩, by simp only; omega⟩
   simp (disch := first|assumption|omega) only [S0,rA,rQ,rB,rT,rE, d, t_slen, d2, e3, e4, ei, ek, eb, e5, c0, c1, b1, f1, b3, f3, ek1]
  ·refine .inl ⟨(k - 1, A ++ C, a5, s5), ?_, ⟨by simp only; omega, by simp only [List.length_append]; omega, by simp only; omega, by simp only; omega⟩, by simp only; omega⟩
   simp (disch := first|assumption|omega) only [S0,rA,rQ,rB,rT,rE, d, t_slen, d2, e3, e4, ei, ek, eb, e5, c0, c1, b1, b3, f4, ek1]
 obtain ⟨q, rfl, z, a2, s2, rfl, z1, z2, z3⟩ := key
 simp (disch := first|assumption|omega) only [S0,rA,rQ,rB,rT,rE]
 exact ⟨_, _, _, rfl, z1, z2, z3⟩
theorem drawReadMsg (code : D) (hc : isBytes code) : ∃ (n : Int) (z : List UInt8), Fun T 92 [code] = some [i64 n, .str z] /\ z.length <= 10000000 := by
 rw [Fun_k (t := tm92) rfl]; unfold tm92
 obtain ⟨n, m, e, h⟩ := drawGoodMsg code hc
 have et := spec_MsgText n m.kind m.src m.dst m.rep m.no m.ballot m.vote m.state m.cmd.kind m.cmd.id m.cmd.src m.cmd.dst m.cmd.amt m.attr.seq m.attr.deps (by omega)
 have hl := msgR_len (n := n) (m := m)
 have eta : (⟨m.kind, m.src, m.dst, m.rep, m.no, m.ballot, m.vote, m.state, ⟨m.cmd.kind, m.cmd.id, m.cmd.src, m.cmd.dst, m.cmd.amt⟩, ⟨m.attr.seq, m.attr.deps⟩⟩ : TMsg) = m := rfl
 rw [eta] at et
 have u0 : D.int .u64 0 = u64 0 := rfl
 obtain ⟨v, a1, s1, e1, g1, j1⟩ := cur_one code hc 3 0 0 (by omega) (by omega)
 cases v
 ·simp (disch := first|assumption|omega) only [S0,rA,rQ,rB,rT,rE, e, et, u0, e1]
  exact ⟨_, _, rfl, by omega⟩
 ·obtain ⟨z, a2, s2, e2, z1, z2, z3⟩ := cur_spoilt code hc (msgR n m).1 [48, 49, 32, 124, 58, 44, 112] a1 s1 (by omega) rfl (by omega) (by omega)
  simp (disch := first|assumption|omega) only [S0,rA,rQ,rB,rT,rE, e, et, u0, e1, e2]
  exact ⟨_, _, rfl, by omega⟩
theorem drawSameMsg (code : D) (hc : isBytes code) : ∃ (x y : TMsg), Fun T 100 [code] = some [i64 x.kind, i64 x.src, i64 x.dst, i64 x.rep, i64 x.no, i64 x.ballot, i64 x.vote, i64 x.state, i64 x.cmd.kind, i64 x.cmd.id, i64 x.cmd.src, i64 x.cmd.dst, i64 x.cmd.amt, i64 x.attr.seq, rL x.attr.deps, i64 y.kind, i64 y.src, i64 y.dst, i64 y.rep, i64 y.no, i64 y.ballot, i64 y.vote, i64 y.state, i64 y.cmd.kind, i64 y.cmd.id, i64 y.cmd.src, i64 y.cmd.dst, i64 y.cmd.amt, i64 y.attr.seq, rL y.attr.deps] /\ x.attr.deps.length <= 20 /\ y.attr.deps.length <= 20 := by
 rw [Fun_k (t := tm100) rfl]; unfold tm100
 obtain ⟨n, m, e, h⟩ := drawGoodMsg code hc
 have eo := spec_l4OwnAttr m.attr.seq m.attr.deps (by omega)
 have u0 : D.int .u64 0 = u64 0 := rfl
 obtain ⟨v, a1, s1, e1, p1, q1, g1, j1⟩ := cur_pick code hc 4 0 0 (by omega) (by omega)
 have ew : (Prim.bin .add).run [i64 m.no, i64 1] = some [i64 (IntKind.i64.wrap (m.no + 1))] := rfl
 have ex : (Prim.bin .add).run [i64 (atI m.attr.deps 0), i64 1] = some [i64 (IntKind.i64.wrap (atI m.attr.deps 0 + 1))] := rfl
 cases c0 : v == 0
 rotate_left
 ·simp (disch := first|assumption|omega) only [S0,rA,rQ,rB,rT,rE, e, eo, u0, e1, c0, ew]
  exact ⟨m, ⟨m.kind, m.src, m.dst, m.rep, IntKind.i64.wrap (m.no + 1), m.ballot, m.vote, m.state, m.cmd, m.attr⟩, rfl, h, h⟩
 cases c1 : v == 1
 ·simp (disch := first|assumption|omega) only [S0,rA,rQ,rB,rT,rE, e, eo, u0, e1, c0, c1]
  exact ⟨m, m, rfl, h, h⟩
 by_cases hz : 0 < (m.attr.deps.length : Int)
 ·have d : decide (0 < (m.attr.deps.length : Int)) = true := by simpa using hz
  have hb : InB m.attr.deps 0 := by unfold InB; omega
  simp (disch := first|assumption|omega) only [S0,rA,rQ,rB,rT,rE, e, eo, u0, e1, c0, c1, d, S_row, ex, S_set]
  exact ⟨m, ⟨m.kind, m.src, m.dst, m.rep, m.no, m.ballot, m.vote, m.state, m.cmd, ⟨m.attr.seq, setI m.attr.deps 0 (IntKind.i64.wrap (atI m.attr.deps 0 + 1))⟩⟩, rfl, h, by simp only [setI_len]; exact h⟩
 ·have d : decide (0 < (m.attr.deps.length : Int)) = false := by simpa using hz
  simp (disch := first|assumption|omega) only [S0,rA,rQ,rB,rT,rE, e, eo, u0, e1, c0, c1, d]
  exact ⟨m, m, rfl, h, h⟩
theorem law (code more : D) (hc : isBytes code) (hm : isBytes more) : Fun T 0 [code, more] = some [.bool true] := by
 rw [Fun_k (t := tm0) rfl]; unfold tm0
 obtain ⟨b, eb⟩ := laws_big code more hc hm
 cases b
 rotate_left
 ·simp (disch := first|assumption|omega) only [S0,rA,rQ,rB,rT,rE, eb]
 obtain ⟨n, m, e1, h1⟩ := drawMsgText code hc
 have i1 := impl_MsgText n m.kind m.src m.dst m.rep m.no m.ballot m.vote m.state m.cmd.kind m.cmd.id m.cmd.src m.cmd.dst m.cmd.amt m.attr.seq m.attr.deps (by omega)
 have i2 := spec_MsgText n m.kind m.src m.dst m.rep m.no m.ballot m.vote m.state m.cmd.kind m.cmd.id m.cmd.src m.cmd.dst m.cmd.amt m.attr.seq m.attr.deps (by omega)
 have g1 := impl_GoodMsg n m.kind m.src m.dst m.rep m.no m.ballot m.vote m.state m.cmd.kind m.cmd.id m.cmd.src m.cmd.dst m.cmd.amt m.attr.seq m.attr.deps (by omega)
 have g2 := spec_GoodMsg n m.kind m.src m.dst m.rep m.no m.ballot m.vote m.state m.cmd.kind m.cmd.id m.cmd.src m.cmd.dst m.cmd.amt m.attr.seq m.attr.deps (by omega)
 have eta : ∀ m : TMsg, (⟨m.kind, m.src, m.dst, m.rep, m.no, m.ballot, m.vote, m.state, ⟨m.cmd.kind, m.cmd.id, m.cmd.src, m.cmd.dst, m.cmd.amt⟩, ⟨m.attr.seq, m.attr.deps⟩⟩ : TMsg) = m := fun _ => rfl
 rw [eta m, msgR_ok] at i1 i2
 rw [eta m] at g1 g2
 have hl := msgR_len (n := n) (m := m)
 obtain ⟨k, t, e2, h2⟩ := drawReadMsg more hm
 have r1 := impl_ReadMsg k t (by omega)
 have r2 := spec_ReadMsg k t (by omega)
 have hrl := readM_len (n := k) (s := t)
 obtain ⟨x, y, e3, hx, hy⟩ := drawSameMsg more hm
 have s1 := impl_SameMsg x y (by omega) (by omega)
 have s2 := spec_SameMsg x y (by omega) (by omega)
 have s3 := laws_sameMsg (readM k t).1 (readM k t).1 (by omega) (by omega)
 rw [sameMq_refl] at s3
 have ag := msgR_again (n := k) (s := t)
 have i3 := impl_MsgText k (readM k t).1.kind (readM k t).1.src (readM k t).1.dst (readM k t).1.rep (readM k t).1.no (readM k t).1.ballot (readM k t).1.vote (readM k t).1.state (readM k t).1.cmd.kind (readM k t).1.cmd.id (readM k t).1.cmd.src (readM k t).1.cmd.dst (readM k t).1.cmd.amt (readM k t).1.attr.seq (readM k t).1.attr.deps (by omega)
 rw [eta] at i3
 have hbeq : ∀ z : List UInt8, (z == z) = true := fun z => by simp
 have sm1 := laws_sameMsg m m (by omega) (by omega)
 have sm2 := impl_SameMsg m m (by omega) (by omega)
 rw [sameMq_refl] at sm1 sm2
 have hrd : msgOk n m = true -> readM n (msgR n m).1 = (m, 0, true) := by
  intro h
  have : (msgR n m).1 = msgT m := by unfold msgR; rw [if_pos h]
  rw [this]
  exact readM_told h
 have r3 := impl_ReadMsg n (msgR n m).1 (by omega)
 cases ho : msgOk n m
 ·rw [ho] at i1 i2 g1 g2
  cases hr : (readM k t).2.2
  ·rw [hr] at r1 r2
   simp (maxSteps := 4000000) (disch := first|assumption|omega) only [S0,rA,rQ,rB,rT,rE, eb, e1, i1, i2, g1, g2, t_ne, hbeq, e2, r1, r2, e3, s1, s2, s3]
  ·rw [ag hr] at i3
   rw [hr] at r1 r2
   simp (maxSteps := 4000000) (disch := first|assumption|omega) only [S0,rA,rQ,rB,rT,rE, eb, e1, i1, i2, g1, g2, t_ne, t_eq, hbeq, e2, r1, r2, e3, s1, s2, s3, i3]
 ·rw [hrd ho] at r3
  rw [ho] at i1 i2 g1 g2
  cases hr : (readM k t).2.2
  ·rw [hr] at r1 r2
   simp (maxSteps := 4000000) (disch := first|assumption|omega) only [S0,rA,rQ,rB,rT,rE, eb, e1, i1, i2, g1, g2, t_ne, hbeq, r3, sm1, sm2, e2, r1, r2, e3, s1, s2, s3]
  ·rw [ag hr] at i3
   rw [hr] at r1 r2
   simp (maxSteps := 4000000) (disch := first|assumption|omega) only [S0,rA,rQ,rB,rT,rE, eb, e1, i1, i2, g1, g2, t_ne, t_eq, hbeq, r3, sm1, sm2, e2, r1, r2, e3, s1, s2, s3, i3]
theorem hpure : ∀ ds, WTs [.sl 1 [.int .u8], .sl 1 [.int .u8]] ds -> ∃ n, callN T n 0 ds = some [.bool true] := by
 intro ds h
 simp only [WTs] at h
 obtain ⟨d0, r0, rfl, w0, d1, r1, rfl, w1, rfl⟩ := h
 exact pure_of (law d0 d1 w0 w1)
end FnMsgs
end Go.Proofs.YtdpfilpckndhcaaGreatDoor
