/- What the terms of FnChoose come to. -/
import Derived.Test.YtjoebpmeeampfaaFnChooseTab
namespace Go.Proofs.Ytjoebpmeeampfaa
namespace FnChoose
open Go Go.Proofs.Ytjoebpmeeampfaa.Rf
open Nat (reduceAdd reduceEqDiff)
open Int (reduceLT reduceLE)
set_option linter.unusedSimpArgs false
set_option linter.unusedVariables false
set_option linter.unnecessarySimpa false
set_option maxHeartbeats 4000000
set_option maxRecDepth 10000
theorem impl_within (x lo up : Int) : Fun T 20 [i64 x, i64 lo, i64 up] = some [.bool (inR x lo up)] := by
 rw [Fun_k (t := tm20) rfl]; unfold tm20; unfold inR
 (refine fork_in ?_; repeat' (refine fork_eq (fun _ => ?_) (fun _ => ?_) <;> try simp (disch := first | assumption | omega) only [S0, reduceIte, reduceCtorEq, reduceAdd, reduceEqDiff, Int.reduceBEq, reduceLT, reduceLE, *]))
theorem spec_l1In (x lo up : Int) : Fun T 41 [i64 x, i64 lo, i64 up] = some [.bool (inR x lo up)] := by
 rw [Fun_k (t := tm41) rfl]; unfold tm41; unfold inR
 (refine fork_in ?_; repeat' (refine fork_eq (fun _ => ?_) (fun _ => ?_) <;> try simp (disch := first | assumption | omega) only [S0, reduceIte, reduceCtorEq, reduceAdd, reduceEqDiff, Int.reduceBEq, reduceLT, reduceLE, *]))
theorem impl_IsGroup (n : Int) : Fun T 14 [i64 n] = some [.bool (isGrp n)] := by
 rw [Fun_k (t := tm14) rfl]; unfold tm14; unfold isGrp
 (refine fork_in ?_; repeat' (refine fork_eq (fun _ => ?_) (fun _ => ?_) <;> try simp (disch := first | assumption | omega) only [S0, reduceIte, reduceCtorEq, reduceAdd, reduceEqDiff, Int.reduceBEq, reduceLT, reduceLE, *]))
theorem spec_IsGroup (n : Int) : Fun T 40 [i64 n] = some [.bool (isGrp n)] := by
 rw [Fun_k (t := tm40) rfl]; unfold tm40; unfold isGrp
 (refine fork_in ?_; repeat' (refine fork_eq (fun _ => ?_) (fun _ => ?_) <;> try simp (disch := first | assumption | omega) only [S0, reduceIte, reduceCtorEq, reduceAdd, reduceEqDiff, Int.reduceBEq, reduceLT, reduceLE, *]))
theorem impl_isAccount (n : Int) : Fun T 22 [i64 n] = some [.bool (inR n 0 3)] := by
 rw [Fun_k (t := tm22) rfl]; unfold tm22
 (refine fork_in ?_; repeat' (refine fork_eq (fun _ => ?_) (fun _ => ?_) <;> try simp (disch := first | assumption | omega) only [S0, reduceIte, reduceCtorEq, reduceAdd, reduceEqDiff, Int.reduceBEq, reduceLT, reduceLE, impl_within, *]))
theorem spec_l2Account (n : Int) : Fun T 47 [i64 n] = some [.bool (inR n 0 3)] := by
 rw [Fun_k (t := tm47) rfl]; unfold tm47
 (refine fork_in ?_; repeat' (refine fork_eq (fun _ => ?_) (fun _ => ?_) <;> try simp (disch := first | assumption | omega) only [S0, reduceIte, reduceCtorEq, reduceAdd, reduceEqDiff, Int.reduceBEq, reduceLT, reduceLE, spec_l1In, *]))
theorem spec_l2Code (k i f t a : Int) : Fun T 46 [i64 k, i64 i, i64 f, i64 t, i64 a] = some [i64 (cmdCode ⟨k, i, f, t, a⟩)] := by
 rw [Fun_k (t := tm46) rfl]; unfold tm46; unfold cmdCode
 (refine fork_in ?_; repeat' (refine fork_eq (fun _ => ?_) (fun _ => ?_) <;> try simp (disch := first | assumption | omega) only [S0, reduceIte, reduceCtorEq, reduceAdd, reduceEqDiff, Int.reduceBEq, reduceLT, reduceLE, spec_l2Account, spec_l1In, *]))
theorem spec_GoodCmd (k i f t a : Int) : Fun T 45 [i64 k, i64 i, i64 f, i64 t, i64 a] = some [.bool (cmdOk ⟨k, i, f, t, a⟩)] := by
 rw [Fun_k (t := tm45) rfl]; unfold tm45; unfold cmdOk
 (refine fork_in ?_; repeat' (refine fork_eq (fun _ => ?_) (fun _ => ?_) <;> try simp (disch := first | assumption | omega) only [S0, reduceIte, reduceCtorEq, reduceAdd, reduceEqDiff, Int.reduceBEq, reduceLT, reduceLE, spec_l2Code, S_eqs, cmdCode0, *]))
 all_goals (refine bool_fin ?_; simp only [Bool.and_eq_true, Bool.or_eq_true, Bool.not_eq_true', Bool.not_eq_false', Bool.and_eq_false_iff, Bool.or_eq_false_iff, Bool.false_eq_true, beq_iff_eq, beq_eq_false_iff_ne, decide_eq_true_eq, decide_eq_false_iff_not, ne_eq] at *; grind)
theorem impl_GoodCmd (k i f t a : Int) : Fun T 21 [i64 k, i64 i, i64 f, i64 t, i64 a] = some [.bool (cmdOk ⟨k, i, f, t, a⟩)] := by
 rw [Fun_k (t := tm21) rfl]; unfold tm21; unfold cmdOk
 (refine fork_in ?_; repeat' (refine fork_eq (fun _ => ?_) (fun _ => ?_) <;> try simp (disch := first | assumption | omega) only [S0, reduceIte, reduceCtorEq, reduceAdd, reduceEqDiff, Int.reduceBEq, reduceLT, reduceLE, impl_within, impl_isAccount, S_eqs, *]))
theorem spec_l1All (xs : List Int) (lo up : Int) (hx : xs.length ≤ 1099511627776) : Fun T 49 [rL xs, i64 lo, i64 up] = some [.bool (xs.all fun x => inR x lo up)] := by
 rw [Fun_k (t := tm49) rfl]; unfold tm49
 simp (disch := first | assumption | omega) only [S0, reduceIte, reduceCtorEq, reduceAdd, reduceEqDiff, Int.reduceBEq, reduceLT, reduceLE, S_row, *]
 rw [allX 1 xs (fun x => inR x lo up) [.bool false]]
 ·(refine fork_in ?_; repeat' (refine fork_eq (fun _ => ?_) (fun _ => ?_) <;> try simp (disch := first | assumption | omega) only [S0, reduceIte, reduceCtorEq, reduceAdd, reduceEqDiff, Int.reduceBEq, reduceLT, reduceLE, *]))
 ·intro i hi hb hl hp
  (refine fork_in ?_; repeat' (refine fork_eq (fun _ => ?_) (fun _ => ?_) <;> try simp (disch := first | assumption | omega) only [S0, reduceIte, reduceCtorEq, reduceAdd, reduceEqDiff, Int.reduceBEq, reduceLT, reduceLE, S_row, spec_l1In, *]))
 ·intro i hi hb hl hp
  (refine fork_in ?_; repeat' (refine fork_eq (fun _ => ?_) (fun _ => ?_) <;> try simp (disch := first | assumption | omega) only [S0, reduceIte, reduceCtorEq, reduceAdd, reduceEqDiff, Int.reduceBEq, reduceLT, reduceLE, S_row, spec_l1In, *]))
 ·intro hl
  (refine fork_in ?_; repeat' (refine fork_eq (fun _ => ?_) (fun _ => ?_) <;> try simp (disch := first | assumption | omega) only [S0, reduceIte, reduceCtorEq, reduceAdd, reduceEqDiff, Int.reduceBEq, reduceLT, reduceLE, *]))
theorem spec_l3Attr (n s : Int) (xs : List Int) (hx : xs.length ≤ 1099511627776) : Fun T 48 [i64 n, i64 s, rL xs] = some [.bool (attrOk n ⟨s, xs⟩)] := by
 rw [Fun_k (t := tm48) rfl]; unfold tm48; unfold attrOk
 (refine fork_in ?_; repeat' (refine fork_eq (fun _ => ?_) (fun _ => ?_) <;> try simp (disch := first | assumption | omega) only [S0, reduceIte, reduceCtorEq, reduceAdd, reduceEqDiff, Int.reduceBEq, reduceLT, reduceLE, spec_l1In, spec_l1All, *]))
theorem impl_GoodAttr_1 (x : Int) : Fun T 26 [i64 x] = some [.bool (!inR x 0 6)] := by
 rw [Fun_k (t := tm26) rfl]; unfold tm26
 (refine fork_in ?_; repeat' (refine fork_eq (fun _ => ?_) (fun _ => ?_) <;> try simp (disch := first | assumption | omega) only [S0, reduceIte, reduceCtorEq, reduceAdd, reduceEqDiff, Int.reduceBEq, reduceLT, reduceLE, impl_within, *]))
theorem ix_GoodAttr_1  (xs : List Int) (hx : xs.length ≤ 1099511627776) : Fun T 25 [rL xs] = some [i64 (ixF (fun x => !inR x 0 6) xs)] := by
 rw [Fun_k (t := tm25) rfl]; unfold tm25
 simp (disch := first | assumption | omega) only [S0, reduceIte, reduceCtorEq, reduceAdd, reduceEqDiff, Int.reduceBEq, reduceLT, reduceLE, S_row, *]
 rw [findX 1 xs (fun x => !inR x 0 6) (fun i => [i64 i])]
 ·cases h : xs.any (fun x => !inR x 0 6)
  ·have e : ixF (fun x => !inR x 0 6) xs = -1 := by
    have h2 := ixF_any (fun x => !inR x 0 6) xs
    rw [h] at h2
    unfold ixF at h2 ⊢
    split at h2 <;> simp_all
   rw [e]; simp (disch := first | assumption | omega) only [S0, reduceIte, reduceCtorEq, reduceAdd, reduceEqDiff, Int.reduceBEq, reduceLT, reduceLE]
  ·simp (disch := first | assumption | omega) only [S0, reduceIte, reduceCtorEq, reduceAdd, reduceEqDiff, Int.reduceBEq, reduceLT, reduceLE]
 ·intro i hi hb hl hp
  (refine fork_in ?_; repeat' (refine fork_eq (fun _ => ?_) (fun _ => ?_) <;> try simp (disch := first | assumption | omega) only [S0, reduceIte, reduceCtorEq, reduceAdd, reduceEqDiff, Int.reduceBEq, reduceLT, reduceLE, S_row, impl_GoodAttr_1, *]))
 ·intro i hi hb hl hp
  (refine fork_in ?_; repeat' (refine fork_eq (fun _ => ?_) (fun _ => ?_) <;> try simp (disch := first | assumption | omega) only [S0, reduceIte, reduceCtorEq, reduceAdd, reduceEqDiff, Int.reduceBEq, reduceLT, reduceLE, S_row, impl_GoodAttr_1, *]))
 ·intro hl
  (refine fork_in ?_; repeat' (refine fork_eq (fun _ => ?_) (fun _ => ?_) <;> try simp (disch := first | assumption | omega) only [S0, reduceIte, reduceCtorEq, reduceAdd, reduceEqDiff, Int.reduceBEq, reduceLT, reduceLE, *]))
theorem ct_GoodAttr_1  (xs : List Int) (hx : xs.length ≤ 1099511627776) : Fun T 24 [rL xs] = some [.bool (xs.any (fun x => !inR x 0 6))] := by
 rw [Fun_k (t := tm24) rfl]; unfold tm24
 (refine fork_in ?_; repeat' (refine fork_eq (fun _ => ?_) (fun _ => ?_) <;> try simp (disch := first | assumption | omega) only [S0, reduceIte, reduceCtorEq, reduceAdd, reduceEqDiff, Int.reduceBEq, reduceLT, reduceLE, ix_GoodAttr_1, ixF_any, *]))
theorem impl_GoodAttr (n s : Int) (xs : List Int) (hx : xs.length ≤ 1099511627776) : Fun T 23 [i64 n, i64 s, rL xs] = some [.bool (isGrp n && attrOk n ⟨s, xs⟩)] := by
 rw [Fun_k (t := tm23) rfl]; unfold tm23; unfold attrOk
 have e : xs.any (fun x => !inR x 0 6) = !xs.all fun x => inR x 0 6 := by rw [List.not_all_eq_any_not]
 (refine fork_in ?_; repeat' (refine fork_eq (fun _ => ?_) (fun _ => ?_) <;> try simp (disch := first | assumption | omega) only [S0, reduceIte, reduceCtorEq, reduceAdd, reduceEqDiff, Int.reduceBEq, reduceLT, reduceLE, impl_IsGroup, impl_within, ct_GoodAttr_1, e, Bool.not_not, *]))
theorem spec_l1Same (xs ys : List Int) (hx : xs.length ≤ 1099511627776) : Fun T 44 [rL xs, rL ys] = some [.bool (decide (xs = ys))] := by
 rw [Fun_k (t := tm44) rfl]; unfold tm44
 by_cases hl : ys.length = xs.length
 ·simp (disch := first | assumption | omega) only [S0, reduceIte, reduceCtorEq, reduceAdd, reduceEqDiff, Int.reduceBEq, reduceLT, reduceLE, *]
  rw [scanX 1 xs.length (fun i => decide (atI xs i = atI ys i)) [.bool false], allB_eq hl.symm]
  ·(refine fork_in ?_; repeat' (refine fork_eq (fun _ => ?_) (fun _ => ?_) <;> try simp (disch := first | assumption | omega) only [S0, reduceIte, reduceCtorEq, reduceAdd, reduceEqDiff, Int.reduceBEq, reduceLT, reduceLE, *]))
  ·intro i hi hp
   have hb : InB xs (i : Int) := InB_nat.2 hi
   have hb' : InB ys (i : Int) := InB_nat.2 (by omega)
   have h2 : decide ((i : Int) < xs.length) = true := by simp; omega
   have h3 : (atI xs i == atI ys i) = true := by simpa using hp
   (refine fork_in ?_; repeat' (refine fork_eq (fun _ => ?_) (fun _ => ?_) <;> try simp (disch := first | assumption | omega) only [S0, reduceIte, reduceCtorEq, reduceAdd, reduceEqDiff, Int.reduceBEq, reduceLT, reduceLE, S_row, *]))
  ·intro i hi hp
   have hb : InB xs (i : Int) := InB_nat.2 hi
   have hb' : InB ys (i : Int) := InB_nat.2 (by omega)
   have h2 : decide ((i : Int) < xs.length) = true := by simp; omega
   have h3 : (atI xs i == atI ys i) = false := by simpa using hp
   (refine fork_in ?_; repeat' (refine fork_eq (fun _ => ?_) (fun _ => ?_) <;> try simp (disch := first | assumption | omega) only [S0, reduceIte, reduceCtorEq, reduceAdd, reduceEqDiff, Int.reduceBEq, reduceLT, reduceLE, S_row, *]))
  ·have h2 : decide ((xs.length : Int) < xs.length) = false := by simp
   (refine fork_in ?_; repeat' (refine fork_eq (fun _ => ?_) (fun _ => ?_) <;> try simp (disch := first | assumption | omega) only [S0, reduceIte, reduceCtorEq, reduceAdd, reduceEqDiff, Int.reduceBEq, reduceLT, reduceLE, *]))
 ·have hl' : ((xs.length : Int) == (ys.length : Int)) = false := by simp; omega
  have e := eq_len (fun h => hl h.symm)
  (refine fork_in ?_; repeat' (refine fork_eq (fun _ => ?_) (fun _ => ?_) <;> try simp (disch := first | assumption | omega) only [S0, reduceIte, reduceCtorEq, reduceAdd, reduceEqDiff, Int.reduceBEq, reduceLT, reduceLE, *]))
theorem slices_Equal_int (xs ys : List Int) (hx : xs.length ≤ 1099511627776) : Fun T 29 [rL xs, rL ys] = some [.bool (decide (xs = ys))] := by
 rw [Fun_k (t := tm29) rfl]; unfold tm29
 by_cases hl : ys.length = xs.length
 ·simp (disch := first | assumption | omega) only [S0, reduceIte, reduceCtorEq, reduceAdd, reduceEqDiff, Int.reduceBEq, reduceLT, reduceLE, *]
  rw [scanX 1 xs.length (fun i => decide (atI xs i = atI ys i)) [.bool false], allB_eq hl.symm]
  ·(refine fork_in ?_; repeat' (refine fork_eq (fun _ => ?_) (fun _ => ?_) <;> try simp (disch := first | assumption | omega) only [S0, reduceIte, reduceCtorEq, reduceAdd, reduceEqDiff, Int.reduceBEq, reduceLT, reduceLE, *]))
  ·intro i hi hp
   have hb : InB xs (i : Int) := InB_nat.2 hi
   have hb' : InB ys (i : Int) := InB_nat.2 (by omega)
   have h2 : decide ((i : Int) < xs.length) = true := by simp; omega
   have h3 : (atI xs i == atI ys i) = true := by simpa using hp
   (refine fork_in ?_; repeat' (refine fork_eq (fun _ => ?_) (fun _ => ?_) <;> try simp (disch := first | assumption | omega) only [S0, reduceIte, reduceCtorEq, reduceAdd, reduceEqDiff, Int.reduceBEq, reduceLT, reduceLE, S_row, *]))
  ·intro i hi hp
   have hb : InB xs (i : Int) := InB_nat.2 hi
   have hb' : InB ys (i : Int) := InB_nat.2 (by omega)
   have h2 : decide ((i : Int) < xs.length) = true := by simp; omega
   have h3 : (atI xs i == atI ys i) = false := by simpa using hp
   (refine fork_in ?_; repeat' (refine fork_eq (fun _ => ?_) (fun _ => ?_) <;> try simp (disch := first | assumption | omega) only [S0, reduceIte, reduceCtorEq, reduceAdd, reduceEqDiff, Int.reduceBEq, reduceLT, reduceLE, S_row, *]))
  ·have h2 : decide ((xs.length : Int) < xs.length) = false := by simp
   (refine fork_in ?_; repeat' (refine fork_eq (fun _ => ?_) (fun _ => ?_) <;> try simp (disch := first | assumption | omega) only [S0, reduceIte, reduceCtorEq, reduceAdd, reduceEqDiff, Int.reduceBEq, reduceLT, reduceLE, *]))
 ·have hl' : ((xs.length : Int) == (ys.length : Int)) = false := by simp; omega
  have e := eq_len (fun h => hl h.symm)
  (refine fork_in ?_; repeat' (refine fork_eq (fun _ => ?_) (fun _ => ?_) <;> try simp (disch := first | assumption | omega) only [S0, reduceIte, reduceCtorEq, reduceAdd, reduceEqDiff, Int.reduceBEq, reduceLT, reduceLE, *]))
theorem spec_SameAttr (s s' : Int) (xs ys : List Int) (hx : xs.length ≤ 1099511627776) : Fun T 43 [i64 s, rL xs, i64 s', rL ys] = some [.bool (decide ((⟨s, xs⟩ : TAttr) = ⟨s', ys⟩))] := by
 rw [Fun_k (t := tm43) rfl]; unfold tm43
 have e : decide ((⟨s, xs⟩ : TAttr) = ⟨s', ys⟩) = (s == s' && decide (xs = ys)) := by simp [TAttr.mk.injEq, Bool.beq_eq_decide_eq]
 (refine fork_in ?_; repeat' (refine fork_eq (fun _ => ?_) (fun _ => ?_) <;> try simp (disch := first | assumption | omega) only [S0, reduceIte, reduceCtorEq, reduceAdd, reduceEqDiff, Int.reduceBEq, reduceLT, reduceLE, spec_l1Same, e, *]))
theorem impl_SameAttr (s s' : Int) (xs ys : List Int) (hx : xs.length ≤ 1099511627776) : Fun T 28 [i64 s, rL xs, i64 s', rL ys] = some [.bool (decide ((⟨s, xs⟩ : TAttr) = ⟨s', ys⟩))] := by
 rw [Fun_k (t := tm28) rfl]; unfold tm28
 have e : decide ((⟨s, xs⟩ : TAttr) = ⟨s', ys⟩) = (s == s' && decide (xs = ys)) := by simp [TAttr.mk.injEq, Bool.beq_eq_decide_eq]
 (refine fork_in ?_; repeat' (refine fork_eq (fun _ => ?_) (fun _ => ?_) <;> try simp (disch := first | assumption | omega) only [S0, reduceIte, reduceCtorEq, reduceAdd, reduceEqDiff, Int.reduceBEq, reduceLT, reduceLE, slices_Equal_int, e, *]))
theorem spec_l3None (n : Int) (hg : isGrp n = true) : Fun T 9 [i64 n] = some [i64 (none0 n).seq, rL (none0 n).deps] := by
 rw [Fun_k (t := tm9) rfl]; unfold tm9; unfold none0
 have hn := isGrp_rng hg
 (refine fork_in ?_; repeat' (refine fork_eq (fun _ => ?_) (fun _ => ?_) <;> try simp (disch := first | assumption | omega) only [S0, reduceIte, reduceCtorEq, reduceAdd, reduceEqDiff, Int.reduceBEq, reduceLT, reduceLE, S_make, *]))
theorem impl_noneAttr (n : Int) (hg : isGrp n = true) : Fun T 27 [i64 n] = some [i64 (none0 n).seq, rL (none0 n).deps] := by
 rw [Fun_k (t := tm27) rfl]; unfold tm27; unfold none0
 have hn := isGrp_rng hg
 (refine fork_in ?_; repeat' (refine fork_eq (fun _ => ?_) (fun _ => ?_) <;> try simp (disch := first | assumption | omega) only [S0, reduceIte, reduceCtorEq, reduceAdd, reduceEqDiff, Int.reduceBEq, reduceLT, reduceLE, S_make, *]))
theorem spec_l4Row (n bal vot sta k i f t a sq : Int) (xs : List Int) (hg : isGrp n = true) (hx : xs.length ≤ 1099511627776) :
  Fun T 42 [i64 n, i64 bal, i64 vot, i64 sta, i64 k, i64 i, i64 f, i64 t, i64 a, i64 sq, rL xs] = some [.bool (rowOk n ⟨bal, vot, sta, ⟨k, i, f, t, a⟩, ⟨sq, xs⟩⟩)] := by
 rw [Fun_k (t := tm42) rfl]; unfold tm42; unfold rowOk
 (refine fork_in ?_; repeat' (refine fork_eq (fun _ => ?_) (fun _ => ?_) <;> try simp (disch := first | assumption | omega) only [S0, reduceIte, reduceCtorEq, reduceAdd, reduceEqDiff, Int.reduceBEq, reduceLT, reduceLE, spec_l1In, S_eqs, spec_l3None, spec_SameAttr, spec_GoodCmd, spec_l3Attr, *]))
theorem impl_goodRow (n bal vot sta k i f t a sq : Int) (xs : List Int) (hg : isGrp n = true) (hx : xs.length ≤ 1099511627776) :
  Fun T 19 [i64 n, i64 bal, i64 vot, i64 sta, i64 k, i64 i, i64 f, i64 t, i64 a, i64 sq, rL xs] = some [.bool (rowOk n ⟨bal, vot, sta, ⟨k, i, f, t, a⟩, ⟨sq, xs⟩⟩)] := by
 rw [Fun_k (t := tm19) rfl]; unfold tm19; unfold rowOk
 have h1 := @cmdZ_ok ⟨k, i, f, t, a⟩
 have h2 := none0_ok hg
 have h3 : decide ((⟨sq, xs⟩ : TAttr) = none0 n) = true → attrOk n ⟨sq, xs⟩ = true := fun h => by rw [of_decide_eq_true h]; exact h2
 (refine fork_in ?_; repeat' (refine fork_eq (fun _ => ?_) (fun _ => ?_) <;> try simp (disch := first | assumption | omega) only [S0, reduceIte, reduceCtorEq, reduceAdd, reduceEqDiff, Int.reduceBEq, reduceLT, reduceLE, impl_within, S_eqs, impl_noneAttr, impl_SameAttr, impl_GoodCmd, impl_GoodAttr, *]))
 all_goals (refine bool_fin ?_; simp only [Bool.and_eq_true, Bool.or_eq_true, Bool.not_eq_true', Bool.not_eq_false', Bool.and_eq_false_iff, Bool.or_eq_false_iff, Bool.false_eq_true, beq_iff_eq, beq_eq_false_iff_ne, decide_eq_true_eq, decide_eq_false_iff_not, ne_eq] at *; grind)
theorem slices_Clone_int (xs : List Int) (hx : xs.length ≤ 10000000000) : Fun T 33 [rL xs] = some [rL xs] := by
 rw [Fun_ext (e := ex33) rfl]
 cases xs with
 | nil => rfl
 | cons x xs =>
  show Fun (entTab [(33, .tm tm33)]) 33 [rL (x :: xs)] = _
  rw [Fun_k (t := tm33) rfl]
  unfold tm33
  have hx' : (x :: xs).length ≤ 100000000000 := by omega
  have h0 : (Prim.mk 1 0).run [] = some [.rows 1 []] := rfl
  have h1 : (x :: xs).isEmpty = false := rfl
  simp (disch := first | assumption | omega) only [SA, SB, SC, SP, SQ, SZ, reduceIte, reduceCtorEq, Nat.reduceAdd, Nat.reduceEqDiff, rL_ne, rL_emp, h0, h1, S_app]
theorem impl_Attr_copied (s : Int) (xs : List Int) (hx : xs.length ≤ 10000000000) : Fun T 32 [i64 s, rL xs] = some [i64 s, rL xs] := by
 rw [Fun_k (t := tm32) rfl]; unfold tm32
 (refine fork_in ?_; repeat' (refine fork_eq (fun _ => ?_) (fun _ => ?_) <;> try simp (disch := first | assumption | omega) only [S0, reduceIte, reduceCtorEq, reduceAdd, reduceEqDiff, Int.reduceBEq, reduceLT, reduceLE, slices_Clone_int, *]))
theorem spec_l1Own (xs : List Int) (hx : xs.length ≤ 10000000000) : Fun T 12 [rL xs] = some [rL xs] := by
 rw [Fun_k (t := tm12) rfl]; unfold tm12
 have h0 : (Prim.mk 1 0).run [] = some [.rows 1 []] := rfl
 (refine fork_in ?_; repeat' (refine fork_eq (fun _ => ?_) (fun _ => ?_) <;> try simp (disch := first | assumption | omega) only [S0, reduceIte, reduceCtorEq, reduceAdd, reduceEqDiff, Int.reduceBEq, reduceLT, reduceLE, h0, S_app, *]))
theorem spec_l4OwnAttr (s : Int) (xs : List Int) (hx : xs.length ≤ 10000000000) : Fun T 11 [i64 s, rL xs] = some [i64 s, rL xs] := by
 rw [Fun_k (t := tm11) rfl]; unfold tm11
 (refine fork_in ?_; repeat' (refine fork_eq (fun _ => ?_) (fun _ => ?_) <;> try simp (disch := first | assumption | omega) only [S0, reduceIte, reduceCtorEq, reduceAdd, reduceEqDiff, Int.reduceBEq, reduceLT, reduceLE, spec_l1Own, *]))
theorem spec_l4OwnRow (r_ballot r_vote r_state r_cmd_kind r_cmd_id r_cmd_src r_cmd_dst r_cmd_amt r_attr_seq : Int) (r_attr_deps : (List Int)) (hx : r_attr_deps.length ≤ 10000000000) : Fun T 10 [i64 r_ballot, i64 r_vote, i64 r_state, i64 r_cmd_kind, i64 r_cmd_id, i64 r_cmd_src, i64 r_cmd_dst, i64 r_cmd_amt, i64 r_attr_seq, rL r_attr_deps] = some [i64 r_ballot, i64 r_vote, i64 r_state, i64 r_cmd_kind, i64 r_cmd_id, i64 r_cmd_src, i64 r_cmd_dst, i64 r_cmd_amt, i64 r_attr_seq, rL r_attr_deps] := by
 rw [Fun_k (t := tm10) rfl]; unfold tm10
 (refine fork_in ?_; repeat' (refine fork_eq (fun _ => ?_) (fun _ => ?_) <;> try simp (disch := first | assumption | omega) only [S0, reduceIte, reduceCtorEq, reduceAdd, reduceEqDiff, Int.reduceBEq, reduceLT, reduceLE, spec_l4OwnAttr, *]))
theorem spec_l1Most (a b : Int) : Fun T 52 [i64 a, i64 b] = some [i64 (max a b)] := by
 rw [Fun_k (t := tm52) rfl]; unfold tm52
 by_cases h : b < a
 ·have h2 : decide (b < a) = true := by simpa using h
  rw [Int.max_eq_left (by omega)]
  simp (disch := first | assumption | omega) only [S0, reduceIte, reduceCtorEq, reduceAdd, reduceEqDiff, Int.reduceBEq, reduceLT, reduceLE, h2]
 ·have h2 : decide (b < a) = false := by simpa using h
  rw [Int.max_eq_right (by omega)]
  simp (disch := first | assumption | omega) only [S0, reduceIte, reduceCtorEq, reduceAdd, reduceEqDiff, Int.reduceBEq, reduceLT, reduceLE, h2]
theorem spec_l3Join (s s' : Int) (xs ys : List Int) (hl : xs.length ≤ ys.length) (hx : xs.length ≤ 10000000000) : Fun T 51 [i64 s, rL xs, i64 s', rL ys] = some [i64 (joinA ⟨s, xs⟩ ⟨s', ys⟩).seq, rL (joinA ⟨s, xs⟩ ⟨s', ys⟩).deps] := by
 rw [Fun_k (t := tm51) rfl]; unfold tm51; unfold joinA
 simp (disch := first | assumption | omega) only [S0, reduceIte, reduceCtorEq, reduceAdd, reduceEqDiff, Int.reduceBEq, reduceLT, reduceLE, spec_l1Most]
 rw [loopN xs.length (fun i => [i64 i, rL (joinD xs ys i)]) (.yield 1, [rL (joinD xs ys xs.length)]) rfl (by simp)]
 ·simp (disch := first | assumption | omega) only [S0, reduceIte, reduceCtorEq, reduceAdd, reduceEqDiff, Int.reduceBEq, reduceLT, reduceLE]
 ·intro i hi hlt
  have hb : InB xs (i : Int) := InB_nat.2 hi
  have hb2 : InB ys (i : Int) := InB_nat.2 (by omega)
  have hll : (joinD xs ys i).length + ([max (atI xs (i : Int)) (atI ys (i : Int))] : List Int).length ≤ 100000000000 := by rw [joinD_len]; simp only [List.length_cons, List.length_nil]; omega
  have e := joinD_succ xs ys i
  simp (disch := first | assumption | omega) only [S0, reduceIte, reduceCtorEq, reduceAdd, reduceEqDiff, Int.reduceBEq, reduceLT, reduceLE, S_row, S_mk, S_app, spec_l1Most, hlt, e]
 ·intro hlt
  simp (disch := first | assumption | omega) only [S0, reduceIte, reduceCtorEq, reduceAdd, reduceEqDiff, Int.reduceBEq, reduceLT, reduceLE, hlt]
theorem impl_Attr_join (s s' : Int) (xs ys : List Int) (hl : xs.length ≤ ys.length) (hx : xs.length ≤ 10000000000) : Fun T 37 [i64 s, rL xs, i64 s', rL ys] = some [i64 (joinA ⟨s, xs⟩ ⟨s', ys⟩).seq, rL (joinA ⟨s, xs⟩ ⟨s', ys⟩).deps] := by
 rw [Fun_k (t := tm37) rfl]; unfold tm37; unfold joinA
 simp (disch := first | assumption | omega) only [S0, reduceIte, reduceCtorEq, reduceAdd, reduceEqDiff, Int.reduceBEq, reduceLT, reduceLE]
 rw [loopN xs.length (fun i => [i64 i, rL (joinD xs ys i)]) (.yield 1, [rL (joinD xs ys xs.length)]) rfl (by simp)]
 ·simp (disch := first | assumption | omega) only [S0, reduceIte, reduceCtorEq, reduceAdd, reduceEqDiff, Int.reduceBEq, reduceLT, reduceLE]
 ·intro i hi hlt
  have hb : InB xs (i : Int) := InB_nat.2 hi
  have hb2 : InB ys (i : Int) := InB_nat.2 (by omega)
  have hll : (joinD xs ys i).length + ([max (atI xs (i : Int)) (atI ys (i : Int))] : List Int).length ≤ 100000000000 := by rw [joinD_len]; simp only [List.length_cons, List.length_nil]; omega
  have e := joinD_succ xs ys i
  simp (disch := first | assumption | omega) only [S0, reduceIte, reduceCtorEq, reduceAdd, reduceEqDiff, Int.reduceBEq, reduceLT, reduceLE, S_row, S_mk, S_app, hlt, e]
 ·intro hlt
  simp (disch := first | assumption | omega) only [S0, reduceIte, reduceCtorEq, reduceAdd, reduceEqDiff, Int.reduceBEq, reduceLT, reduceLE, hlt]
theorem impl_chooseOf_1 (st : Int) (seen : List TRow) (hl : seen.length ≤ 100) : Fun T 31 [i64 st, rL seen] = some [rL (bestN st seen seen.length).toList] := by
 rw [Fun_k (t := tm31) rfl]; unfold tm31
 simp (disch := first | assumption | omega) only [S0, reduceIte, reduceCtorEq, reduceAdd, reduceEqDiff, Int.reduceBEq, reduceLT, reduceLE]
 rw [loopN seen.length (fun i => [rL (bestN st seen i).toList, i64 i]) (.yield 1, [rL (bestN st seen seen.length).toList]) rfl (by simp)]
 ·simp (disch := first | assumption | omega) only [S0, reduceIte, reduceCtorEq, reduceAdd, reduceEqDiff, Int.reduceBEq, reduceLT, reduceLE]
 ·intro i hi hlt
  have hb : InB seen (i : Int) := InB_nat.2 hi
  show Er T _ (_ ++ [rL (bestN st seen i).toList, i64 i]) = some (.cont, [rL (bestStep st (bestN st seen i) (atI seen (i : Int))).toList, i64 ((i : Int) + 1)])
  unfold bestStep
  cases ho : bestN st seen i with
  | none =>
   cases hs : (atI seen (i : Int)).state == st
   ·simp (disch := first | assumption | omega) only [S0, reduceIte, reduceCtorEq, reduceAdd, reduceEqDiff, Int.reduceBEq, reduceLT, reduceLE, S_row, S_one, rL_emp, hlt, hs, Option.toList, List.isEmpty_nil, Bool.false_eq_true]
   ·simp (disch := first | assumption | omega) only [S0, reduceIte, reduceCtorEq, reduceAdd, reduceEqDiff, Int.reduceBEq, reduceLT, reduceLE, S_row, S_one, rL_emp, hlt, hs, Option.toList, List.isEmpty_nil]
  | some b =>
   have hb0 : InB [b] 0 := by unfold InB; simp
   have ha : atI [b] 0 = b := rfl
   cases hs : (atI seen (i : Int)).state == st
   ·simp (disch := first | assumption | omega) only [S0, reduceIte, reduceCtorEq, reduceAdd, reduceEqDiff, Int.reduceBEq, reduceLT, reduceLE, S_row, S_one, rL_emp, hlt, hs, Option.toList, List.isEmpty_cons, Bool.false_eq_true]
   ·cases hv : decide (b.vote < (atI seen (i : Int)).vote)
    ·simp (disch := first | assumption | omega) only [S0, reduceIte, reduceCtorEq, reduceAdd, reduceEqDiff, Int.reduceBEq, reduceLT, reduceLE, S_row, S_one, rL_emp, rL_ne, hlt, hs, hv, ha, Option.toList, List.isEmpty_cons, Bool.false_eq_true]
    ·simp (disch := first | assumption | omega) only [S0, reduceIte, reduceCtorEq, reduceAdd, reduceEqDiff, Int.reduceBEq, reduceLT, reduceLE, S_row, S_one, rL_emp, rL_ne, hlt, hs, hv, ha, Option.toList, List.isEmpty_cons]
 ·intro hlt
  simp (disch := first | assumption | omega) only [S0, reduceIte, reduceCtorEq, reduceAdd, reduceEqDiff, Int.reduceBEq, reduceLT, reduceLE, hlt]
theorem impl_chooseOf_2 (r_ballot r_vote r_state r_cmd_kind r_cmd_id r_cmd_src r_cmd_dst r_cmd_amt r_attr_seq : Int) (r_attr_deps : (List Int)) (seen : List TRow) (hl : 0 < seen.length) (hx : r_attr_deps.length ≤ 1099511627776) : Fun T 36 [i64 r_ballot, i64 r_vote, i64 r_state, i64 r_cmd_kind, i64 r_cmd_id, i64 r_cmd_src, i64 r_cmd_dst, i64 r_cmd_amt, i64 r_attr_seq, rL r_attr_deps, rL seen] = some [.bool (!likeM seen ⟨r_ballot, r_vote, r_state, ⟨r_cmd_kind, r_cmd_id, r_cmd_src, r_cmd_dst, r_cmd_amt⟩, ⟨r_attr_seq, r_attr_deps⟩⟩)] := by
 rw [Fun_k (t := tm36) rfl]; unfold tm36; unfold likeM
 have hb : InB seen 0 := by unfold InB; omega
 have e : decide ((⟨r_ballot, r_vote, r_state, ⟨r_cmd_kind, r_cmd_id, r_cmd_src, r_cmd_dst, r_cmd_amt⟩, ⟨r_attr_seq, r_attr_deps⟩⟩ : TRow).attr = (atI seen 0).attr) = decide ((⟨r_attr_seq, r_attr_deps⟩ : TAttr) = ⟨(atI seen 0).attr.seq, (atI seen 0).attr.deps⟩) := rfl
 clear hl
 (refine fork_in ?_; repeat' (refine fork_eq (fun _ => ?_) (fun _ => ?_) <;> try simp (disch := first | assumption | omega) only [S0, reduceIte, reduceCtorEq, reduceAdd, reduceEqDiff, Int.reduceBEq, reduceLT, reduceLE, S_row, S_eqs, impl_SameAttr, *]))
theorem ix_chooseOf_2 (seen : List TRow) (h0 : 0 < seen.length) (xs : List TRow) (hx : xs.length ≤ 1099511627776) (hq : ∀ x ∈ xs, x.attr.deps.length ≤ 1099511627776) : Fun T 35 [rL xs, rL seen] = some [i64 (ixF (fun r => !likeM seen r) xs)] := by
 rw [Fun_k (t := tm35) rfl]; unfold tm35
 simp (disch := first | assumption | omega) only [S0, reduceIte, reduceCtorEq, reduceAdd, reduceEqDiff, Int.reduceBEq, reduceLT, reduceLE, S_row, *]
 rw [findX 1 xs (fun r => !likeM seen r) (fun i => [i64 i])]
 ·cases h : xs.any (fun r => !likeM seen r)
  ·have e : ixF (fun r => !likeM seen r) xs = -1 := by
    have h2 := ixF_any (fun r => !likeM seen r) xs
    rw [h] at h2
    unfold ixF at h2 ⊢
    split at h2 <;> simp_all
   rw [e]; simp (disch := first | assumption | omega) only [S0, reduceIte, reduceCtorEq, reduceAdd, reduceEqDiff, Int.reduceBEq, reduceLT, reduceLE]
  ·simp (disch := first | assumption | omega) only [S0, reduceIte, reduceCtorEq, reduceAdd, reduceEqDiff, Int.reduceBEq, reduceLT, reduceLE]
 ·intro i hi hb hl hp
  have hq' := hq _ (at_mem hi)
  try simp only at hq' hp
  (refine fork_in ?_; repeat' (refine fork_eq (fun _ => ?_) (fun _ => ?_) <;> try simp (disch := first | assumption | omega) only [S0, reduceIte, reduceCtorEq, reduceAdd, reduceEqDiff, Int.reduceBEq, reduceLT, reduceLE, S_row, impl_chooseOf_2, *]))
 ·intro i hi hb hl hp
  have hq' := hq _ (at_mem hi)
  try simp only at hq' hp
  (refine fork_in ?_; repeat' (refine fork_eq (fun _ => ?_) (fun _ => ?_) <;> try simp (disch := first | assumption | omega) only [S0, reduceIte, reduceCtorEq, reduceAdd, reduceEqDiff, Int.reduceBEq, reduceLT, reduceLE, S_row, impl_chooseOf_2, *]))
 ·intro hl
  (refine fork_in ?_; repeat' (refine fork_eq (fun _ => ?_) (fun _ => ?_) <;> try simp (disch := first | assumption | omega) only [S0, reduceIte, reduceCtorEq, reduceAdd, reduceEqDiff, Int.reduceBEq, reduceLT, reduceLE, *]))
theorem ct_chooseOf_2 (seen : List TRow) (h0 : 0 < seen.length) (xs : List TRow) (hx : xs.length ≤ 1099511627776) (hq : ∀ x ∈ xs, x.attr.deps.length ≤ 1099511627776) : Fun T 34 [rL xs, rL seen] = some [.bool (xs.any (fun r => !likeM seen r))] := by
 rw [Fun_k (t := tm34) rfl]; unfold tm34
 (refine fork_in ?_; repeat' (refine fork_eq (fun _ => ?_) (fun _ => ?_) <;> try simp (disch := first | assumption | omega) only [S0, reduceIte, reduceCtorEq, reduceAdd, reduceEqDiff, Int.reduceBEq, reduceLT, reduceLE, ix_chooseOf_2, ixF_any, *]))
theorem impl_isMajority (n k : Int) (hg : isGrp n = true) : Fun T 15 [i64 n, i64 k] = some [.bool (decide (n / 2 < k))] := by
 rw [Fun_k (t := tm15) rfl]; unfold tm15
 have hn := isGrp_rng hg
 simp (disch := first | assumption | omega) only [S0, reduceIte, reduceCtorEq, reduceAdd, reduceEqDiff, Int.reduceBEq, reduceLT, reduceLE]
theorem spec_Majority (n : Int) : Fun T 39 [i64 n] = some [i64 (if isGrp n then n / 2 + 1 else 0), .bool (isGrp n)] := by
 rw [Fun_k (t := tm39) rfl]; unfold tm39
 cases hg : isGrp n
 ·simp (disch := first | assumption | omega) only [S0, reduceIte, reduceCtorEq, reduceAdd, reduceEqDiff, Int.reduceBEq, reduceLT, reduceLE, spec_IsGroup, hg, Bool.false_eq_true]
 ·have hn := isGrp_rng hg
  simp (disch := first | assumption | omega) only [S0, reduceIte, reduceCtorEq, reduceAdd, reduceEqDiff, Int.reduceBEq, reduceLT, reduceLE, spec_IsGroup, hg]
theorem impl_ChooseOf_1 (r_ballot r_vote r_state r_cmd_kind r_cmd_id r_cmd_src r_cmd_dst r_cmd_amt r_attr_seq : Int) (r_attr_deps : (List Int)) (n : Int) (hg : isGrp n = true) (hx : r_attr_deps.length ≤ 1099511627776) : Fun T 18 [i64 r_ballot, i64 r_vote, i64 r_state, i64 r_cmd_kind, i64 r_cmd_id, i64 r_cmd_src, i64 r_cmd_dst, i64 r_cmd_amt, i64 r_attr_seq, rL r_attr_deps, i64 n] = some [.bool (!(rowOk n ⟨r_ballot, r_vote, r_state, ⟨r_cmd_kind, r_cmd_id, r_cmd_src, r_cmd_dst, r_cmd_amt⟩, ⟨r_attr_seq, r_attr_deps⟩⟩ && !(r_state == 3)))] := by
 rw [Fun_k (t := tm18) rfl]; unfold tm18
 (refine fork_in ?_; repeat' (refine fork_eq (fun _ => ?_) (fun _ => ?_) <;> try simp (disch := first | assumption | omega) only [S0, reduceIte, reduceCtorEq, reduceAdd, reduceEqDiff, Int.reduceBEq, reduceLT, reduceLE, impl_goodRow, Bool.not_not, *]))
theorem ix_ChooseOf_1 (n : Int) (hg : isGrp n = true) (xs : List TRow) (hx : xs.length ≤ 1099511627776) (hq : ∀ x ∈ xs, x.attr.deps.length ≤ 1099511627776) : Fun T 17 [rL xs, i64 n] = some [i64 (ixF (fun r => !(rowOk n r && !(r.state == 3))) xs)] := by
 rw [Fun_k (t := tm17) rfl]; unfold tm17
 simp (disch := first | assumption | omega) only [S0, reduceIte, reduceCtorEq, reduceAdd, reduceEqDiff, Int.reduceBEq, reduceLT, reduceLE, S_row, *]
 rw [findX 1 xs (fun r => !(rowOk n r && !(r.state == 3))) (fun i => [i64 i])]
 ·cases h : xs.any (fun r => !(rowOk n r && !(r.state == 3)))
  ·have e : ixF (fun r => !(rowOk n r && !(r.state == 3))) xs = -1 := by
    have h2 := ixF_any (fun r => !(rowOk n r && !(r.state == 3))) xs
    rw [h] at h2
    unfold ixF at h2 ⊢
    split at h2 <;> simp_all
   rw [e]; simp (disch := first | assumption | omega) only [S0, reduceIte, reduceCtorEq, reduceAdd, reduceEqDiff, Int.reduceBEq, reduceLT, reduceLE]
  ·simp (disch := first | assumption | omega) only [S0, reduceIte, reduceCtorEq, reduceAdd, reduceEqDiff, Int.reduceBEq, reduceLT, reduceLE]
 ·intro i hi hb hl hp
  have hq' := hq _ (at_mem hi)
  try simp only at hq' hp
  (refine fork_in ?_; repeat' (refine fork_eq (fun _ => ?_) (fun _ => ?_) <;> try simp (disch := first | assumption | omega) only [S0, reduceIte, reduceCtorEq, reduceAdd, reduceEqDiff, Int.reduceBEq, reduceLT, reduceLE, S_row, impl_ChooseOf_1, *]))
 ·intro i hi hb hl hp
  have hq' := hq _ (at_mem hi)
  try simp only at hq' hp
  (refine fork_in ?_; repeat' (refine fork_eq (fun _ => ?_) (fun _ => ?_) <;> try simp (disch := first | assumption | omega) only [S0, reduceIte, reduceCtorEq, reduceAdd, reduceEqDiff, Int.reduceBEq, reduceLT, reduceLE, S_row, impl_ChooseOf_1, *]))
 ·intro hl
  (refine fork_in ?_; repeat' (refine fork_eq (fun _ => ?_) (fun _ => ?_) <;> try simp (disch := first | assumption | omega) only [S0, reduceIte, reduceCtorEq, reduceAdd, reduceEqDiff, Int.reduceBEq, reduceLT, reduceLE, *]))
theorem ct_ChooseOf_1 (n : Int) (hg : isGrp n = true) (xs : List TRow) (hx : xs.length ≤ 1099511627776) (hq : ∀ x ∈ xs, x.attr.deps.length ≤ 1099511627776) : Fun T 16 [rL xs, i64 n] = some [.bool (xs.any (fun r => !(rowOk n r && !(r.state == 3))))] := by
 rw [Fun_k (t := tm16) rfl]; unfold tm16
 (refine fork_in ?_; repeat' (refine fork_eq (fun _ => ?_) (fun _ => ?_) <;> try simp (disch := first | assumption | omega) only [S0, reduceIte, reduceCtorEq, reduceAdd, reduceEqDiff, Int.reduceBEq, reduceLT, reduceLE, ix_ChooseOf_1, ixF_any, *]))
theorem impl_chooseOf (n : Int) (seen : List TRow) (hg : isGrp n = true) (h0 : 0 < seen.length) (hl : seen.length ≤ 5) (hr : ∀ r ∈ seen, rowOk n r = true) :
  Fun T 30 [i64 n, rL seen] = some [i64 (chooseM n seen).1, i64 (chooseM n seen).2.1.kind, i64 (chooseM n seen).2.1.id, i64 (chooseM n seen).2.1.src, i64 (chooseM n seen).2.1.dst, i64 (chooseM n seen).2.1.amt, i64 (chooseM n seen).2.2.seq, rL (chooseM n seen).2.2.deps] := by
 rw [Fun_k (t := tm30) rfl]; unfold tm30; unfold chooseM
 have hn := isGrp_rng hg
 have hd : ∀ r ∈ seen, r.attr.deps.length ≤ 5 := fun r hr' => by have := rowOk_deps (hr r hr') hg; omega
 have hd2 : ∀ r ∈ seen, r.attr.deps.length ≤ 1099511627776 := fun r hr' => by have := hd r hr'; omega
 have hb0 : InB seen 0 := by unfold InB; omega
 have hl2 : seen.length ≤ 100 := by omega
 have hl3 : seen.length ≤ 1099511627776 := by omega
 cases h2 : bestN 2 seen seen.length with
 | some b =>
  have hb : b ∈ seen := by
   rw [accN_best] at h2
   have h1 := accN_rng 2 seen seen.length
   split at h2
   ·cases h2
   ·simp only [Option.some.injEq] at h2
    subst h2
    exact at_memI (by unfold InB; omega)
  have hbl := hd _ hb
  have hb1 : InB [b] 0 := by unfold InB; simp
  have ha : atI [b] 0 = b := rfl
  simp (disch := first | assumption | omega) only [S0, reduceIte, reduceCtorEq, reduceAdd, reduceEqDiff, Int.reduceBEq, reduceLT, reduceLE, impl_chooseOf_1, h2, rL_emp, rL_ne, S_row, impl_Attr_copied, ha, Option.toList, List.isEmpty_cons]
 | none =>
  have hll : likeN seen seen.length = seen.all fun r => likeM seen r := allB_all seen _
  have e : (seen.any fun r => !likeM seen r) = !likeN seen seen.length := by rw [hll, List.not_all_eq_any_not]
  cases hk : likeN seen seen.length
  ·cases h1 : bestN 1 seen seen.length with
   | none => simp (disch := first | assumption | omega) only [S0, reduceIte, reduceCtorEq, reduceAdd, reduceEqDiff, Int.reduceBEq, reduceLT, reduceLE, impl_chooseOf_1, h1, h2, rL_emp, rL_ne, S_row, ct_chooseOf_2, e, hk, impl_noneAttr, Option.toList, List.isEmpty_nil, Bool.false_eq_true]
   | some b =>
    have hb1 : InB [b] 0 := by unfold InB; simp
    have ha : atI [b] 0 = b := rfl
    simp (disch := first | assumption | omega) only [S0, reduceIte, reduceCtorEq, reduceAdd, reduceEqDiff, Int.reduceBEq, reduceLT, reduceLE, impl_chooseOf_1, h1, h2, rL_emp, rL_ne, S_row, ct_chooseOf_2, e, hk, impl_noneAttr, Option.toList, List.isEmpty_nil, List.isEmpty_cons, Bool.false_eq_true]
    rw [loopN seen.length (fun i => [i64 i, i64 (joinN n seen i).seq, rL (joinN n seen i).deps]) (.yield 1, [i64 (joinN n seen seen.length).seq, rL (joinN n seen seen.length).deps]) rfl (by simp)]
    ·simp (disch := first | assumption | omega) only [S0, reduceIte, reduceCtorEq, reduceAdd, reduceEqDiff, Int.reduceBEq, reduceLT, reduceLE, S_row, rL_ne, ha]
    ·intro i hi hlt
     have hb : InB seen (i : Int) := InB_nat.2 hi
     have hjl := joinN_len n seen i
     have hrd := rowOk_deps (hr _ (at_mem hi)) hg
     show _ = some (Kind.cont, [i64 ((i : Int) + 1), i64 (joinN n seen (i + 1)).seq, rL (joinN n seen (i + 1)).deps])
     rw [joinN_succ]
     cases hs : (atI seen (i : Int)).state == 1
     ·simp (disch := first | assumption | omega) only [S0, reduceIte, reduceCtorEq, reduceAdd, reduceEqDiff, Int.reduceBEq, reduceLT, reduceLE, S_row, hlt, hs, Bool.false_eq_true]
     ·simp (disch := first | assumption | omega) only [S0, reduceIte, reduceCtorEq, reduceAdd, reduceEqDiff, Int.reduceBEq, reduceLT, reduceLE, S_row, hlt, hs, impl_Attr_join]
    ·intro hlt
     simp (disch := first | assumption | omega) only [S0, reduceIte, reduceCtorEq, reduceAdd, reduceEqDiff, Int.reduceBEq, reduceLT, reduceLE, hlt]
  ·have hbl := hd _ (at_memI hb0)
   simp (disch := first | assumption | omega) only [S0, reduceIte, reduceCtorEq, reduceAdd, reduceEqDiff, Int.reduceBEq, reduceLT, reduceLE, impl_chooseOf_1, h2, rL_emp, rL_ne, S_row, ct_chooseOf_2, e, hk, impl_Attr_copied, Option.toList, List.isEmpty_nil, Bool.false_eq_true]
theorem spec_l8Choose (n : Int) (seen : List TRow) (hg : isGrp n = true) (h0 : 0 < seen.length) (hl : seen.length ≤ 5) (hr : ∀ r ∈ seen, rowOk n r = true) :
  Fun T 50 [i64 n, rL seen] = some [i64 (chooseM n seen).1, i64 (chooseM n seen).2.1.kind, i64 (chooseM n seen).2.1.id, i64 (chooseM n seen).2.1.src, i64 (chooseM n seen).2.1.dst, i64 (chooseM n seen).2.1.amt, i64 (chooseM n seen).2.2.seq, rL (chooseM n seen).2.2.deps] := by
 rw [Fun_k (t := tm50) rfl]; unfold tm50; unfold chooseM
 have hn := isGrp_rng hg
 have hd : ∀ r ∈ seen, r.attr.deps.length ≤ 5 := fun r hr' => by have := rowOk_deps (hr r hr') hg; omega
 have hb0 : InB seen 0 := by unfold InB; omega
 simp (disch := first | assumption | omega) only [S0, reduceIte, reduceCtorEq, reduceAdd, reduceEqDiff, Int.reduceBEq, reduceLT, reduceLE, spec_l3None]
 rw [loopN seen.length (fun i => [i64 (accN 2 seen i), i64 (accN 1 seen i), .bool (likeN seen i), i64 i, i64 (joinN n seen i).seq, rL (joinN n seen i).deps]) (.yield 1, [i64 (accN 2 seen seen.length), i64 (accN 1 seen seen.length), .bool (likeN seen seen.length), i64 (joinN n seen seen.length).seq, rL (joinN n seen seen.length).deps]) rfl (by simp)]
 ·rw [accN_best, accN_best]
  have q1 := accN_rng 1 seen seen.length
  have q2 := accN_rng 2 seen seen.length
  generalize accN 2 seen seen.length = p2 at q2 ⊢
  generalize accN 1 seen seen.length = p1 at q1 ⊢
  by_cases c2 : p2 < 0
  ·have d2 : decide (0 ≤ p2) = false := by simp; omega
   rw [if_pos c2]
   cases hk : likeN seen seen.length
   ·by_cases c1 : p1 < 0
    ·have d1 : decide (0 ≤ p1) = false := by simp; omega
     rw [if_pos c1]
     simp (disch := first | assumption | omega) only [S0, reduceIte, reduceCtorEq, reduceAdd, reduceEqDiff, Int.reduceBEq, reduceLT, reduceLE, d1, d2, hk, spec_l3None, Bool.false_eq_true]
    ·have d1 : decide (0 ≤ p1) = true := by simp; omega
     have hb1 : InB seen p1 := by unfold InB; omega
     rw [if_neg c1]
     simp (disch := first | assumption | omega) only [S0, reduceIte, reduceCtorEq, reduceAdd, reduceEqDiff, Int.reduceBEq, reduceLT, reduceLE, d1, d2, hk, S_row, Bool.false_eq_true]
   ·have hbl := hd _ (at_memI hb0)
    simp (disch := first | assumption | omega) only [S0, reduceIte, reduceCtorEq, reduceAdd, reduceEqDiff, Int.reduceBEq, reduceLT, reduceLE, d2, hk, S_row, spec_l4OwnAttr]
  ·have d2 : decide (0 ≤ p2) = true := by simp; omega
   have hb2 : InB seen p2 := by unfold InB; omega
   have hbl := hd _ (at_memI hb2)
   rw [if_neg c2]
   simp (disch := first | assumption | omega) only [S0, reduceIte, reduceCtorEq, reduceAdd, reduceEqDiff, Int.reduceBEq, reduceLT, reduceLE, d2, S_row, spec_l4OwnAttr]
 ·intro i hi hlt
  have hb : InB seen (i : Int) := InB_nat.2 hi
  have hjl := joinN_len n seen i
  have hrd := rowOk_deps (hr _ (at_mem hi)) hg
  have hrd2 := hd _ (at_mem hi)
  have q1 := accN_rng 1 seen i
  have q2 := accN_rng 2 seen i
  have hlk : likeN seen (i + 1) = (likeN seen i && likeM seen (atI seen (i : Int))) := rfl
  have e9 : decide ((atI seen (i : Int)).attr = (atI seen 0).attr) = decide ((⟨(atI seen (i : Int)).attr.seq, (atI seen (i : Int)).attr.deps⟩ : TAttr) = ⟨(atI seen 0).attr.seq, (atI seen 0).attr.deps⟩) := rfl
  have hcase : (atI seen (i : Int)).state = 2 ∨ (atI seen (i : Int)).state = 1 ∨ ((atI seen (i : Int)).state == 2) = false ∧ ((atI seen (i : Int)).state == 1) = false := by
   by_cases h1 : (atI seen (i : Int)).state = 2
   ·exact .inl h1
   ·by_cases h2 : (atI seen (i : Int)).state = 1
    ·exact .inr (.inl h2)
    ·exact .inr (.inr ⟨by simpa using h1, by simpa using h2⟩)
  show _ = some (Kind.cont, [i64 (accN 2 seen (i + 1)), i64 (accN 1 seen (i + 1)), .bool (likeN seen (i + 1)), i64 ((i : Int) + 1), i64 (joinN n seen (i + 1)).seq, rL (joinN n seen (i + 1)).deps])
  rw [hlk]
  rw [joinN_succ, accN_succ, accN_succ]
  unfold likeM
  generalize accN 2 seen i = p2 at q2 ⊢
  generalize accN 1 seen i = p1 at q1 ⊢
  generalize joinN n seen i = jj at hjl ⊢
  generalize likeN seen i = lk
  have hjj : jj.deps.length ≤ (atI seen (i : Int)).attr.deps.length := by omega
  have hjj2 : jj.deps.length ≤ 10000000000 := by omega
  have hrd3 : (atI seen (i : Int)).attr.deps.length ≤ 1099511627776 := by omega
  rcases hcase with h | h | ⟨h1, h2⟩
  ·by_cases c2 : p2 < 0
   ·have d2 : decide (p2 < 0) = true := by simpa using c2
    simp (disch := first | assumption | omega) only [S0, reduceIte, reduceCtorEq, reduceAdd, reduceEqDiff, Int.reduceBEq, reduceLT, reduceLE, S_row, S_eqs, hlt, h, d2] <;> repeat' (refine fork_eq (fun _ => ?_) (fun _ => ?_) <;> try simp (disch := first | assumption | omega) only [S0, reduceIte, reduceCtorEq, reduceAdd, reduceEqDiff, Int.reduceBEq, reduceLT, reduceLE, S_row, S_eqs, *, h, spec_SameAttr])
   ·have d2 : decide (p2 < 0) = false := by simpa using c2
    have hb2 : InB seen p2 := by unfold InB; omega
    simp (disch := first | assumption | omega) only [S0, reduceIte, reduceCtorEq, reduceAdd, reduceEqDiff, Int.reduceBEq, reduceLT, reduceLE, S_row, S_eqs, hlt, h, d2] <;> repeat' (refine fork_eq (fun _ => ?_) (fun _ => ?_) <;> try simp (disch := first | assumption | omega) only [S0, reduceIte, reduceCtorEq, reduceAdd, reduceEqDiff, Int.reduceBEq, reduceLT, reduceLE, S_row, S_eqs, *, h, spec_SameAttr])
  ·by_cases c1 : p1 < 0
   ·have d1 : decide (p1 < 0) = true := by simpa using c1
    simp (disch := first | assumption | omega) only [S0, reduceIte, reduceCtorEq, reduceAdd, reduceEqDiff, Int.reduceBEq, reduceLT, reduceLE, S_row, S_eqs, hlt, h, d1, spec_l3Join] <;> repeat' (refine fork_eq (fun _ => ?_) (fun _ => ?_) <;> try simp (disch := first | assumption | omega) only [S0, reduceIte, reduceCtorEq, reduceAdd, reduceEqDiff, Int.reduceBEq, reduceLT, reduceLE, S_row, S_eqs, *, h, spec_SameAttr, spec_l3Join])
   ·have d1 : decide (p1 < 0) = false := by simpa using c1
    have hb1 : InB seen p1 := by unfold InB; omega
    simp (disch := first | assumption | omega) only [S0, reduceIte, reduceCtorEq, reduceAdd, reduceEqDiff, Int.reduceBEq, reduceLT, reduceLE, S_row, S_eqs, hlt, h, d1, spec_l3Join] <;> repeat' (refine fork_eq (fun _ => ?_) (fun _ => ?_) <;> try simp (disch := first | assumption | omega) only [S0, reduceIte, reduceCtorEq, reduceAdd, reduceEqDiff, Int.reduceBEq, reduceLT, reduceLE, S_row, S_eqs, *, h, spec_SameAttr, spec_l3Join])
  ·simp (disch := first | assumption | omega) only [S0, reduceIte, reduceCtorEq, reduceAdd, reduceEqDiff, Int.reduceBEq, reduceLT, reduceLE, S_row, S_eqs, hlt, h1, h2] <;> repeat' (refine fork_eq (fun _ => ?_) (fun _ => ?_) <;> try simp (disch := first | assumption | omega) only [S0, reduceIte, reduceCtorEq, reduceAdd, reduceEqDiff, Int.reduceBEq, reduceLT, reduceLE, S_row, S_eqs, *, spec_SameAttr])
 ·intro hlt
  simp (disch := first | assumption | omega) only [S0, reduceIte, reduceCtorEq, reduceAdd, reduceEqDiff, Int.reduceBEq, reduceLT, reduceLE, hlt]
theorem spec_ChooseOf (n : Int) (seen : List TRow) (hs : smRows seen) : Fun T 38 [i64 n, rL seen] = some [i64 (chooseR n seen).1, i64 (chooseR n seen).2.1.kind, i64 (chooseR n seen).2.1.id, i64 (chooseR n seen).2.1.src, i64 (chooseR n seen).2.1.dst, i64 (chooseR n seen).2.1.amt, i64 (chooseR n seen).2.2.1.seq, rL (chooseR n seen).2.2.1.deps, .bool (chooseR n seen).2.2.2] := by
 rw [Fun_k (t := tm38) rfl]; unfold tm38; unfold chooseR
 obtain ⟨hs1, hs2⟩ := hs
 cases hg : isGrp n
 ·have e : seenOk n seen = false := by unfold seenOk; rw [hg]; simp
  simp (disch := first | assumption | omega) only [S0, reduceIte, reduceCtorEq, reduceAdd, reduceEqDiff, Int.reduceBEq, reduceLT, reduceLE, spec_Majority, hg, e, S_nil, Bool.false_eq_true]
 have hn := isGrp_rng hg
 by_cases h1 : n / 2 < (seen.length : Int)
 rotate_left
 ·have e : seenOk n seen = false := by unfold seenOk; simp [h1]
  have d : inR (seen.length : Int) (n / 2 + 1) n = false := by unfold inR; simp; omega
  simp (disch := first | assumption | omega) only [S0, reduceIte, reduceCtorEq, reduceAdd, reduceEqDiff, Int.reduceBEq, reduceLT, reduceLE, spec_Majority, spec_l1In, hg, e, d, S_nil, Bool.false_eq_true]
 by_cases h2 : (seen.length : Int) ≤ n
 rotate_left
 ·have e : seenOk n seen = false := by unfold seenOk; simp [h2]
  have d : inR (seen.length : Int) (n / 2 + 1) n = false := by unfold inR; simp; omega
  simp (disch := first | assumption | omega) only [S0, reduceIte, reduceCtorEq, reduceAdd, reduceEqDiff, Int.reduceBEq, reduceLT, reduceLE, spec_Majority, spec_l1In, hg, e, d, S_nil, Bool.false_eq_true]
 have d : inR (seen.length : Int) (n / 2 + 1) n = true := by unfold inR; simp; omega
 simp (disch := first | assumption | omega) only [S0, reduceIte, reduceCtorEq, reduceAdd, reduceEqDiff, Int.reduceBEq, reduceLT, reduceLE, spec_Majority, spec_l1In, hg, d, Bool.false_eq_true]
 rw [allF 1 seen (fun r => rowOk n r && !(r.state == 3)) [i64 0, i64 0, i64 0, i64 0, i64 0, i64 0, i64 0, .rows 1 [], .bool false]]
 ·cases ha : seen.all fun r => rowOk n r && !(r.state == 3)
  ·have e : seenOk n seen = false := by unfold seenOk; rw [ha]; simp
   simp (disch := first | assumption | omega) only [S0, reduceIte, reduceCtorEq, reduceAdd, reduceEqDiff, Int.reduceBEq, reduceLT, reduceLE, e, S_nil, Bool.false_eq_true]
  ·have e : seenOk n seen = true := by unfold seenOk; rw [ha, hg]; simp [h1, h2]
   obtain ⟨-, -, -, hr⟩ := seenOk_spec e
   have hr' : ∀ r ∈ seen, rowOk n r = true := fun r h => (hr r h).1
   have h0 : 0 < seen.length := by omega
   have h5 : seen.length ≤ 5 := by omega
   simp (disch := first | assumption | omega) only [S0, reduceIte, reduceCtorEq, reduceAdd, reduceEqDiff, Int.reduceBEq, reduceLT, reduceLE, e, spec_l8Choose]
 ·intro i hi hb hlt hm
  have hq := hs2 _ hm
  (refine fork_in ?_; repeat' (refine fork_eq (fun _ => ?_) (fun _ => ?_) <;> try simp (disch := first | assumption | omega) only [S0, reduceIte, reduceCtorEq, reduceAdd, reduceEqDiff, Int.reduceBEq, reduceLT, reduceLE, S_row, spec_l4Row, *]))
 ·intro hlt
  simp (disch := first | assumption | omega) only [S0, reduceIte, reduceCtorEq, reduceAdd, reduceEqDiff, Int.reduceBEq, reduceLT, reduceLE, hlt]
theorem impl_ChooseOf (n : Int) (seen : List TRow) (hs : smRows seen) : Fun T 13 [i64 n, rL seen] = some [i64 (chooseR n seen).1, i64 (chooseR n seen).2.1.kind, i64 (chooseR n seen).2.1.id, i64 (chooseR n seen).2.1.src, i64 (chooseR n seen).2.1.dst, i64 (chooseR n seen).2.1.amt, i64 (chooseR n seen).2.2.1.seq, rL (chooseR n seen).2.2.1.deps, .bool (chooseR n seen).2.2.2] := by
 rw [Fun_k (t := tm13) rfl]; unfold tm13; unfold chooseR
 obtain ⟨hs1, hs2⟩ := hs
 have hs3 : ∀ x ∈ seen, x.attr.deps.length ≤ 1099511627776 := fun x hx => by have := hs2 x hx; omega
 have hs4 : seen.length ≤ 1099511627776 := by omega
 cases hg : isGrp n
 ·have e : seenOk n seen = false := by unfold seenOk; rw [hg]; simp
  simp (disch := first | assumption | omega) only [S0, reduceIte, reduceCtorEq, reduceAdd, reduceEqDiff, Int.reduceBEq, reduceLT, reduceLE, impl_IsGroup, hg, e, S_nil, Bool.false_eq_true]
 have hn := isGrp_rng hg
 by_cases h1 : n / 2 < (seen.length : Int)
 rotate_left
 ·have e : seenOk n seen = false := by unfold seenOk; simp [h1]
  have d : decide (n / 2 < (seen.length : Int)) = false := by simpa using h1
  simp (disch := first | assumption | omega) only [S0, reduceIte, reduceCtorEq, reduceAdd, reduceEqDiff, Int.reduceBEq, reduceLT, reduceLE, impl_IsGroup, impl_isMajority, hg, e, d, S_nil, Bool.false_eq_true]
 have d1 : decide (n / 2 < (seen.length : Int)) = true := by simpa using h1
 by_cases h2 : (seen.length : Int) ≤ n
 rotate_left
 ·have e : seenOk n seen = false := by unfold seenOk; simp [h2]
  have d : decide (n < (seen.length : Int)) = true := by simp; omega
  simp (disch := first | assumption | omega) only [S0, reduceIte, reduceCtorEq, reduceAdd, reduceEqDiff, Int.reduceBEq, reduceLT, reduceLE, impl_IsGroup, impl_isMajority, hg, e, d, d1, S_nil, Bool.false_eq_true]
 have d2 : decide (n < (seen.length : Int)) = false := by simp; omega
 have e3 : (seen.any fun r => !(rowOk n r && !(r.state == 3))) = !seen.all fun r => rowOk n r && !(r.state == 3) := by rw [List.not_all_eq_any_not]
 cases ha : seen.all fun r => rowOk n r && !(r.state == 3)
 ·have e : seenOk n seen = false := by unfold seenOk; rw [ha]; simp
  simp (disch := first | assumption | omega) only [S0, reduceIte, reduceCtorEq, reduceAdd, reduceEqDiff, Int.reduceBEq, reduceLT, reduceLE, impl_IsGroup, impl_isMajority, hg, e, d1, d2, e3, ha, ct_ChooseOf_1, S_nil, Bool.false_eq_true]
 ·have e : seenOk n seen = true := by unfold seenOk; rw [ha, hg]; simp [h1, h2]
  obtain ⟨-, -, -, hr⟩ := seenOk_spec e
  have hr' : ∀ r ∈ seen, rowOk n r = true := fun r h => (hr r h).1
  have h0 : 0 < seen.length := by omega
  have h5 : seen.length ≤ 5 := by omega
  simp (disch := first | assumption | omega) only [S0, reduceIte, reduceCtorEq, reduceAdd, reduceEqDiff, Int.reduceBEq, reduceLT, reduceLE, impl_IsGroup, impl_isMajority, hg, e, d1, d2, e3, ha, ct_ChooseOf_1, impl_chooseOf]
theorem cur_next (code : D) (hc : isBytes code) (a s : Int) (h0 : 0 ≤ a) (h1 : a ≤ 4611686018427387904) : ∃ v s', Fun T 5 [code, i64 a, u64 s] = some [i64 v, code, i64 (a + 1), u64 s'] ∧ 0 ≤ v ∧ v ≤ 255 := by
 rw [Fun_k (t := tm5) rfl]; unfold tm5
 obtain ⟨l1, l2⟩ := bytes_len hc
 by_cases hlt : a < (bLen code : Nat)
 ·obtain ⟨b1, b, b2, b3, b4⟩ := bytes_at hc h0 hlt
  have c8 := u8_conv b3 b4
  have d : decide (a < ((bLen code : Nat) : Int)) = true := by simpa using hlt
  have e : decide (a + 1 ≤ ((bLen code : Nat) : Int)) = true := by simp; omega
  simp (disch := first | assumption | omega) only [S0, reduceIte, reduceCtorEq, reduceAdd, reduceEqDiff, Int.reduceBEq, reduceLT, reduceLE, l1, b1, b2, c8, d, e, S_u64]
  exact ⟨_, _, rfl, b3, b4⟩
 ·have d : decide (a < ((bLen code : Nat) : Int)) = false := by simpa using hlt
  have e : decide (a + 1 ≤ ((bLen code : Nat) : Int)) = false := by simp; omega
  simp (disch := first | assumption | omega) only [S0, reduceIte, reduceCtorEq, reduceAdd, reduceEqDiff, Int.reduceBEq, reduceLT, reduceLE, l1, d, e, S_u64]
  exact ⟨_, _, rfl, (lowV_rng _).1, (lowV_rng _).2⟩
theorem cur_pick (code : D) (hc : isBytes code) (n a s : Int) (h0 : 0 ≤ a) (h1 : a ≤ 2305843009213693952) : ∃ v a' s', Fun T 4 [i64 n, code, i64 a, u64 s] = some [i64 v, code, i64 a', u64 s'] ∧ 0 ≤ v ∧ (1 ≤ n → v < n) ∧ a ≤ a' ∧ a' ≤ a + 2 := by
 rw [Fun_k (t := tm4) rfl]; unfold tm4
 by_cases hn : n ≤ 1
 ·have d : decide (n ≤ 1) = true := by simpa using hn
  simp (disch := first | assumption | omega) only [S0, reduceIte, reduceCtorEq, reduceAdd, reduceEqDiff, Int.reduceBEq, reduceLT, reduceLE, d]
  exact ⟨_, _, _, rfl, by omega, by omega, by omega, by omega⟩
 ·have d : decide (n ≤ 1) = false := by simpa using hn
  obtain ⟨v, s', e, v1, v2⟩ := cur_next code hc a s h0 (by omega)
  by_cases hn2 : 200 < n
  ·have d2 : decide (200 < n) = true := by simpa using hn2
   obtain ⟨w, s2, e2, w1, w2⟩ := cur_next code hc (a + 1) s' (by omega) (by omega)
   have r1 : (Prim.bin .mul).run [i64 v, i64 256] = some [i64 (v * 256)] := run_mulI (by omega) (by omega)
   have r2 := run_rem' (a := v * 256 + w) (b := n) (by omega) (by omega)
   simp (disch := first | assumption | omega) only [S0, reduceIte, reduceCtorEq, reduceAdd, reduceEqDiff, Int.reduceBEq, reduceLT, reduceLE, d, d2, e, e2, r1, r2]
   exact ⟨_, _, _, rfl, Int.emod_nonneg _ (by omega), fun _ => Int.emod_lt_of_pos _ (by omega), by omega, by omega⟩
  ·have d2 : decide (200 < n) = false := by simpa using hn2
   have r2 := run_rem' (a := v) (b := n) (by omega) (by omega)
   simp (disch := first | assumption | omega) only [S0, reduceIte, reduceCtorEq, reduceAdd, reduceEqDiff, Int.reduceBEq, reduceLT, reduceLE, d, d2, e, r2]
   exact ⟨_, _, _, rfl, Int.emod_nonneg _ (by omega), fun _ => Int.emod_lt_of_pos _ (by omega), by omega, by omega⟩
theorem cur_one (code : D) (hc : isBytes code) (n a s : Int) (h0 : 0 ≤ a) (h1 : a ≤ 2305843009213693952) : ∃ v a' s', Fun T 8 [i64 n, code, i64 a, u64 s] = some [.bool v, code, i64 a', u64 s'] ∧ a ≤ a' ∧ a' ≤ a + 2 := by
 rw [Fun_k (t := tm8) rfl]; unfold tm8
 obtain ⟨v, a', s', e, v1, v2, v3, v4⟩ := cur_pick code hc n a s h0 h1
 simp (disch := first | assumption | omega) only [S0, reduceIte, reduceCtorEq, reduceAdd, reduceEqDiff, Int.reduceBEq, reduceLT, reduceLE, e]
 exact ⟨_, _, _, rfl, v3, v4⟩
theorem cur_among (code : D) (hc : isBytes code) (xs : List Int) (a s : Int) (hx : 0 < xs.length) (hx2 : xs.length ≤ 10000000000) (h0 : 0 ≤ a) (h1 : a ≤ 2305843009213693952) : ∃ v a' s', Fun T 3 [rL xs, code, i64 a, u64 s] = some [i64 v, code, i64 a', u64 s'] ∧ v ∈ xs ∧ a ≤ a' ∧ a' ≤ a + 2 := by
 rw [Fun_k (t := tm3) rfl]; unfold tm3
 obtain ⟨v, a', s', e, v1, v2, v3, v4⟩ := cur_pick code hc xs.length a s h0 h1
 have hb : InB xs v := by unfold InB; omega
 simp (disch := first | assumption | omega) only [S0, reduceIte, reduceCtorEq, reduceAdd, reduceEqDiff, Int.reduceBEq, reduceLT, reduceLE, e, S_row]
 exact ⟨_, _, _, rfl, at_memI hb, v3, v4⟩
theorem cur_cmd (code : D) (hc : isBytes code) (a s : Int) (h0 : 0 ≤ a) (h1 : a ≤ 1152921504606846976) : ∃ (c : TCmd) (a' s' : Int), Fun T 7 [code, i64 a, u64 s] = some [i64 c.kind, i64 c.id, i64 c.src, i64 c.dst, i64 c.amt, code, i64 a', u64 s'] ∧ (1 ≤ c.amt → c.kind = 1) ∧ (0 ≤ c.amt ∧ c.amt ≤ 30) ∧ a ≤ a' ∧ a' ≤ a + 10 := by
 rw [Fun_k (t := tm7) rfl]; unfold tm7
 obtain ⟨v1, a1, s1, e1, p1, q1, g1, k1⟩ := cur_pick code hc 9 a s h0 (by omega)
 obtain ⟨v2, a2, s2, e2, p2, q2, g2, k2⟩ := cur_pick code hc 4 a1 s1 (by omega) (by omega)
 obtain ⟨v3, a3, s3, e3, p3, q3, g3, k3⟩ := cur_pick code hc 30 a2 s2 (by omega) (by omega)
 obtain ⟨v4, a4, s4, e4, p4, q4, g4, k4⟩ := cur_pick code hc 3 a3 s3 (by omega) (by omega)
 obtain ⟨v5, a5, s5, e5, g5, k5⟩ := cur_one code hc 4 a4 s4 (by omega) (by omega)
 have r2 := run_rem' (a := v2 + 1 + v4) (b := 4) (by omega) (by omega)
 have q1' := q1 (by omega)
 have q2' := q2 (by omega)
 have q3' := q3 (by omega)
 have q4' := q4 (by omega)
 cases v5
 ·simp (disch := first | assumption | omega) only [S0, reduceIte, reduceCtorEq, reduceAdd, reduceEqDiff, Int.reduceBEq, reduceLT, reduceLE, e1, e2, e3, e4, e5, r2]
  exact ⟨⟨_, _, _, _, _⟩, _, _, rfl, fun _ => rfl, by simp only; omega, by omega, by omega⟩
 ·simp (disch := first | assumption | omega) only [S0, reduceIte, reduceCtorEq, reduceAdd, reduceEqDiff, Int.reduceBEq, reduceLT, reduceLE, e1, e2, e3, e4, e5, r2]
  exact ⟨⟨_, _, _, _, _⟩, _, _, rfl, by simp only; omega, by simp only; omega, by omega, by omega⟩
theorem spec_l3None_any (n : Int) (h0 : 0 ≤ n) (h1 : n ≤ 1000) : Fun T 9 [i64 n] = some [i64 0, rL (List.replicate n.toNat (0 : Int))] := by
 rw [Fun_k (t := tm9) rfl]; unfold tm9
 (refine fork_in ?_; repeat' (refine fork_eq (fun _ => ?_) (fun _ => ?_) <;> try simp (disch := first | assumption | omega) only [S0, reduceIte, reduceCtorEq, reduceAdd, reduceEqDiff, Int.reduceBEq, reduceLT, reduceLE, S_make, *]))
theorem cur_row (code : D) (hc : isBytes code) (n a s : Int) (hn : 0 ≤ n) (hn2 : n ≤ 10) (h0 : 0 ≤ a) (h1 : a ≤ 576460752303423488) : ∃ (r : TRow) (a' s' : Int), Fun T 6 [i64 n, code, i64 a, u64 s] = some [i64 r.ballot, i64 r.vote, i64 r.state, i64 r.cmd.kind, i64 r.cmd.id, i64 r.cmd.src, i64 r.cmd.dst, i64 r.cmd.amt, i64 r.attr.seq, rL r.attr.deps, code, i64 a', u64 s'] ∧ (r.attr.deps.length : Int) = n ∧ a ≤ a' ∧ a' ≤ a + 50 := by
 rw [Fun_k (t := tm6) rfl]; unfold tm6
 obtain ⟨v1, a1, s1, e1, p1, g1, k1⟩ := cur_among code hc [0, 0, 8, 9, 17] a s (by simp) (by simp) h0 (by omega)
 obtain ⟨v2, a2, s2, e2, p2, q2, g2, k2⟩ := cur_pick code hc 4 a1 s1 (by omega) (by omega)
 obtain ⟨c3, a3, s3, e3, -, -, g3, k3⟩ := cur_cmd code hc a2 s2 (by omega) (by omega)
 obtain ⟨v4, a4, s4, e4, p4, q4, g4, k4⟩ := cur_pick code hc 5 a3 s3 (by omega) (by omega)
 simp (disch := first | assumption | omega) only [S0, reduceIte, reduceCtorEq, reduceAdd, reduceEqDiff, Int.reduceBEq, reduceLT, reduceLE, e1, e2, e3, e4, S_mk]
 generalize hE : Er T (Tm.loop _ _) _ = E
 have key : ∃ q, E = some q ∧ ∃ (ds : List Int) (a' s' : Int), q = (.yield 1, [code, i64 a', u64 s', rL ds]) ∧ (ds.length : Int) = n ∧ a ≤ a' ∧ a' ≤ a + 40 := by
  rw [← hE]
  refine loopEx (γ := Nat × Int × Int × List Int) (fun c => n.toNat - c.1) (fun c => (c.1 : Int) ≤ n ∧ c.2.2.2.length = c.1 ∧ a4 ≤ c.2.1 ∧ c.2.1 ≤ a4 + 2 * c.1) (fun c => [i64 c.1, code, i64 c.2.1, u64 c.2.2.1, rL c.2.2.2]) _ (0, a4, s4, []) rfl (by simp; omega) ?_
  rintro ⟨i, a5, s5, ds⟩ ⟨h2, h3, h4, h5⟩
  simp only at h2 h3 h4 h5
  by_cases hi : (i : Int) < n
  ·have d : decide ((i : Int) < n) = true := by simpa using hi
   obtain ⟨v6, a6, s6, e6, p6, q6, g6, k6⟩ := cur_pick code hc 3 a5 s5 (by omega) (by omega)
   have z : ds.length + ([v6] : List Int).length ≤ 100000000000 := by simp only [List.length_cons, List.length_nil]; omega
   refine .inl ⟨(i + 1, a6, s6, ds ++ [v6]), ?_, ⟨by simp only; omega, by simp [h3], by simp only; omega, by simp only; omega⟩, by simp only; omega⟩
   simp (disch := first | assumption | omega) only [S0, reduceIte, reduceCtorEq, reduceAdd, reduceEqDiff, Int.reduceBEq, reduceLT, reduceLE, d, e6, S_mk, S_app]
  ·have d : decide ((i : Int) < n) = false := by simpa using hi
   refine .inr ⟨(.yield 1, [code, i64 a5, u64 s5, rL ds]), ?_, by simp, ds, a5, s5, rfl, by omega, by omega, by omega⟩
   simp (disch := first | assumption | omega) only [S0, reduceIte, reduceCtorEq, reduceAdd, reduceEqDiff, Int.reduceBEq, reduceLT, reduceLE, d]
 obtain ⟨q, rfl, ds, a5, s5, rfl, h2, h3, h4⟩ := key
 obtain ⟨v6, a6, s6, e6, g6, k6⟩ := cur_one code hc 2 a5 s5 (by omega) (by omega)
 cases hz : v2 == 0
 ·cases v6
  ·simp (disch := first | assumption | omega) only [S0, reduceIte, reduceCtorEq, reduceAdd, reduceEqDiff, Int.reduceBEq, reduceLT, reduceLE, e6, hz]
   exact ⟨⟨_, _, _, ⟨_, _, _, _, _⟩, ⟨_, _⟩⟩, _, _, rfl, h2, by omega, by omega⟩
  ·simp (disch := first | assumption | omega) only [S0, reduceIte, reduceCtorEq, reduceAdd, reduceEqDiff, Int.reduceBEq, reduceLT, reduceLE, e6, hz]
   exact ⟨⟨_, _, _, ⟨_, _, _, _, _⟩, ⟨_, _⟩⟩, _, _, rfl, h2, by omega, by omega⟩
 ·have e7 := spec_l3None_any n (by omega) (by omega)
  cases v6
  ·simp (disch := first | assumption | omega) only [S0, reduceIte, reduceCtorEq, reduceAdd, reduceEqDiff, Int.reduceBEq, reduceLT, reduceLE, e6, e7, hz]
   exact ⟨⟨_, _, _, ⟨_, _, _, _, _⟩, ⟨_, _⟩⟩, _, _, rfl, by simp only [List.length_replicate]; omega, by omega, by omega⟩
  ·simp (disch := first | assumption | omega) only [S0, reduceIte, reduceCtorEq, reduceAdd, reduceEqDiff, Int.reduceBEq, reduceLT, reduceLE, e6, e7, hz]
   exact ⟨⟨_, _, _, ⟨_, _, _, _, _⟩, ⟨_, _⟩⟩, _, _, rfl, by simp only [List.length_replicate]; omega, by omega, by omega⟩
theorem drawChooseOf (code : D) (hc : isBytes code) : ∃ (n : Int) (seen : List TRow), Fun T 2 [code] = some [i64 n, rL seen] ∧ seen.length ≤ 10 ∧ (0 ≤ n ∧ n ≤ 5) ∧ ∀ r ∈ seen, (r.attr.deps.length : Int) = n := by
 rw [Fun_k (t := tm2) rfl]; unfold tm2
 obtain ⟨n, a1, s1, e1, p1, g1, k1⟩ := cur_among code hc [3, 3, 5, 4] 0 0 (by simp) (by simp) (by omega) (by omega)
 have hn : 3 ≤ n ∧ n ≤ 5 := by simp at p1; omega
 obtain ⟨v2, a2, s2, e2, p2, q2, g2, k2⟩ := cur_pick code hc 20 a1 s1 (by omega) (by omega)
 obtain ⟨v3, a3, s3, e3, p3, q3, g3, k3⟩ := cur_pick code hc 6 a2 s2 (by omega) (by omega)
 have q2' := q2 (by omega)
 have q3' := q3 (by omega)
 have b1 : 0 ≤ v2 / 19 ∧ v2 / 19 ≤ 1 := by omega
 have b2 : 0 ≤ v3 / 5 ∧ v3 / 5 ≤ 1 := by omega
 have b3 : 0 ≤ n / 2 ∧ n / 2 ≤ 2 := by omega
 have u0 : D.int .u64 0 = u64 0 := rfl
 simp (disch := first | assumption | omega) only [S0, reduceIte, reduceCtorEq, reduceAdd, reduceEqDiff, Int.reduceBEq, reduceLT, reduceLE, e1, e2, e3, S_mk, u0]
 generalize hM : n / 2 + 1 - v2 / 19 + v3 / 5 = M
 generalize hE : Er T (Tm.loop _ _) _ = E
 have key : ∃ q, E = some q ∧ ∃ (seen : List TRow) (a' s' : Int), q = (.yield 1, [rL seen, code, i64 a', u64 s']) ∧ seen.length ≤ 10 ∧ ∀ r ∈ seen, (r.attr.deps.length : Int) = n := by
  rw [← hE]
  refine loopEx (γ := Nat × Int × Int × List TRow) (fun c => c.1) (fun c => c.1 ≤ 10 ∧ c.2.2.2.length ≤ 10 - c.1 ∧ 0 ≤ c.2.1 ∧ c.2.1 ≤ 1000 * (20 - c.1) ∧ ∀ r ∈ c.2.2.2, (r.attr.deps.length : Int) = n) (fun c => [rL c.2.2.2, i64 c.1, code, i64 c.2.1, u64 c.2.2.1]) _ (M.toNat, a3, s3, []) (by rw [show (M.toNat : Int) = M by omega]; rfl) (by simp; omega) ?_
  rintro ⟨m, a4, s4, seen⟩ ⟨h2, h3, h4, h5, h6⟩
  simp only at h2 h3 h4 h5 h6
  by_cases hi : 0 < m
  ·have d : decide (0 < (m : Int)) = true := by simpa using hi
   obtain ⟨r, a5, s5, e5, p5, g5, k5⟩ := cur_row code hc n a4 s4 (by omega) (by omega) (by omega) (by omega)
   obtain ⟨w6, a6, s6, e6, g6, k6⟩ := cur_one code hc 12 a5 s5 (by omega) (by omega)
   have fin : ∀ (x : TRow) (a7 s7 : Int), (x.attr.deps.length : Int) = n → a5 ≤ a7 → a7 ≤ a5 + 10 → ∃ c' : Nat × Int × Int × List TRow, [rL (seen ++ [x]), i64 ((m : Int) - 1), code, i64 a7, u64 s7] = [rL c'.2.2.2, i64 c'.1, code, i64 c'.2.1, u64 c'.2.2.1] ∧
     (c'.1 ≤ 10 ∧ c'.2.2.2.length ≤ 10 - c'.1 ∧ 0 ≤ c'.2.1 ∧ c'.2.1 ≤ 1000 * (20 - c'.1) ∧ ∀ r ∈ c'.2.2.2, (r.attr.deps.length : Int) = n) ∧ c'.1 < m := by
    intro x a7 s7 hx g7 k7
    refine ⟨(m - 1, a7, s7, seen ++ [x]), by simp only; rw [show ((m - 1 : Nat) : Int) = (m : Int) - 1 by omega], ⟨by simp only; omega, by simp; omega, by simp only; omega, by simp only; omega, ?_⟩, by simp only; omega⟩
    intro y hy
    simp only [List.mem_append, List.mem_singleton] at hy
    rcases hy with hy | rfl
    ·exact h6 y hy
    ·exact hx
   have goon : ∀ (x : TRow) (a7 s7 : Int) (t : Option (Kind × List D)), (x.attr.deps.length : Int) = n → a5 ≤ a7 → a7 ≤ a5 + 10 → t = some (.cont, [rL (seen ++ [x]), i64 ((m : Int) - 1), code, i64 a7, u64 s7]) → ∃ c' : Nat × Int × Int × List TRow, t = some (.cont, [rL c'.2.2.2, i64 c'.1, code, i64 c'.2.1, u64 c'.2.2.1]) ∧
     (c'.1 ≤ 10 ∧ c'.2.2.2.length ≤ 10 - c'.1 ∧ 0 ≤ c'.2.1 ∧ c'.2.1 ≤ 1000 * (20 - c'.1) ∧ ∀ r ∈ c'.2.2.2, (r.attr.deps.length : Int) = n) ∧ c'.1 < m := by
    intro x a7 s7 t hx g7 k7 ht
    obtain ⟨c', f1, f2, f3⟩ := fin x a7 s7 hx g7 k7
    exact ⟨c', by rw [ht, f1], f2, f3⟩
   left
   have z : ∀ x : TRow, seen.length + ([x] : List TRow).length ≤ 100000000000 := by intro x; simp only [List.length_cons, List.length_nil]; omega
   -- where the state stands behind the first test
   have step : ∀ (x : TRow) (a7 s7 : Int), (x.attr.deps.length : Int) = n → True := fun _ _ _ _ => trivial
   by_cases hs : 0 < seen.length
   ·have d2 : decide (0 < (seen.length : Int)) = true := by simpa using hs
    have hb : InB seen 0 := by unfold InB; omega
    have h0 := h6 _ (at_memI hb)
    have h0' : (atI seen 0).attr.deps.length ≤ 10000000000 := by omega
    cases c3 : r.state == 3
    ·obtain ⟨w7, a7, s7, e7, g7, k7⟩ := cur_one code hc 3 a5 s5 (by omega) (by omega)
     cases w7
     ·refine goon r a7 s7 _ p5 g7 (by omega) ?_
      have z1 := z r
      simp (disch := first | assumption | omega) only [S0, reduceIte, reduceCtorEq, reduceAdd, reduceEqDiff, Int.reduceBEq, reduceLT, reduceLE, d, e5, c3, d2, e7, S_mk, S_app]
     ·refine goon (atI seen 0) a7 s7 _ h0 g7 (by omega) ?_
      have z1 := z (atI seen 0)
      simp (disch := first | assumption | omega) only [S0, reduceIte, reduceCtorEq, reduceAdd, reduceEqDiff, Int.reduceBEq, reduceLT, reduceLE, d, e5, c3, d2, e7, S_row, spec_l4OwnRow, S_mk, S_app]
    ·obtain ⟨w7, a7, s7, e7, g7, k7⟩ := cur_one code hc 3 a6 s6 (by omega) (by omega)
     cases w6 <;> cases w7
     ·refine goon { r with state := 1 } a7 s7 _ p5 (by omega) (by omega) ?_
      have z1 := z { r with state := 1 }
      simp (disch := first | assumption | omega) only [S0, reduceIte, reduceCtorEq, reduceAdd, reduceEqDiff, Int.reduceBEq, reduceLT, reduceLE, d, e5, e6, c3, d2, e7, S_mk, S_app]
     ·refine goon (atI seen 0) a7 s7 _ h0 (by omega) (by omega) ?_
      have z1 := z (atI seen 0)
      simp (disch := first | assumption | omega) only [S0, reduceIte, reduceCtorEq, reduceAdd, reduceEqDiff, Int.reduceBEq, reduceLT, reduceLE, d, e5, e6, c3, d2, e7, S_row, spec_l4OwnRow, S_mk, S_app]
     ·refine goon r a7 s7 _ p5 (by omega) (by omega) ?_
      have z1 := z r
      simp (disch := first | assumption | omega) only [S0, reduceIte, reduceCtorEq, reduceAdd, reduceEqDiff, Int.reduceBEq, reduceLT, reduceLE, d, e5, e6, c3, d2, e7, S_mk, S_app]
     ·refine goon (atI seen 0) a7 s7 _ h0 (by omega) (by omega) ?_
      have z1 := z (atI seen 0)
      simp (disch := first | assumption | omega) only [S0, reduceIte, reduceCtorEq, reduceAdd, reduceEqDiff, Int.reduceBEq, reduceLT, reduceLE, d, e5, e6, c3, d2, e7, S_row, spec_l4OwnRow, S_mk, S_app]
   ·have d2 : decide (0 < (seen.length : Int)) = false := by simpa using hs
    cases c3 : r.state == 3
    ·refine goon r a5 s5 _ p5 (by omega) (by omega) ?_
     have z1 := z r
     simp (disch := first | assumption | omega) only [S0, reduceIte, reduceCtorEq, reduceAdd, reduceEqDiff, Int.reduceBEq, reduceLT, reduceLE, d, e5, c3, d2, S_mk, S_app]
    ·cases w6
     ·refine goon { r with state := 1 } a6 s6 _ p5 (by omega) (by omega) ?_
      have z1 := z { r with state := 1 }
      simp (disch := first | assumption | omega) only [S0, reduceIte, reduceCtorEq, reduceAdd, reduceEqDiff, Int.reduceBEq, reduceLT, reduceLE, d, e5, e6, c3, d2, S_mk, S_app]
     ·refine goon r a6 s6 _ p5 (by omega) (by omega) ?_
      have z1 := z r
      simp (disch := first | assumption | omega) only [S0, reduceIte, reduceCtorEq, reduceAdd, reduceEqDiff, Int.reduceBEq, reduceLT, reduceLE, d, e5, e6, c3, d2, S_mk, S_app]
  ·have d : decide (0 < (m : Int)) = false := by simpa using hi
   refine .inr ⟨(.yield 1, [rL seen, code, i64 a4, u64 s4]), ?_, by simp, seen, a4, s4, rfl, by omega, h6⟩
   simp (disch := first | assumption | omega) only [S0, reduceIte, reduceCtorEq, reduceAdd, reduceEqDiff, Int.reduceBEq, reduceLT, reduceLE, d]
 obtain ⟨q, rfl, seen, a5, s5, rfl, h2, h3⟩ := key
 simp (disch := first | assumption | omega) only [S0, reduceIte, reduceCtorEq, reduceAdd, reduceEqDiff, Int.reduceBEq, reduceLT, reduceLE]
 exact ⟨_, _, rfl, h2, by omega, h3⟩
theorem laws_big (code more : D) (hc : isBytes code) (hm : isBytes more) : ∃ b, Fun T 1 [code, more] = some [.bool b] := by
 rw [Fun_k (t := tm1) rfl]; unfold tm1
 obtain ⟨l1, l2⟩ := bytes_len hc
 obtain ⟨l3, l4⟩ := bytes_len hm
 cases d : decide (1048576 < ((bLen code : Nat) : Int))
 ·simp (disch := first | assumption | omega) only [S0, reduceIte, reduceCtorEq, reduceAdd, reduceEqDiff, Int.reduceBEq, reduceLT, reduceLE, l1, l3, d]
  exact ⟨_, rfl⟩
 ·simp (disch := first | assumption | omega) only [S0, reduceIte, reduceCtorEq, reduceAdd, reduceEqDiff, Int.reduceBEq, reduceLT, reduceLE, l1, l3, d]
  exact ⟨_, rfl⟩
theorem same_ints (xs ys : List Int) (hx : xs.length ≤ 1099511627776) : Fun T 54 [rL xs, rL ys] = some [.bool (decide (xs = ys))] := by
 rw [Fun_k (t := tm54) rfl]; unfold tm54
 by_cases hl : ys.length = xs.length
 ·have e1 : ((xs.length : Int) == ys.length) = true := by simp [hl]
  simp (disch := first | assumption | omega) only [S0, reduceIte, reduceCtorEq, reduceAdd, reduceEqDiff, Int.reduceBEq, reduceLT, reduceLE, e1]
  rw [scanF 1 xs.length (fun i => decide (atI xs (i : Int) = atI ys (i : Int))) [.bool false], allB_eq hl.symm]
  ·cases decide (xs = ys) <;> simp (disch := first | assumption | omega) only [S0, reduceIte, reduceCtorEq, reduceAdd, reduceEqDiff, Int.reduceBEq, reduceLT, reduceLE]
  ·intro i hi hlt
   have hb : InB xs (i : Int) := InB_nat.2 hi
   have hb2 : InB ys (i : Int) := InB_nat.2 (by omega)
   have e : (!(atI xs (i : Int) == atI ys (i : Int))) = !decide (atI xs (i : Int) = atI ys (i : Int)) := by rw [Bool.beq_eq_decide_eq]
   (refine fork_in ?_; repeat' (refine fork_eq (fun _ => ?_) (fun _ => ?_) <;> try simp (disch := first | assumption | omega) only [S0, reduceIte, reduceCtorEq, reduceAdd, reduceEqDiff, Int.reduceBEq, reduceLT, reduceLE, S_row, hlt, e, *]))
  ·intro hlt
   simp (disch := first | assumption | omega) only [S0, reduceIte, reduceCtorEq, reduceAdd, reduceEqDiff, Int.reduceBEq, reduceLT, reduceLE, hlt]
 ·have e1 : ((xs.length : Int) == ys.length) = false := by simp; omega
  rw [eq_len (fun e => hl e.symm)]
  simp (disch := first | assumption | omega) only [S0, reduceIte, reduceCtorEq, reduceAdd, reduceEqDiff, Int.reduceBEq, reduceLT, reduceLE, e1]
theorem same_attr (s t : Int) (xs ys : List Int) (hx : xs.length ≤ 1099511627776) : Fun T 53 [i64 s, rL xs, i64 t, rL ys] = some [.bool (decide ((⟨s, xs⟩ : TAttr) = ⟨t, ys⟩))] := by
 rw [Fun_k (t := tm53) rfl]; unfold tm53
 have e : decide ((⟨s, xs⟩ : TAttr) = ⟨t, ys⟩) = (s == t && decide (xs = ys)) := by simp [TAttr.mk.injEq, Bool.beq_eq_decide_eq]
 rw [e]
 cases h : s == t
 ·simp (disch := first | assumption | omega) only [S0, reduceIte, reduceCtorEq, reduceAdd, reduceEqDiff, Int.reduceBEq, reduceLT, reduceLE, same_ints, h]
 ·simp (disch := first | assumption | omega) only [S0, reduceIte, reduceCtorEq, reduceAdd, reduceEqDiff, Int.reduceBEq, reduceLT, reduceLE, same_ints, h]
theorem impl_JoinAttr (n : Int) (s t : Int) (xs ys : List Int) (hx : xs.length ≤ 10000000000) (hy : ys.length ≤ 10000000000) (hg : isGrp n = true) (h1 : attrOk n ⟨s, xs⟩ = true) (h2 : attrOk n ⟨t, ys⟩ = true) :
  Fun T 55 [i64 n, i64 s, rL xs, i64 t, rL ys] = some [i64 (joinA ⟨s, xs⟩ ⟨t, ys⟩).seq, rL (joinA ⟨s, xs⟩ ⟨t, ys⟩).deps, .bool true] := by
 rw [Fun_k (t := tm55) rfl]; unfold tm55
 have hl : xs.length ≤ ys.length := by
  have h3 := (attrOk_at h1).2.1
  have h4 := (attrOk_at h2).2.1
  simp only at h3 h4
  omega
 have hx' : xs.length ≤ 1099511627776 := by omega
 have hy' : ys.length ≤ 1099511627776 := by omega
 simp (disch := first | assumption | omega) only [S0, reduceIte, reduceCtorEq, reduceAdd, reduceEqDiff, Int.reduceBEq, reduceLT, reduceLE, impl_GoodAttr, impl_Attr_join, hg, h1, h2]
theorem law (code more : D) (hc : isBytes code) (hm : isBytes more) : Fun T 0 [code, more] = some [.bool true] := by
 rw [Fun_k (t := tm0) rfl]; unfold tm0
 obtain ⟨b, eb⟩ := laws_big code more hc hm
 cases b
 rotate_left
 ·simp (disch := first | assumption | omega) only [S0, reduceIte, reduceCtorEq, reduceAdd, reduceEqDiff, Int.reduceBEq, reduceLT, reduceLE, eb]
 obtain ⟨n, seen, e1, h1, h2, h3⟩ := drawChooseOf code hc
 obtain ⟨k, rows, f1, g1, g2, g3⟩ := drawChooseOf more hm
 have sm : smRows seen := ⟨by omega, fun r hr => by have := h3 r hr; omega⟩
 have sm2 : smRows rows := ⟨by omega, fun r hr => by have := g3 r hr; omega⟩
 have l1 : (chooseR n seen).2.2.1.deps.length ≤ 10000000000 := by have := chooseR_len n seen; omega
 have l2 : (chooseR k rows).2.2.1.deps.length ≤ 10000000000 := by have := chooseR_len k rows; omega
 have l1' : (chooseR n seen).2.2.1.deps.length ≤ 1099511627776 := by omega
 have l2' : (chooseR k rows).2.2.1.deps.length ≤ 1099511627776 := by omega
 have last : ∀ ρ : List D, True := fun _ => trivial
 cases hok : seenOk n seen
 ·have e2 : (chooseR n seen).2.2.2 = false := by unfold chooseR; rw [hok]; rfl
  simp (disch := first | assumption | omega) only [S0, reduceIte, reduceCtorEq, reduceAdd, reduceEqDiff, Int.reduceBEq, reduceLT, reduceLE, eb, e1, f1, impl_ChooseOf, spec_ChooseOf, S_eqs, same_attr, e2]
 ·obtain ⟨q1, q2, q3, q4⟩ := seenOk_spec hok
  have hn := isGrp_rng q1
  have q0 : 0 < seen.length := by omega
  have sp := chooseM_spec q1 q0 (fun r hr => (q4 r hr).1)
  have ec : chooseR n seen = ((chooseM n seen).1, (chooseM n seen).2.1, (chooseM n seen).2.2, true) := by unfold chooseR; rw [hok]; rfl
  rw [ec] at l1 l1'
  simp only at l1 l1'
  have i1 := impl_ChooseOf n seen sm
  have i2 := spec_ChooseOf n seen sm
  rw [ec] at i1 i2
  simp only at i1 i2
  generalize hw : (chooseM n seen).1 = why at sp i1 i2
  generalize hcm : (chooseM n seen).2.1 = c at sp i1 i2
  generalize hca : (chooseM n seen).2.2 = a at sp i1 i2 l1 l1'
  simp (disch := first | assumption | omega) only [S0, reduceIte, reduceCtorEq, reduceAdd, reduceEqDiff, Int.reduceBEq, reduceLT, reduceLE, eb, e1, i1, i2, S_eqs, same_attr]
  rw [loopN seen.length (fun i => [.bool (anyN 2 seen i), .bool (anyN 1 seen i), i64 i]) (.yield 1, [.bool (anyN 2 seen seen.length), .bool (anyN 1 seen seen.length)]) rfl (by simp)]
  rotate_left
  ·intro i hi hlt
   have hb : InB seen (i : Int) := InB_nat.2 hi
   have ea : anyN 2 seen (i + 1) = (anyN 2 seen i || (atI seen (i : Int)).state == 2) := rfl
   have ep : anyN 1 seen (i + 1) = (anyN 1 seen i || (atI seen (i : Int)).state == 1) := rfl
   cases ha : anyN 2 seen i <;> cases hp : anyN 1 seen i
   ·simp (disch := first | assumption | omega) only [S0, reduceIte, reduceCtorEq, reduceAdd, reduceEqDiff, Int.reduceBEq, reduceLT, reduceLE, S_row, hlt, ea, ep, ha, hp, Bool.false_or, Bool.true_or]
   ·simp (disch := first | assumption | omega) only [S0, reduceIte, reduceCtorEq, reduceAdd, reduceEqDiff, Int.reduceBEq, reduceLT, reduceLE, S_row, hlt, ea, ep, ha, hp, Bool.false_or, Bool.true_or]
   ·simp (disch := first | assumption | omega) only [S0, reduceIte, reduceCtorEq, reduceAdd, reduceEqDiff, Int.reduceBEq, reduceLT, reduceLE, S_row, hlt, ea, ep, ha, hp, Bool.false_or, Bool.true_or]
   ·simp (disch := first | assumption | omega) only [S0, reduceIte, reduceCtorEq, reduceAdd, reduceEqDiff, Int.reduceBEq, reduceLT, reduceLE, S_row, hlt, ea, ep, ha, hp, Bool.false_or, Bool.true_or]
  ·intro hlt
   simp (disch := first | assumption | omega) only [S0, reduceIte, reduceCtorEq, reduceAdd, reduceEqDiff, Int.reduceBEq, reduceLT, reduceLE, hlt]
  have hx : ∀ i : Nat, i < seen.length → (atI seen (i : Int)).attr.deps.length ≤ 10000000000 ∧ (atI seen (i : Int)).attr.deps.length ≤ 1099511627776 := fun i hi => by have := h3 _ (at_mem hi); omega
  rcases sp.w with rfl | rfl | rfl
  ·have hmet := sp.w1 rfl
   have nn : anyN 2 seen seen.length = true ∨ anyN 1 seen seen.length = true := by
    cases ha : anyN 2 seen seen.length
    ·cases hp : anyN 1 seen seen.length
     ·have := sp.non ha hp; omega
     ·exact .inr rfl
    ·exact .inl rfl
   cases ha : anyN 2 seen seen.length <;> cases hp : anyN 1 seen seen.length
   ·simp [ha, hp] at nn
   all_goals (
    simp (disch := first | assumption | omega) only [S0, reduceIte, reduceCtorEq, reduceAdd, reduceEqDiff, Int.reduceBEq, reduceLT, reduceLE, ha, hp]
    rw [loopN seen.length (fun i => [.bool (metN c a seen i), i64 i]) (.yield 3, [.bool (metN c a seen seen.length)]) rfl (by simp)]
    ·simp (disch := first | assumption | omega) only [S0, reduceIte, reduceCtorEq, reduceAdd, reduceEqDiff, Int.reduceBEq, reduceLT, reduceLE, hmet]
    ·intro i hi hlt
     have hb : InB seen (i : Int) := InB_nat.2 hi
     obtain ⟨x1, x2⟩ := hx i hi
     have em : metN c a seen (i + 1) = (metN c a seen i || (decide ((atI seen (i : Int)).cmd = c) && decide ((atI seen (i : Int)).attr = a))) := rfl
     cases hm2 : metN c a seen i
     ·cases hcc : decide ((atI seen (i : Int)).cmd = c)
      ·simp (disch := first | assumption | omega) only [S0, reduceIte, reduceCtorEq, reduceAdd, reduceEqDiff, Int.reduceBEq, reduceLT, reduceLE, S_row, S_eqs, same_attr, hlt, em, hm2, hcc, Bool.false_or, Bool.false_and]
      ·simp (disch := first | assumption | omega) only [S0, reduceIte, reduceCtorEq, reduceAdd, reduceEqDiff, Int.reduceBEq, reduceLT, reduceLE, S_row, S_eqs, same_attr, hlt, em, hm2, hcc, Bool.false_or, Bool.true_and]
     ·simp (disch := first | assumption | omega) only [S0, reduceIte, reduceCtorEq, reduceAdd, reduceEqDiff, Int.reduceBEq, reduceLT, reduceLE, S_row, S_eqs, same_attr, hlt, em, hm2, Bool.true_or]
    ·intro hlt
     simp (disch := first | assumption | omega) only [S0, reduceIte, reduceCtorEq, reduceAdd, reduceEqDiff, Int.reduceBEq, reduceLT, reduceLE, hlt])
  ·have hg2 := sp.w2 rfl
   have na : anyN 2 seen seen.length = false := by
    cases ha : anyN 2 seen seen.length
    ·rfl
    ·have := sp.acc ha; omega
   have np : anyN 1 seen seen.length = true := by
    cases hp : anyN 1 seen seen.length
    ·have := sp.non na hp; omega
    ·rfl
   simp (disch := first | assumption | omega) only [S0, reduceIte, reduceCtorEq, reduceAdd, reduceEqDiff, Int.reduceBEq, reduceLT, reduceLE, na, np]
   rw [loopN seen.length (fun i => [i64 i]) (.yield 5, []) rfl (by simp)]
   ·simp (disch := first | assumption | omega) only [S0, reduceIte, reduceCtorEq, reduceAdd, reduceEqDiff, Int.reduceBEq, reduceLT, reduceLE, eb, f1, impl_ChooseOf, spec_ChooseOf, S_eqs, same_attr]
   ·intro i hi hlt
    have hb : InB seen (i : Int) := InB_nat.2 hi
    obtain ⟨x1, x2⟩ := hx i hi
    cases hs : (atI seen (i : Int)).state == 1
    ·simp (disch := first | assumption | omega) only [S0, reduceIte, reduceCtorEq, reduceAdd, reduceEqDiff, Int.reduceBEq, reduceLT, reduceLE, S_row, hlt, hs]
    ·obtain ⟨y1, y2, y3⟩ := hg2 i hi (by simpa using hs)
     have ej := impl_JoinAttr n a.seq (atI seen (i : Int)).attr.seq a.deps (atI seen (i : Int)).attr.deps l1 x1 q1 y1 y2
     have e4 : joinA ⟨a.seq, a.deps⟩ ⟨(atI seen (i : Int)).attr.seq, (atI seen (i : Int)).attr.deps⟩ = a := y3
     rw [e4] at ej
     simp (disch := first | assumption | omega) only [S0, reduceIte, reduceCtorEq, reduceAdd, reduceEqDiff, Int.reduceBEq, reduceLT, reduceLE, S_row, hlt, hs, ej, same_attr]
   ·intro hlt
    simp (disch := first | assumption | omega) only [S0, reduceIte, reduceCtorEq, reduceAdd, reduceEqDiff, Int.reduceBEq, reduceLT, reduceLE, hlt]
  ·obtain ⟨na, np⟩ := sp.w3 rfl
   simp (disch := first | assumption | omega) only [S0, reduceIte, reduceCtorEq, reduceAdd, reduceEqDiff, Int.reduceBEq, reduceLT, reduceLE, na, np, eb, f1, impl_ChooseOf, spec_ChooseOf, S_eqs, same_attr]
theorem hpure : ∀ ds, WTs [.sl 1 [.int .u8], .sl 1 [.int .u8]] ds → ∃ n, callN T n 0 ds = some [.bool true] := by
 intro ds h
 simp only [WTs] at h
 obtain ⟨d0, r0, rfl, w0, d1, r1, rfl, w1, rfl⟩ := h
 exact pure_of (law d0 d1 w0 w1)
end FnChoose
end Go.Proofs.Ytjoebpmeeampfaa
