/- What the terms of FnTables come to. -/
import Derived.Test.YtjoebpmeeampfaaFnTablesTab
namespace Go.Proofs.Ytjoebpmeeampfaa
namespace FnTables
open Go Go.Proofs.Ytjoebpmeeampfaa.Rf
open Nat (reduceAdd reduceEqDiff)
open Int (reduceLT reduceLE)
set_option linter.unusedSimpArgs false
set_option linter.unusedVariables false
set_option linter.unnecessarySimpa false
set_option maxHeartbeats 4000000
set_option maxRecDepth 10000
theorem impl_within (x lo up : Int) : Fun T 23 [i64 x, i64 lo, i64 up] = some [.bool (inR x lo up)] := by
 rw [Fun_k (t := tm23) rfl]; unfold tm23; unfold inR
 (refine fork_in ?_; repeat' (refine fork_eq (fun _ => ?_) (fun _ => ?_) <;> try simp (disch := first | assumption | omega) only [S0, reduceIte, reduceCtorEq, reduceAdd, reduceEqDiff, Int.reduceBEq, reduceLT, reduceLE, *]))
theorem spec_l1In (x lo up : Int) : Fun T 45 [i64 x, i64 lo, i64 up] = some [.bool (inR x lo up)] := by
 rw [Fun_k (t := tm45) rfl]; unfold tm45; unfold inR
 (refine fork_in ?_; repeat' (refine fork_eq (fun _ => ?_) (fun _ => ?_) <;> try simp (disch := first | assumption | omega) only [S0, reduceIte, reduceCtorEq, reduceAdd, reduceEqDiff, Int.reduceBEq, reduceLT, reduceLE, *]))
theorem impl_IsGroup (n : Int) : Fun T 15 [i64 n] = some [.bool (isGrp n)] := by
 rw [Fun_k (t := tm15) rfl]; unfold tm15; unfold isGrp
 (refine fork_in ?_; repeat' (refine fork_eq (fun _ => ?_) (fun _ => ?_) <;> try simp (disch := first | assumption | omega) only [S0, reduceIte, reduceCtorEq, reduceAdd, reduceEqDiff, Int.reduceBEq, reduceLT, reduceLE, *]))
theorem spec_IsGroup (n : Int) : Fun T 43 [i64 n] = some [.bool (isGrp n)] := by
 rw [Fun_k (t := tm43) rfl]; unfold tm43; unfold isGrp
 (refine fork_in ?_; repeat' (refine fork_eq (fun _ => ?_) (fun _ => ?_) <;> try simp (disch := first | assumption | omega) only [S0, reduceIte, reduceCtorEq, reduceAdd, reduceEqDiff, Int.reduceBEq, reduceLT, reduceLE, *]))
theorem impl_isAccount (n : Int) : Fun T 25 [i64 n] = some [.bool (inR n 0 3)] := by
 rw [Fun_k (t := tm25) rfl]; unfold tm25
 (refine fork_in ?_; repeat' (refine fork_eq (fun _ => ?_) (fun _ => ?_) <;> try simp (disch := first | assumption | omega) only [S0, reduceIte, reduceCtorEq, reduceAdd, reduceEqDiff, Int.reduceBEq, reduceLT, reduceLE, impl_within, *]))
theorem spec_l2Account (n : Int) : Fun T 50 [i64 n] = some [.bool (inR n 0 3)] := by
 rw [Fun_k (t := tm50) rfl]; unfold tm50
 (refine fork_in ?_; repeat' (refine fork_eq (fun _ => ?_) (fun _ => ?_) <;> try simp (disch := first | assumption | omega) only [S0, reduceIte, reduceCtorEq, reduceAdd, reduceEqDiff, Int.reduceBEq, reduceLT, reduceLE, spec_l1In, *]))
theorem spec_l2Code (k i f t a : Int) : Fun T 49 [i64 k, i64 i, i64 f, i64 t, i64 a] = some [i64 (cmdCode ⟨k, i, f, t, a⟩)] := by
 rw [Fun_k (t := tm49) rfl]; unfold tm49; unfold cmdCode
 (refine fork_in ?_; repeat' (refine fork_eq (fun _ => ?_) (fun _ => ?_) <;> try simp (disch := first | assumption | omega) only [S0, reduceIte, reduceCtorEq, reduceAdd, reduceEqDiff, Int.reduceBEq, reduceLT, reduceLE, spec_l2Account, spec_l1In, *]))
theorem spec_GoodCmd (k i f t a : Int) : Fun T 48 [i64 k, i64 i, i64 f, i64 t, i64 a] = some [.bool (cmdOk ⟨k, i, f, t, a⟩)] := by
 rw [Fun_k (t := tm48) rfl]; unfold tm48; unfold cmdOk
 (refine fork_in ?_; repeat' (refine fork_eq (fun _ => ?_) (fun _ => ?_) <;> try simp (disch := first | assumption | omega) only [S0, reduceIte, reduceCtorEq, reduceAdd, reduceEqDiff, Int.reduceBEq, reduceLT, reduceLE, spec_l2Code, S_eqs, cmdCode0, *]))
 all_goals (refine bool_fin ?_; simp only [Bool.and_eq_true, Bool.or_eq_true, Bool.not_eq_true', Bool.not_eq_false', Bool.and_eq_false_iff, Bool.or_eq_false_iff, Bool.false_eq_true, beq_iff_eq, beq_eq_false_iff_ne, decide_eq_true_eq, decide_eq_false_iff_not, ne_eq] at *; grind)
theorem impl_GoodCmd (k i f t a : Int) : Fun T 24 [i64 k, i64 i, i64 f, i64 t, i64 a] = some [.bool (cmdOk ⟨k, i, f, t, a⟩)] := by
 rw [Fun_k (t := tm24) rfl]; unfold tm24; unfold cmdOk
 (refine fork_in ?_; repeat' (refine fork_eq (fun _ => ?_) (fun _ => ?_) <;> try simp (disch := first | assumption | omega) only [S0, reduceIte, reduceCtorEq, reduceAdd, reduceEqDiff, Int.reduceBEq, reduceLT, reduceLE, impl_within, impl_isAccount, S_eqs, *]))
theorem spec_l3Inst (n rep no : Int) (hg : isGrp n = true) : Fun T 53 [i64 n, i64 rep, i64 no] = some [.bool (inst n rep no)] := by
 rw [Fun_k (t := tm53) rfl]; unfold tm53; unfold inst
 have hn := isGrp_rng hg
 (refine fork_in ?_; repeat' (refine fork_eq (fun _ => ?_) (fun _ => ?_) <;> try simp (disch := first | assumption | omega) only [S0, reduceIte, reduceCtorEq, reduceAdd, reduceEqDiff, Int.reduceBEq, reduceLT, reduceLE, spec_l1In, *]))
theorem impl_isInstance (n rep no : Int) : Fun T 33 [i64 n, i64 rep, i64 no] = some [.bool (isGrp n && inst n rep no)] := by
 rw [Fun_k (t := tm33) rfl]; unfold tm33; unfold inst
 cases hg : isGrp n
 ·(refine fork_in ?_; repeat' (refine fork_eq (fun _ => ?_) (fun _ => ?_) <;> try simp (disch := first | assumption | omega) only [S0, reduceIte, reduceCtorEq, reduceAdd, reduceEqDiff, Int.reduceBEq, reduceLT, reduceLE, impl_IsGroup, *]))
 have hn := isGrp_rng hg
 (refine fork_in ?_; repeat' (refine fork_eq (fun _ => ?_) (fun _ => ?_) <;> try simp (disch := first | assumption | omega) only [S0, reduceIte, reduceCtorEq, reduceAdd, reduceEqDiff, Int.reduceBEq, reduceLT, reduceLE, impl_IsGroup, impl_within, *]))
theorem spec_l1All (xs : List Int) (lo up : Int) (hx : xs.length ≤ 1099511627776) : Fun T 52 [rL xs, i64 lo, i64 up] = some [.bool (xs.all fun x => inR x lo up)] := by
 rw [Fun_k (t := tm52) rfl]; unfold tm52
 simp (disch := first | assumption | omega) only [S0, reduceIte, reduceCtorEq, reduceAdd, reduceEqDiff, Int.reduceBEq, reduceLT, reduceLE, S_row, *]
 rw [allX 1 xs (fun x => inR x lo up) [.bool false]]
 ·(refine fork_in ?_; repeat' (refine fork_eq (fun _ => ?_) (fun _ => ?_) <;> try simp (disch := first | assumption | omega) only [S0, reduceIte, reduceCtorEq, reduceAdd, reduceEqDiff, Int.reduceBEq, reduceLT, reduceLE, *]))
 ·intro i hi hb hl hp
  (refine fork_in ?_; repeat' (refine fork_eq (fun _ => ?_) (fun _ => ?_) <;> try simp (disch := first | assumption | omega) only [S0, reduceIte, reduceCtorEq, reduceAdd, reduceEqDiff, Int.reduceBEq, reduceLT, reduceLE, S_row, spec_l1In, *]))
 ·intro i hi hb hl hp
  (refine fork_in ?_; repeat' (refine fork_eq (fun _ => ?_) (fun _ => ?_) <;> try simp (disch := first | assumption | omega) only [S0, reduceIte, reduceCtorEq, reduceAdd, reduceEqDiff, Int.reduceBEq, reduceLT, reduceLE, S_row, spec_l1In, *]))
 ·intro hl
  (refine fork_in ?_; repeat' (refine fork_eq (fun _ => ?_) (fun _ => ?_) <;> try simp (disch := first | assumption | omega) only [S0, reduceIte, reduceCtorEq, reduceAdd, reduceEqDiff, Int.reduceBEq, reduceLT, reduceLE, *]))
theorem spec_l3Attr (n s : Int) (xs : List Int) (hx : xs.length ≤ 1099511627776) : Fun T 51 [i64 n, i64 s, rL xs] = some [.bool (attrOk n ⟨s, xs⟩)] := by
 rw [Fun_k (t := tm51) rfl]; unfold tm51; unfold attrOk
 (refine fork_in ?_; repeat' (refine fork_eq (fun _ => ?_) (fun _ => ?_) <;> try simp (disch := first | assumption | omega) only [S0, reduceIte, reduceCtorEq, reduceAdd, reduceEqDiff, Int.reduceBEq, reduceLT, reduceLE, spec_l1In, spec_l1All, *]))
theorem impl_GoodAttr_1 (x : Int) : Fun T 29 [i64 x] = some [.bool (!inR x 0 6)] := by
 rw [Fun_k (t := tm29) rfl]; unfold tm29
 (refine fork_in ?_; repeat' (refine fork_eq (fun _ => ?_) (fun _ => ?_) <;> try simp (disch := first | assumption | omega) only [S0, reduceIte, reduceCtorEq, reduceAdd, reduceEqDiff, Int.reduceBEq, reduceLT, reduceLE, impl_within, *]))
theorem ix_GoodAttr_1  (xs : List Int) (hx : xs.length ≤ 1099511627776) : Fun T 28 [rL xs] = some [i64 (ixF (fun x => !inR x 0 6) xs)] := by
 rw [Fun_k (t := tm28) rfl]; unfold tm28
 simp (disch := first | assumption | omega) only [S0, reduceIte, reduceCtorEq, reduceAdd, reduceEqDiff, Int.reduceBEq, reduceLT, reduceLE, S_row, *]
 rw [findX 1 xs (fun x => !inR x 0 6) (fun i => [i64 i])]
 ·cases h : xs.any (fun x => !inR x 0 6)
  ·have e : ixF (fun x => !inR x 0 6) xs = -1 := by
    have h2 := ixF_any (fun x => !inR x 0 6) xs
    rw [h] at h2
    unfold ixF at h2 ⊢
    split at h2 <;> simp_all
   rw [e]; simp (disch := first | assumption | omega) only [S0, reduceIte, reduceCtorEq, reduceAdd, reduceEqDiff, Int.reduceBEq, reduceLT, reduceLE]
  ·simp (disch := first | assumption | omega) only [S0, reduceIte, reduceCtorEq, reduceAdd, reduceEqDiff, Int.reduceBEq, reduceLT, reduceLE]
 ·intro i hi hb hl hp
  (refine fork_in ?_; repeat' (refine fork_eq (fun _ => ?_) (fun _ => ?_) <;> try simp (disch := first | assumption | omega) only [S0, reduceIte, reduceCtorEq, reduceAdd, reduceEqDiff, Int.reduceBEq, reduceLT, reduceLE, S_row, impl_GoodAttr_1, *]))
 ·intro i hi hb hl hp
  (refine fork_in ?_; repeat' (refine fork_eq (fun _ => ?_) (fun _ => ?_) <;> try simp (disch := first | assumption | omega) only [S0, reduceIte, reduceCtorEq, reduceAdd, reduceEqDiff, Int.reduceBEq, reduceLT, reduceLE, S_row, impl_GoodAttr_1, *]))
 ·intro hl
  (refine fork_in ?_; repeat' (refine fork_eq (fun _ => ?_) (fun _ => ?_) <;> try simp (disch := first | assumption | omega) only [S0, reduceIte, reduceCtorEq, reduceAdd, reduceEqDiff, Int.reduceBEq, reduceLT, reduceLE, *]))
theorem ct_GoodAttr_1  (xs : List Int) (hx : xs.length ≤ 1099511627776) : Fun T 27 [rL xs] = some [.bool (xs.any (fun x => !inR x 0 6))] := by
 rw [Fun_k (t := tm27) rfl]; unfold tm27
 (refine fork_in ?_; repeat' (refine fork_eq (fun _ => ?_) (fun _ => ?_) <;> try simp (disch := first | assumption | omega) only [S0, reduceIte, reduceCtorEq, reduceAdd, reduceEqDiff, Int.reduceBEq, reduceLT, reduceLE, ix_GoodAttr_1, ixF_any, *]))
theorem impl_GoodAttr (n s : Int) (xs : List Int) (hx : xs.length ≤ 1099511627776) : Fun T 26 [i64 n, i64 s, rL xs] = some [.bool (isGrp n && attrOk n ⟨s, xs⟩)] := by
 rw [Fun_k (t := tm26) rfl]; unfold tm26; unfold attrOk
 have e : xs.any (fun x => !inR x 0 6) = !xs.all fun x => inR x 0 6 := by rw [List.not_all_eq_any_not]
 (refine fork_in ?_; repeat' (refine fork_eq (fun _ => ?_) (fun _ => ?_) <;> try simp (disch := first | assumption | omega) only [S0, reduceIte, reduceCtorEq, reduceAdd, reduceEqDiff, Int.reduceBEq, reduceLT, reduceLE, impl_IsGroup, impl_within, ct_GoodAttr_1, e, Bool.not_not, *]))
theorem spec_l1Same (xs ys : List Int) (hx : xs.length ≤ 1099511627776) : Fun T 47 [rL xs, rL ys] = some [.bool (decide (xs = ys))] := by
 rw [Fun_k (t := tm47) rfl]; unfold tm47
 by_cases hl : ys.length = xs.length
 ·simp (disch := first | assumption | omega) only [S0, reduceIte, reduceCtorEq, reduceAdd, reduceEqDiff, Int.reduceBEq, reduceLT, reduceLE, *]
  rw [scanX 1 xs.length (fun i => decide (atI xs i = atI ys i)) [.bool false], allB_eq hl.symm]
  ·(refine fork_in ?_; repeat' (refine fork_eq (fun _ => ?_) (fun _ => ?_) <;> try simp (disch := first | assumption | omega) only [S0, reduceIte, reduceCtorEq, reduceAdd, reduceEqDiff, Int.reduceBEq, reduceLT, reduceLE, *]))
  ·intro i hi hp
   have hb : InB xs (i : Int) := InB_nat.2 hi
   have hb' : InB ys (i : Int) := InB_nat.2 (by omega)
   have h2 : decide ((i : Int) < xs.length) = true := by simp; omega
   have h3 : (atI xs i == atI ys i) = true := by simpa using hp
   (refine fork_in ?_; repeat' (refine fork_eq (fun _ => ?_) (fun _ => ?_) <;> try simp (disch := first | assumption | omega) only [S0, reduceIte, reduceCtorEq, reduceAdd, reduceEqDiff, Int.reduceBEq, reduceLT, reduceLE, S_row, *]))
  ·intro i hi hp
   have hb : InB xs (i : Int) := InB_nat.2 hi
   have hb' : InB ys (i : Int) := InB_nat.2 (by omega)
   have h2 : decide ((i : Int) < xs.length) = true := by simp; omega
   have h3 : (atI xs i == atI ys i) = false := by simpa using hp
   (refine fork_in ?_; repeat' (refine fork_eq (fun _ => ?_) (fun _ => ?_) <;> try simp (disch := first | assumption | omega) only [S0, reduceIte, reduceCtorEq, reduceAdd, reduceEqDiff, Int.reduceBEq, reduceLT, reduceLE, S_row, *]))
  ·have h2 : decide ((xs.length : Int) < xs.length) = false := by simp
   (refine fork_in ?_; repeat' (refine fork_eq (fun _ => ?_) (fun _ => ?_) <;> try simp (disch := first | assumption | omega) only [S0, reduceIte, reduceCtorEq, reduceAdd, reduceEqDiff, Int.reduceBEq, reduceLT, reduceLE, *]))
 ·have hl' : ((xs.length : Int) == (ys.length : Int)) = false := by simp; omega
  have e := eq_len (fun h => hl h.symm)
  (refine fork_in ?_; repeat' (refine fork_eq (fun _ => ?_) (fun _ => ?_) <;> try simp (disch := first | assumption | omega) only [S0, reduceIte, reduceCtorEq, reduceAdd, reduceEqDiff, Int.reduceBEq, reduceLT, reduceLE, *]))
theorem slices_Equal_int (xs ys : List Int) (hx : xs.length ≤ 1099511627776) : Fun T 32 [rL xs, rL ys] = some [.bool (decide (xs = ys))] := by
 rw [Fun_k (t := tm32) rfl]; unfold tm32
 by_cases hl : ys.length = xs.length
 ·simp (disch := first | assumption | omega) only [S0, reduceIte, reduceCtorEq, reduceAdd, reduceEqDiff, Int.reduceBEq, reduceLT, reduceLE, *]
  rw [scanX 1 xs.length (fun i => decide (atI xs i = atI ys i)) [.bool false], allB_eq hl.symm]
  ·(refine fork_in ?_; repeat' (refine fork_eq (fun _ => ?_) (fun _ => ?_) <;> try simp (disch := first | assumption | omega) only [S0, reduceIte, reduceCtorEq, reduceAdd, reduceEqDiff, Int.reduceBEq, reduceLT, reduceLE, *]))
  ·intro i hi hp
   have hb : InB xs (i : Int) := InB_nat.2 hi
   have hb' : InB ys (i : Int) := InB_nat.2 (by omega)
   have h2 : decide ((i : Int) < xs.length) = true := by simp; omega
   have h3 : (atI xs i == atI ys i) = true := by simpa using hp
   (refine fork_in ?_; repeat' (refine fork_eq (fun _ => ?_) (fun _ => ?_) <;> try simp (disch := first | assumption | omega) only [S0, reduceIte, reduceCtorEq, reduceAdd, reduceEqDiff, Int.reduceBEq, reduceLT, reduceLE, S_row, *]))
  ·intro i hi hp
   have hb : InB xs (i : Int) := InB_nat.2 hi
   have hb' : InB ys (i : Int) := InB_nat.2 (by omega)
   have h2 : decide ((i : Int) < xs.length) = true := by simp; omega
   have h3 : (atI xs i == atI ys i) = false := by simpa using hp
   (refine fork_in ?_; repeat' (refine fork_eq (fun _ => ?_) (fun _ => ?_) <;> try simp (disch := first | assumption | omega) only [S0, reduceIte, reduceCtorEq, reduceAdd, reduceEqDiff, Int.reduceBEq, reduceLT, reduceLE, S_row, *]))
  ·have h2 : decide ((xs.length : Int) < xs.length) = false := by simp
   (refine fork_in ?_; repeat' (refine fork_eq (fun _ => ?_) (fun _ => ?_) <;> try simp (disch := first | assumption | omega) only [S0, reduceIte, reduceCtorEq, reduceAdd, reduceEqDiff, Int.reduceBEq, reduceLT, reduceLE, *]))
 ·have hl' : ((xs.length : Int) == (ys.length : Int)) = false := by simp; omega
  have e := eq_len (fun h => hl h.symm)
  (refine fork_in ?_; repeat' (refine fork_eq (fun _ => ?_) (fun _ => ?_) <;> try simp (disch := first | assumption | omega) only [S0, reduceIte, reduceCtorEq, reduceAdd, reduceEqDiff, Int.reduceBEq, reduceLT, reduceLE, *]))
theorem spec_SameAttr (s s' : Int) (xs ys : List Int) (hx : xs.length ≤ 1099511627776) : Fun T 46 [i64 s, rL xs, i64 s', rL ys] = some [.bool (decide ((⟨s, xs⟩ : TAttr) = ⟨s', ys⟩))] := by
 rw [Fun_k (t := tm46) rfl]; unfold tm46
 have e : decide ((⟨s, xs⟩ : TAttr) = ⟨s', ys⟩) = (s == s' && decide (xs = ys)) := by simp [TAttr.mk.injEq, Bool.beq_eq_decide_eq]
 (refine fork_in ?_; repeat' (refine fork_eq (fun _ => ?_) (fun _ => ?_) <;> try simp (disch := first | assumption | omega) only [S0, reduceIte, reduceCtorEq, reduceAdd, reduceEqDiff, Int.reduceBEq, reduceLT, reduceLE, spec_l1Same, e, *]))
theorem impl_SameAttr (s s' : Int) (xs ys : List Int) (hx : xs.length ≤ 1099511627776) : Fun T 31 [i64 s, rL xs, i64 s', rL ys] = some [.bool (decide ((⟨s, xs⟩ : TAttr) = ⟨s', ys⟩))] := by
 rw [Fun_k (t := tm31) rfl]; unfold tm31
 have e : decide ((⟨s, xs⟩ : TAttr) = ⟨s', ys⟩) = (s == s' && decide (xs = ys)) := by simp [TAttr.mk.injEq, Bool.beq_eq_decide_eq]
 (refine fork_in ?_; repeat' (refine fork_eq (fun _ => ?_) (fun _ => ?_) <;> try simp (disch := first | assumption | omega) only [S0, reduceIte, reduceCtorEq, reduceAdd, reduceEqDiff, Int.reduceBEq, reduceLT, reduceLE, slices_Equal_int, e, *]))
theorem spec_l3None (n : Int) (hg : isGrp n = true) : Fun T 11 [i64 n] = some [i64 (none0 n).seq, rL (none0 n).deps] := by
 rw [Fun_k (t := tm11) rfl]; unfold tm11; unfold none0
 have hn := isGrp_rng hg
 (refine fork_in ?_; repeat' (refine fork_eq (fun _ => ?_) (fun _ => ?_) <;> try simp (disch := first | assumption | omega) only [S0, reduceIte, reduceCtorEq, reduceAdd, reduceEqDiff, Int.reduceBEq, reduceLT, reduceLE, S_make, *]))
theorem impl_noneAttr (n : Int) (hg : isGrp n = true) : Fun T 30 [i64 n] = some [i64 (none0 n).seq, rL (none0 n).deps] := by
 rw [Fun_k (t := tm30) rfl]; unfold tm30; unfold none0
 have hn := isGrp_rng hg
 (refine fork_in ?_; repeat' (refine fork_eq (fun _ => ?_) (fun _ => ?_) <;> try simp (disch := first | assumption | omega) only [S0, reduceIte, reduceCtorEq, reduceAdd, reduceEqDiff, Int.reduceBEq, reduceLT, reduceLE, S_make, *]))
theorem spec_l4Row (n bal vot sta k i f t a sq : Int) (xs : List Int) (hg : isGrp n = true) (hx : xs.length ≤ 1099511627776) :
  Fun T 44 [i64 n, i64 bal, i64 vot, i64 sta, i64 k, i64 i, i64 f, i64 t, i64 a, i64 sq, rL xs] = some [.bool (rowOk n ⟨bal, vot, sta, ⟨k, i, f, t, a⟩, ⟨sq, xs⟩⟩)] := by
 rw [Fun_k (t := tm44) rfl]; unfold tm44; unfold rowOk
 (refine fork_in ?_; repeat' (refine fork_eq (fun _ => ?_) (fun _ => ?_) <;> try simp (disch := first | assumption | omega) only [S0, reduceIte, reduceCtorEq, reduceAdd, reduceEqDiff, Int.reduceBEq, reduceLT, reduceLE, spec_l1In, S_eqs, spec_l3None, spec_SameAttr, spec_GoodCmd, spec_l3Attr, *]))
theorem impl_goodRow (n bal vot sta k i f t a sq : Int) (xs : List Int) (hg : isGrp n = true) (hx : xs.length ≤ 1099511627776) :
  Fun T 22 [i64 n, i64 bal, i64 vot, i64 sta, i64 k, i64 i, i64 f, i64 t, i64 a, i64 sq, rL xs] = some [.bool (rowOk n ⟨bal, vot, sta, ⟨k, i, f, t, a⟩, ⟨sq, xs⟩⟩)] := by
 rw [Fun_k (t := tm22) rfl]; unfold tm22; unfold rowOk
 have h1 := @cmdZ_ok ⟨k, i, f, t, a⟩
 have h2 := none0_ok hg
 have h3 : decide ((⟨sq, xs⟩ : TAttr) = none0 n) = true → attrOk n ⟨sq, xs⟩ = true := fun h => by rw [of_decide_eq_true h]; exact h2
 (refine fork_in ?_; repeat' (refine fork_eq (fun _ => ?_) (fun _ => ?_) <;> try simp (disch := first | assumption | omega) only [S0, reduceIte, reduceCtorEq, reduceAdd, reduceEqDiff, Int.reduceBEq, reduceLT, reduceLE, impl_within, S_eqs, impl_noneAttr, impl_SameAttr, impl_GoodCmd, impl_GoodAttr, *]))
 all_goals (refine bool_fin ?_; simp only [Bool.and_eq_true, Bool.or_eq_true, Bool.not_eq_true', Bool.not_eq_false', Bool.and_eq_false_iff, Bool.or_eq_false_iff, Bool.false_eq_true, beq_iff_eq, beq_eq_false_iff_ne, decide_eq_true_eq, decide_eq_false_iff_not, ne_eq] at *; grind)
theorem slices_Clone_int (xs : List Int) (hx : xs.length ≤ 10000000000) : Fun T 38 [rL xs] = some [rL xs] := by
 rw [Fun_ext (e := ex38) rfl]
 cases xs with
 | nil => rfl
 | cons x xs =>
  show Fun (entTab [(38, .tm tm38)]) 38 [rL (x :: xs)] = _
  rw [Fun_k (t := tm38) rfl]
  unfold tm38
  have hx' : (x :: xs).length ≤ 100000000000 := by omega
  have h0 : (Prim.mk 1 0).run [] = some [.rows 1 []] := rfl
  have h1 : (x :: xs).isEmpty = false := rfl
  simp (disch := first | assumption | omega) only [SA, SB, SC, SP, SQ, SZ, reduceIte, reduceCtorEq, Nat.reduceAdd, Nat.reduceEqDiff, rL_ne, rL_emp, h0, h1, S_app]
theorem impl_Attr_copied (s : Int) (xs : List Int) (hx : xs.length ≤ 10000000000) : Fun T 37 [i64 s, rL xs] = some [i64 s, rL xs] := by
 rw [Fun_k (t := tm37) rfl]; unfold tm37
 (refine fork_in ?_; repeat' (refine fork_eq (fun _ => ?_) (fun _ => ?_) <;> try simp (disch := first | assumption | omega) only [S0, reduceIte, reduceCtorEq, reduceAdd, reduceEqDiff, Int.reduceBEq, reduceLT, reduceLE, slices_Clone_int, *]))
theorem spec_GoodTable (n : Int) (rows : List (List TRow)) (hs : smTab rows) : Fun T 42 [i64 n, rL rows] = some [.bool (tabOk ⟨n, rows⟩)] := by
 rw [Fun_k (t := tm42) rfl]; unfold tm42; unfold tabOk
 obtain ⟨hs1, hs2⟩ := hs
 cases hg : isGrp n
 ·(refine fork_in ?_; repeat' (refine fork_eq (fun _ => ?_) (fun _ => ?_) <;> try simp (disch := first | assumption | omega) only [S0, reduceIte, reduceCtorEq, reduceAdd, reduceEqDiff, Int.reduceBEq, reduceLT, reduceLE, spec_IsGroup, *]))
 cases hl : (rows.length : Int) == n
 ·(refine fork_in ?_; repeat' (refine fork_eq (fun _ => ?_) (fun _ => ?_) <;> try simp (disch := first | assumption | omega) only [S0, reduceIte, reduceCtorEq, reduceAdd, reduceEqDiff, Int.reduceBEq, reduceLT, reduceLE, spec_IsGroup, *]))
 simp (disch := first | assumption | omega) only [S0, reduceIte, reduceCtorEq, reduceAdd, reduceEqDiff, Int.reduceBEq, reduceLT, reduceLE, spec_IsGroup, *]
 rw [allF 1 rows (fun l => l.all (fun r => rowOk n r) && decide ((l.length : Int) ≤ 6)) [.bool false]]
 ·(refine fork_in ?_; repeat' (refine fork_eq (fun _ => ?_) (fun _ => ?_) <;> try simp (disch := first | assumption | omega) only [S0, reduceIte, reduceCtorEq, reduceAdd, reduceEqDiff, Int.reduceBEq, reduceLT, reduceLE, *]))
 ·intro i hi hb hlt hm
  obtain ⟨hq1, hq2⟩ := hs2 _ hm
  simp (disch := first | assumption | omega) only [S0, reduceIte, reduceCtorEq, reduceAdd, reduceEqDiff, Int.reduceBEq, reduceLT, reduceLE, S_row, *]
  rw [allF 3 (atI rows i) (fun r => rowOk n r) [.bool false]]
  ·have e : decide (6 < ((atI rows (i : Int)).length : Int)) = !decide (((atI rows (i : Int)).length : Int) ≤ 6) := by
    by_cases h : ((atI rows (i : Int)).length : Int) ≤ 6
    ·simp [h]
    ·simp [h]; omega
   (refine fork_in ?_; repeat' (refine fork_eq (fun _ => ?_) (fun _ => ?_) <;> try simp (disch := first | assumption | omega) only [S0, reduceIte, reduceCtorEq, reduceAdd, reduceEqDiff, Int.reduceBEq, reduceLT, reduceLE, e, *]))
  ·intro j hj hb2 hlt2 hm2
   have hq3 := hq2 _ hm2
   have hq4 : (atI (atI rows (i : Int)) (j : Int)).attr.deps.length ≤ 1099511627776 := by omega
   (refine fork_in ?_; repeat' (refine fork_eq (fun _ => ?_) (fun _ => ?_) <;> try simp (disch := first | assumption | omega) only [S0, reduceIte, reduceCtorEq, reduceAdd, reduceEqDiff, Int.reduceBEq, reduceLT, reduceLE, S_row, spec_l4Row, *]))
  ·intro hl2
   (refine fork_in ?_; repeat' (refine fork_eq (fun _ => ?_) (fun _ => ?_) <;> try simp (disch := first | assumption | omega) only [S0, reduceIte, reduceCtorEq, reduceAdd, reduceEqDiff, Int.reduceBEq, reduceLT, reduceLE, *]))
 ·intro hl2
  (refine fork_in ?_; repeat' (refine fork_eq (fun _ => ?_) (fun _ => ?_) <;> try simp (disch := first | assumption | omega) only [S0, reduceIte, reduceCtorEq, reduceAdd, reduceEqDiff, Int.reduceBEq, reduceLT, reduceLE, *]))
theorem impl_GoodTable_1_1 (r_ballot r_vote r_state r_cmd_kind r_cmd_id r_cmd_src r_cmd_dst r_cmd_amt r_attr_seq : Int) (r_attr_deps : (List Int)) (n : Int) (rows : List (List TRow)) (hg : isGrp n = true) (hx : r_attr_deps.length ≤ 1099511627776) : Fun T 21 [i64 r_ballot, i64 r_vote, i64 r_state, i64 r_cmd_kind, i64 r_cmd_id, i64 r_cmd_src, i64 r_cmd_dst, i64 r_cmd_amt, i64 r_attr_seq, rL r_attr_deps, i64 n, rL rows] = some [.bool (!rowOk n ⟨r_ballot, r_vote, r_state, ⟨r_cmd_kind, r_cmd_id, r_cmd_src, r_cmd_dst, r_cmd_amt⟩, ⟨r_attr_seq, r_attr_deps⟩⟩)] := by
 rw [Fun_k (t := tm21) rfl]; unfold tm21
 (refine fork_in ?_; repeat' (refine fork_eq (fun _ => ?_) (fun _ => ?_) <;> try simp (disch := first | assumption | omega) only [S0, reduceIte, reduceCtorEq, reduceAdd, reduceEqDiff, Int.reduceBEq, reduceLT, reduceLE, impl_goodRow, *]))
theorem ix_GoodTable_1_1 (n : Int) (rows : List (List TRow)) (hg : isGrp n = true) (xs : List TRow) (hx : xs.length ≤ 1099511627776) (hq : ∀ x ∈ xs, x.attr.deps.length ≤ 1099511627776) : Fun T 20 [rL xs, i64 n, rL rows] = some [i64 (ixF (fun r => !rowOk n r) xs)] := by
 rw [Fun_k (t := tm20) rfl]; unfold tm20
 simp (disch := first | assumption | omega) only [S0, reduceIte, reduceCtorEq, reduceAdd, reduceEqDiff, Int.reduceBEq, reduceLT, reduceLE, S_row, *]
 rw [findX 1 xs (fun r => !rowOk n r) (fun i => [i64 i])]
 ·cases h : xs.any (fun r => !rowOk n r)
  ·have e : ixF (fun r => !rowOk n r) xs = -1 := by
    have h2 := ixF_any (fun r => !rowOk n r) xs
    rw [h] at h2
    unfold ixF at h2 ⊢
    split at h2 <;> simp_all
   rw [e]; simp (disch := first | assumption | omega) only [S0, reduceIte, reduceCtorEq, reduceAdd, reduceEqDiff, Int.reduceBEq, reduceLT, reduceLE]
  ·simp (disch := first | assumption | omega) only [S0, reduceIte, reduceCtorEq, reduceAdd, reduceEqDiff, Int.reduceBEq, reduceLT, reduceLE]
 ·intro i hi hb hl hp
  have hq' := hq _ (at_mem hi)
  try simp only at hq' hp
  (refine fork_in ?_; repeat' (refine fork_eq (fun _ => ?_) (fun _ => ?_) <;> try simp (disch := first | assumption | omega) only [S0, reduceIte, reduceCtorEq, reduceAdd, reduceEqDiff, Int.reduceBEq, reduceLT, reduceLE, S_row, impl_GoodTable_1_1, *]))
 ·intro i hi hb hl hp
  have hq' := hq _ (at_mem hi)
  try simp only at hq' hp
  (refine fork_in ?_; repeat' (refine fork_eq (fun _ => ?_) (fun _ => ?_) <;> try simp (disch := first | assumption | omega) only [S0, reduceIte, reduceCtorEq, reduceAdd, reduceEqDiff, Int.reduceBEq, reduceLT, reduceLE, S_row, impl_GoodTable_1_1, *]))
 ·intro hl
  (refine fork_in ?_; repeat' (refine fork_eq (fun _ => ?_) (fun _ => ?_) <;> try simp (disch := first | assumption | omega) only [S0, reduceIte, reduceCtorEq, reduceAdd, reduceEqDiff, Int.reduceBEq, reduceLT, reduceLE, *]))
theorem ct_GoodTable_1_1 (n : Int) (rows : List (List TRow)) (hg : isGrp n = true) (xs : List TRow) (hx : xs.length ≤ 1099511627776) (hq : ∀ x ∈ xs, x.attr.deps.length ≤ 1099511627776) : Fun T 19 [rL xs, i64 n, rL rows] = some [.bool (xs.any (fun r => !rowOk n r))] := by
 rw [Fun_k (t := tm19) rfl]; unfold tm19
 (refine fork_in ?_; repeat' (refine fork_eq (fun _ => ?_) (fun _ => ?_) <;> try simp (disch := first | assumption | omega) only [S0, reduceIte, reduceCtorEq, reduceAdd, reduceEqDiff, Int.reduceBEq, reduceLT, reduceLE, ix_GoodTable_1_1, ixF_any, *]))
theorem impl_GoodTable_1 (l : List TRow) (n : Int) (rows : List (List TRow)) (hg : isGrp n = true) (hx : l.length ≤ 1099511627776) (hq : ∀ x ∈ l, x.attr.deps.length ≤ 1099511627776) : Fun T 18 [rL l, i64 n, rL rows] = some [.bool (decide (6 < (l.length : Int)) || l.any fun r => !rowOk n r)] := by
 rw [Fun_k (t := tm18) rfl]; unfold tm18
 (refine fork_in ?_; repeat' (refine fork_eq (fun _ => ?_) (fun _ => ?_) <;> try simp (disch := first | assumption | omega) only [S0, reduceIte, reduceCtorEq, reduceAdd, reduceEqDiff, Int.reduceBEq, reduceLT, reduceLE, ct_GoodTable_1_1, *]))
theorem ix_GoodTable_1 (n : Int) (rows : List (List TRow)) (hg : isGrp n = true) (xs : List (List TRow)) (hx : xs.length ≤ 1099511627776) (hq : ∀ x ∈ xs, x.length ≤ 1099511627776 ∧ ∀ y ∈ x, y.attr.deps.length ≤ 1099511627776) : Fun T 17 [rL xs, i64 n, rL rows] = some [i64 (ixF (fun l => decide (6 < (l.length : Int)) || l.any fun r => !rowOk n r) xs)] := by
 rw [Fun_k (t := tm17) rfl]; unfold tm17
 simp (disch := first | assumption | omega) only [S0, reduceIte, reduceCtorEq, reduceAdd, reduceEqDiff, Int.reduceBEq, reduceLT, reduceLE, S_row, *]
 rw [findX 1 xs (fun l => decide (6 < (l.length : Int)) || l.any fun r => !rowOk n r) (fun i => [i64 i])]
 ·cases h : xs.any (fun l => decide (6 < (l.length : Int)) || l.any fun r => !rowOk n r)
  ·have e : ixF (fun l => decide (6 < (l.length : Int)) || l.any fun r => !rowOk n r) xs = -1 := by
    have h2 := ixF_any (fun l => decide (6 < (l.length : Int)) || l.any fun r => !rowOk n r) xs
    rw [h] at h2
    unfold ixF at h2 ⊢
    split at h2 <;> simp_all
   rw [e]; simp (disch := first | assumption | omega) only [S0, reduceIte, reduceCtorEq, reduceAdd, reduceEqDiff, Int.reduceBEq, reduceLT, reduceLE]
  ·simp (disch := first | assumption | omega) only [S0, reduceIte, reduceCtorEq, reduceAdd, reduceEqDiff, Int.reduceBEq, reduceLT, reduceLE]
 ·intro i hi hb hl hp
  have hq' := hq _ (at_mem hi)
  try simp only at hq' hp
  obtain ⟨hq1, hq2⟩ := hq'
  (refine fork_in ?_; repeat' (refine fork_eq (fun _ => ?_) (fun _ => ?_) <;> try simp (disch := first | assumption | omega) only [S0, reduceIte, reduceCtorEq, reduceAdd, reduceEqDiff, Int.reduceBEq, reduceLT, reduceLE, S_row, impl_GoodTable_1, *]))
 ·intro i hi hb hl hp
  have hq' := hq _ (at_mem hi)
  try simp only at hq' hp
  obtain ⟨hq1, hq2⟩ := hq'
  (refine fork_in ?_; repeat' (refine fork_eq (fun _ => ?_) (fun _ => ?_) <;> try simp (disch := first | assumption | omega) only [S0, reduceIte, reduceCtorEq, reduceAdd, reduceEqDiff, Int.reduceBEq, reduceLT, reduceLE, S_row, impl_GoodTable_1, *]))
 ·intro hl
  (refine fork_in ?_; repeat' (refine fork_eq (fun _ => ?_) (fun _ => ?_) <;> try simp (disch := first | assumption | omega) only [S0, reduceIte, reduceCtorEq, reduceAdd, reduceEqDiff, Int.reduceBEq, reduceLT, reduceLE, *]))
theorem ct_GoodTable_1 (n : Int) (rows : List (List TRow)) (hg : isGrp n = true) (xs : List (List TRow)) (hx : xs.length ≤ 1099511627776) (hq : ∀ x ∈ xs, x.length ≤ 1099511627776 ∧ ∀ y ∈ x, y.attr.deps.length ≤ 1099511627776) : Fun T 16 [rL xs, i64 n, rL rows] = some [.bool (xs.any (fun l => decide (6 < (l.length : Int)) || l.any fun r => !rowOk n r))] := by
 rw [Fun_k (t := tm16) rfl]; unfold tm16
 (refine fork_in ?_; repeat' (refine fork_eq (fun _ => ?_) (fun _ => ?_) <;> try simp (disch := first | assumption | omega) only [S0, reduceIte, reduceCtorEq, reduceAdd, reduceEqDiff, Int.reduceBEq, reduceLT, reduceLE, ix_GoodTable_1, ixF_any, *]))
theorem impl_GoodTable (n : Int) (rows : List (List TRow)) (hs : smTab rows) : Fun T 14 [i64 n, rL rows] = some [.bool (tabOk ⟨n, rows⟩)] := by
 rw [Fun_k (t := tm14) rfl]; unfold tm14; unfold tabOk
 obtain ⟨hs1, hs2⟩ := hs
 have hs3 : ∀ x ∈ rows, x.length ≤ 1099511627776 ∧ ∀ y ∈ x, y.attr.deps.length ≤ 1099511627776 := fun x hx => ⟨by have := (hs2 x hx).1; omega, fun y hy => by have := (hs2 x hx).2 y hy; omega⟩
 have e : (rows.any fun l => decide (6 < (l.length : Int)) || l.any fun r => !rowOk n r) = !rows.all fun l => l.all (fun r => rowOk n r) && decide ((l.length : Int) ≤ 6) := by
  rw [List.not_all_eq_any_not]
  congr 1
  funext l
  rw [← List.not_all_eq_any_not, Bool.not_and, Bool.or_comm]
  congr 1
  by_cases h : (l.length : Int) ≤ 6
  ·simp [h]
  ·simp [h]; omega
 (refine fork_in ?_; repeat' (refine fork_eq (fun _ => ?_) (fun _ => ?_) <;> try simp (disch := first | assumption | omega) only [S0, reduceIte, reduceCtorEq, reduceAdd, reduceEqDiff, Int.reduceBEq, reduceLT, reduceLE, impl_IsGroup, ct_GoodTable_1, e, Bool.not_not, *]))
theorem spec_l1Own (xs : List Int) (hx : xs.length ≤ 10000000000) : Fun T 58 [rL xs] = some [rL xs] := by
 rw [Fun_k (t := tm58) rfl]; unfold tm58
 have h0 : (Prim.mk 1 0).run [] = some [.rows 1 []] := rfl
 (refine fork_in ?_; repeat' (refine fork_eq (fun _ => ?_) (fun _ => ?_) <;> try simp (disch := first | assumption | omega) only [S0, reduceIte, reduceCtorEq, reduceAdd, reduceEqDiff, Int.reduceBEq, reduceLT, reduceLE, h0, S_app, *]))
theorem spec_l4OwnAttr (s : Int) (xs : List Int) (hx : xs.length ≤ 10000000000) : Fun T 57 [i64 s, rL xs] = some [i64 s, rL xs] := by
 rw [Fun_k (t := tm57) rfl]; unfold tm57
 (refine fork_in ?_; repeat' (refine fork_eq (fun _ => ?_) (fun _ => ?_) <;> try simp (disch := first | assumption | omega) only [S0, reduceIte, reduceCtorEq, reduceAdd, reduceEqDiff, Int.reduceBEq, reduceLT, reduceLE, spec_l1Own, *]))
theorem spec_l4OwnRow (r_ballot r_vote r_state r_cmd_kind r_cmd_id r_cmd_src r_cmd_dst r_cmd_amt r_attr_seq : Int) (r_attr_deps : (List Int)) (hx : r_attr_deps.length ≤ 10000000000) : Fun T 56 [i64 r_ballot, i64 r_vote, i64 r_state, i64 r_cmd_kind, i64 r_cmd_id, i64 r_cmd_src, i64 r_cmd_dst, i64 r_cmd_amt, i64 r_attr_seq, rL r_attr_deps] = some [i64 r_ballot, i64 r_vote, i64 r_state, i64 r_cmd_kind, i64 r_cmd_id, i64 r_cmd_src, i64 r_cmd_dst, i64 r_cmd_amt, i64 r_attr_seq, rL r_attr_deps] := by
 rw [Fun_k (t := tm56) rfl]; unfold tm56
 (refine fork_in ?_; repeat' (refine fork_eq (fun _ => ?_) (fun _ => ?_) <;> try simp (disch := first | assumption | omega) only [S0, reduceIte, reduceCtorEq, reduceAdd, reduceEqDiff, Int.reduceBEq, reduceLT, reduceLE, spec_l4OwnAttr, *]))
theorem impl_Row_copied (r_ballot r_vote r_state r_cmd_kind r_cmd_id r_cmd_src r_cmd_dst r_cmd_amt r_attr_seq : Int) (r_attr_deps : (List Int)) (hx : r_attr_deps.length ≤ 10000000000) : Fun T 36 [i64 r_ballot, i64 r_vote, i64 r_state, i64 r_cmd_kind, i64 r_cmd_id, i64 r_cmd_src, i64 r_cmd_dst, i64 r_cmd_amt, i64 r_attr_seq, rL r_attr_deps] = some [i64 r_ballot, i64 r_vote, i64 r_state, i64 r_cmd_kind, i64 r_cmd_id, i64 r_cmd_src, i64 r_cmd_dst, i64 r_cmd_amt, i64 r_attr_seq, rL r_attr_deps] := by
 rw [Fun_k (t := tm36) rfl]; unfold tm36
 (refine fork_in ?_; repeat' (refine fork_eq (fun _ => ?_) (fun _ => ?_) <;> try simp (disch := first | assumption | omega) only [S0, reduceIte, reduceCtorEq, reduceAdd, reduceEqDiff, Int.reduceBEq, reduceLT, reduceLE, impl_Attr_copied, *]))
theorem spec_l4At (n : Int) (rows : List (List TRow)) (rep no : Int) (hg : isGrp n = true) (hs : smTab rows) (hb : InB rows rep) (h1 : 1 ≤ no) (h2 : no ≤ 1000) : Fun T 71 [i64 n, rL rows, i64 rep, i64 no] = some [i64 (trow ⟨n, rows⟩ rep no).ballot, i64 (trow ⟨n, rows⟩ rep no).vote, i64 (trow ⟨n, rows⟩ rep no).state, i64 (trow ⟨n, rows⟩ rep no).cmd.kind, i64 (trow ⟨n, rows⟩ rep no).cmd.id, i64 (trow ⟨n, rows⟩ rep no).cmd.src, i64 (trow ⟨n, rows⟩ rep no).cmd.dst, i64 (trow ⟨n, rows⟩ rep no).cmd.amt, i64 (trow ⟨n, rows⟩ rep no).attr.seq, rL (trow ⟨n, rows⟩ rep no).attr.deps] := by
 rw [Fun_k (t := tm71) rfl]; unfold tm71; unfold trow row0
 have hq := hs.2 _ (at_memI hb)
 by_cases h : no ≤ (atI rows rep).length
 ·have h3 : decide (((atI rows rep).length : Int) < no) = false := by simp; omega
  have hb2 : InB (atI rows rep) (no - 1) := by unfold InB; omega
  have hq2 := hq.2 _ (at_memI hb2)
  (refine fork_in ?_; repeat' (refine fork_eq (fun _ => ?_) (fun _ => ?_) <;> try simp (disch := first | assumption | omega) only [S0, reduceIte, reduceCtorEq, reduceAdd, reduceEqDiff, Int.reduceBEq, reduceLT, reduceLE, S_row, spec_l4OwnRow, *]))
 ·have h3 : decide (((atI rows rep).length : Int) < no) = true := by simp; omega
  (refine fork_in ?_; repeat' (refine fork_eq (fun _ => ?_) (fun _ => ?_) <;> try simp (disch := first | assumption | omega) only [S0, reduceIte, reduceCtorEq, reduceAdd, reduceEqDiff, Int.reduceBEq, reduceLT, reduceLE, S_row, spec_l3None, *]))
theorem impl_Table_row (n : Int) (rows : List (List TRow)) (rep no : Int) (hg : isGrp n = true) (hs : smTab rows) (hb : InB rows rep) (h1 : 1 ≤ no) (h2 : no ≤ 1000) : Fun T 65 [i64 n, rL rows, i64 rep, i64 no] = some [i64 (trow ⟨n, rows⟩ rep no).ballot, i64 (trow ⟨n, rows⟩ rep no).vote, i64 (trow ⟨n, rows⟩ rep no).state, i64 (trow ⟨n, rows⟩ rep no).cmd.kind, i64 (trow ⟨n, rows⟩ rep no).cmd.id, i64 (trow ⟨n, rows⟩ rep no).cmd.src, i64 (trow ⟨n, rows⟩ rep no).cmd.dst, i64 (trow ⟨n, rows⟩ rep no).cmd.amt, i64 (trow ⟨n, rows⟩ rep no).attr.seq, rL (trow ⟨n, rows⟩ rep no).attr.deps] := by
 rw [Fun_k (t := tm65) rfl]; unfold tm65; unfold trow row0
 have hq := hs.2 _ (at_memI hb)
 by_cases h : no ≤ (atI rows rep).length
 ·have h3 : decide (no ≤ ((atI rows rep).length : Int)) = true := by simp; omega
  have hb2 : InB (atI rows rep) (no - 1) := by unfold InB; omega
  have hq2 := hq.2 _ (at_memI hb2)
  (refine fork_in ?_; repeat' (refine fork_eq (fun _ => ?_) (fun _ => ?_) <;> try simp (disch := first | assumption | omega) only [S0, reduceIte, reduceCtorEq, reduceAdd, reduceEqDiff, Int.reduceBEq, reduceLT, reduceLE, S_row, impl_Row_copied, *]))
 ·have h3 : decide (no ≤ ((atI rows rep).length : Int)) = false := by simp; omega
  (refine fork_in ?_; repeat' (refine fork_eq (fun _ => ?_) (fun _ => ?_) <;> try simp (disch := first | assumption | omega) only [S0, reduceIte, reduceCtorEq, reduceAdd, reduceEqDiff, Int.reduceBEq, reduceLT, reduceLE, S_row, impl_noneAttr, *]))
theorem spec_l4Asked (n : Int) (rows : List (List TRow)) (rep no : Int) (hs : smTab rows) : Fun T 41 [i64 n, rL rows, i64 rep, i64 no] = some [.bool (tabOk ⟨n, rows⟩ && inst n rep no)] := by
 rw [Fun_k (t := tm41) rfl]; unfold tm41
 cases ht : tabOk ⟨n, rows⟩
 ·(refine fork_in ?_; repeat' (refine fork_eq (fun _ => ?_) (fun _ => ?_) <;> try simp (disch := first | assumption | omega) only [S0, reduceIte, reduceCtorEq, reduceAdd, reduceEqDiff, Int.reduceBEq, reduceLT, reduceLE, spec_GoodTable, *]))
 ·have hg : isGrp n = true := tabOk_grp ht
  (refine fork_in ?_; repeat' (refine fork_eq (fun _ => ?_) (fun _ => ?_) <;> try simp (disch := first | assumption | omega) only [S0, reduceIte, reduceCtorEq, reduceAdd, reduceEqDiff, Int.reduceBEq, reduceLT, reduceLE, spec_GoodTable, spec_l3Inst, *]))
theorem spec_RowAt (n : Int) (rows : List (List TRow)) (rep no : Int) (hs : smTab rows) : Fun T 73 [i64 n, rL rows, i64 rep, i64 no] = some [i64 (rowAtR ⟨n, rows⟩ rep no).1.ballot, i64 (rowAtR ⟨n, rows⟩ rep no).1.vote, i64 (rowAtR ⟨n, rows⟩ rep no).1.state, i64 (rowAtR ⟨n, rows⟩ rep no).1.cmd.kind, i64 (rowAtR ⟨n, rows⟩ rep no).1.cmd.id, i64 (rowAtR ⟨n, rows⟩ rep no).1.cmd.src, i64 (rowAtR ⟨n, rows⟩ rep no).1.cmd.dst, i64 (rowAtR ⟨n, rows⟩ rep no).1.cmd.amt, i64 (rowAtR ⟨n, rows⟩ rep no).1.attr.seq, rL (rowAtR ⟨n, rows⟩ rep no).1.attr.deps, .bool (rowAtR ⟨n, rows⟩ rep no).2] := by
 rw [Fun_k (t := tm73) rfl]; unfold tm73; unfold rowAtR rowD
 cases ht : tabOk ⟨n, rows⟩
 ·(refine fork_in ?_; repeat' (refine fork_eq (fun _ => ?_) (fun _ => ?_) <;> try simp (disch := first | assumption | omega) only [S0, reduceIte, reduceCtorEq, reduceAdd, reduceEqDiff, Int.reduceBEq, reduceLT, reduceLE, spec_l4Asked, S_nil, *]))
 cases hi : inst n rep no
 ·(refine fork_in ?_; repeat' (refine fork_eq (fun _ => ?_) (fun _ => ?_) <;> try simp (disch := first | assumption | omega) only [S0, reduceIte, reduceCtorEq, reduceAdd, reduceEqDiff, Int.reduceBEq, reduceLT, reduceLE, spec_l4Asked, S_nil, *]))
 have hg : isGrp n = true := tabOk_grp ht
 have hb : InB rows rep := tabOk_in ht hi
 have hr := inst_rng hi
 (refine fork_in ?_; repeat' (refine fork_eq (fun _ => ?_) (fun _ => ?_) <;> try simp (disch := first | assumption | omega) only [S0, reduceIte, reduceCtorEq, reduceAdd, reduceEqDiff, Int.reduceBEq, reduceLT, reduceLE, spec_l4Asked, spec_l4At, *]))
theorem impl_RowAt (n : Int) (rows : List (List TRow)) (rep no : Int) (hs : smTab rows) : Fun T 64 [i64 n, rL rows, i64 rep, i64 no] = some [i64 (rowAtR ⟨n, rows⟩ rep no).1.ballot, i64 (rowAtR ⟨n, rows⟩ rep no).1.vote, i64 (rowAtR ⟨n, rows⟩ rep no).1.state, i64 (rowAtR ⟨n, rows⟩ rep no).1.cmd.kind, i64 (rowAtR ⟨n, rows⟩ rep no).1.cmd.id, i64 (rowAtR ⟨n, rows⟩ rep no).1.cmd.src, i64 (rowAtR ⟨n, rows⟩ rep no).1.cmd.dst, i64 (rowAtR ⟨n, rows⟩ rep no).1.cmd.amt, i64 (rowAtR ⟨n, rows⟩ rep no).1.attr.seq, rL (rowAtR ⟨n, rows⟩ rep no).1.attr.deps, .bool (rowAtR ⟨n, rows⟩ rep no).2] := by
 rw [Fun_k (t := tm64) rfl]; unfold tm64; unfold rowAtR rowD
 cases ht : tabOk ⟨n, rows⟩
 ·(refine fork_in ?_; repeat' (refine fork_eq (fun _ => ?_) (fun _ => ?_) <;> try simp (disch := first | assumption | omega) only [S0, reduceIte, reduceCtorEq, reduceAdd, reduceEqDiff, Int.reduceBEq, reduceLT, reduceLE, impl_GoodTable, S_nil, *]))
 have hg : isGrp n = true := tabOk_grp ht
 cases hi : inst n rep no
 ·(refine fork_in ?_; repeat' (refine fork_eq (fun _ => ?_) (fun _ => ?_) <;> try simp (disch := first | assumption | omega) only [S0, reduceIte, reduceCtorEq, reduceAdd, reduceEqDiff, Int.reduceBEq, reduceLT, reduceLE, impl_GoodTable, impl_isInstance, S_nil, *]))
 have hb : InB rows rep := tabOk_in ht hi
 have hr := inst_rng hi
 (refine fork_in ?_; repeat' (refine fork_eq (fun _ => ?_) (fun _ => ?_) <;> try simp (disch := first | assumption | omega) only [S0, reduceIte, reduceCtorEq, reduceAdd, reduceEqDiff, Int.reduceBEq, reduceLT, reduceLE, impl_GoodTable, impl_isInstance, impl_Table_row, *]))
theorem spec_l4Ballot (n : Int) (rows : List (List TRow)) (rep no me : Int) (ht : tabOk ⟨n, rows⟩ = true) (hi : inst n rep no = true) (hm : inR me 0 (n - 1) = true) (hs : smTab rows) : Fun T 70 [i64 n, rL rows, i64 rep, i64 no, i64 me] = some [i64 (nb (trow ⟨n, rows⟩ rep no).ballot me)] := by
 rw [Fun_k (t := tm70) rfl]; unfold tm70
 have hg : isGrp n = true := tabOk_grp ht
 have hn := isGrp_rng hg
 have hb : InB rows rep := tabOk_in ht hi
 have hr := inst_rng hi
 have hq := rowOk_ballot (trow_ok ht hi)
 have hm2 := inR_rng hm
 simp (disch := first | assumption | omega) only [S0, reduceIte, reduceCtorEq, reduceAdd, reduceEqDiff, Int.reduceBEq, reduceLT, reduceLE, spec_l4At, *]
 generalize (trow ⟨n, rows⟩ rep no).ballot = b at hq ⊢
 rw [whileE (T := T) (.yield 1, [i64 (nb b me)]) (fun k : Int => (nb b me - k).toNat) (fun k => k % 8 = me ∧ 8 + me ≤ k ∧ k ≤ nb b me) (fun k => [i64 k]) (8 + me) rfl ⟨by omega, by omega, by unfold nb; split <;> omega⟩ (by simp)]
 ·(refine fork_in ?_; repeat' (refine fork_eq (fun _ => ?_) (fun _ => ?_) <;> try simp (disch := first | assumption | omega) only [S0, reduceIte, reduceCtorEq, reduceAdd, reduceEqDiff, Int.reduceBEq, reduceLT, reduceLE, *]))
 ·rintro k ⟨h1, h2, h3⟩
  have h4 : nb b me ≤ 20000 := by unfold nb; split <;> omega
  by_cases hk : k ≤ b
  ·have hk' : decide (k ≤ b) = true := by simpa using hk
   have h5 : k + 8 ≤ nb b me := by unfold nb; split <;> omega
   exact .inl ⟨k + 8, by (refine fork_in ?_; repeat' (refine fork_eq (fun _ => ?_) (fun _ => ?_) <;> try simp (disch := first | assumption | omega) only [S0, reduceIte, reduceCtorEq, reduceAdd, reduceEqDiff, Int.reduceBEq, reduceLT, reduceLE, *])), ⟨by omega, by omega, h5⟩, by omega⟩
  ·have hk' : decide (k ≤ b) = false := by simpa using hk
   have h5 : k = nb b me := by unfold nb at h3 ⊢; split at h3 <;> split <;> omega
   subst h5; exact .inr (by (refine fork_in ?_; repeat' (refine fork_eq (fun _ => ?_) (fun _ => ?_) <;> try simp (disch := first | assumption | omega) only [S0, reduceIte, reduceCtorEq, reduceAdd, reduceEqDiff, Int.reduceBEq, reduceLT, reduceLE, *])))
theorem impl_Table_nextBallot (n : Int) (rows : List (List TRow)) (rep no me : Int) (ht : tabOk ⟨n, rows⟩ = true) (hi : inst n rep no = true) (hm : inR me 0 (n - 1) = true) (hs : smTab rows) : Fun T 68 [i64 n, rL rows, i64 rep, i64 no, i64 me] = some [i64 (nb (trow ⟨n, rows⟩ rep no).ballot me), .bool (decide (nb (trow ⟨n, rows⟩ rep no).ballot me ≤ 9999))] := by
 rw [Fun_k (t := tm68) rfl]; unfold tm68
 have hg : isGrp n = true := tabOk_grp ht
 have hn := isGrp_rng hg
 have hb : InB rows rep := tabOk_in ht hi
 have hr := inst_rng hi
 have hq := rowOk_ballot (trow_ok ht hi)
 have hm2 := inR_rng hm
 simp (disch := first | assumption | omega) only [S0, reduceIte, reduceCtorEq, reduceAdd, reduceEqDiff, Int.reduceBEq, reduceLT, reduceLE, impl_Table_row, *]
 generalize (trow ⟨n, rows⟩ rep no).ballot = b at hq ⊢
 rw [whileE (T := T) (.yield 1, [i64 (nb b me)]) (fun k : Int => (nb b me - k).toNat) (fun k => b + 1 ≤ k ∧ 8 ≤ k ∧ k ≤ nb b me) (fun k => [i64 k]) (max (b + 1) 8) rfl ⟨by omega, by omega, by unfold nb; split <;> omega⟩ (by simp)]
 ·(refine fork_in ?_; repeat' (refine fork_eq (fun _ => ?_) (fun _ => ?_) <;> try simp (disch := first | assumption | omega) only [S0, reduceIte, reduceCtorEq, reduceAdd, reduceEqDiff, Int.reduceBEq, reduceLT, reduceLE, *]))
 ·rintro k ⟨h1, h2, h3⟩
  have h4 : nb b me ≤ 20000 := by unfold nb; split <;> omega
  by_cases hk : k % 8 = me
  ·have hk' : (k % 8 == me) = true := by simpa using hk
   have h5 : k = nb b me := by unfold nb at h3 ⊢; split at h3 <;> split <;> omega
   subst h5; exact .inr (by (refine fork_in ?_; repeat' (refine fork_eq (fun _ => ?_) (fun _ => ?_) <;> try simp (disch := first | assumption | omega) only [S0, reduceIte, reduceCtorEq, reduceAdd, reduceEqDiff, Int.reduceBEq, reduceLT, reduceLE, *])))
  ·have hk' : (k % 8 == me) = false := by simpa using hk
   have h5 : k + 1 ≤ nb b me := by unfold nb at h3 ⊢; split at h3 <;> split <;> omega
   exact .inl ⟨k + 1, by (refine fork_in ?_; repeat' (refine fork_eq (fun _ => ?_) (fun _ => ?_) <;> try simp (disch := first | assumption | omega) only [S0, reduceIte, reduceCtorEq, reduceAdd, reduceEqDiff, Int.reduceBEq, reduceLT, reduceLE, *])), ⟨by omega, by omega, h5⟩, by omega⟩
theorem spec_NextBallot (n : Int) (rows : List (List TRow)) (rep no me : Int) (hs : smTab rows) : Fun T 69 [i64 n, rL rows, i64 rep, i64 no, i64 me] = some [i64 (nbR ⟨n, rows⟩ rep no me).1, .bool (nbR ⟨n, rows⟩ rep no me).2] := by
 rw [Fun_k (t := tm69) rfl]; unfold tm69; unfold nbR
 cases ht : tabOk ⟨n, rows⟩
 ·(refine fork_in ?_; repeat' (refine fork_eq (fun _ => ?_) (fun _ => ?_) <;> try simp (disch := first | assumption | omega) only [S0, reduceIte, reduceCtorEq, reduceAdd, reduceEqDiff, Int.reduceBEq, reduceLT, reduceLE, spec_l4Asked, *]))
 have hg : isGrp n = true := tabOk_grp ht
 have hn := isGrp_rng hg
 cases hi : inst n rep no
 ·(refine fork_in ?_; repeat' (refine fork_eq (fun _ => ?_) (fun _ => ?_) <;> try simp (disch := first | assumption | omega) only [S0, reduceIte, reduceCtorEq, reduceAdd, reduceEqDiff, Int.reduceBEq, reduceLT, reduceLE, spec_l4Asked, *]))
 cases hm : inR me 0 (n - 1)
 ·(refine fork_in ?_; repeat' (refine fork_eq (fun _ => ?_) (fun _ => ?_) <;> try simp (disch := first | assumption | omega) only [S0, reduceIte, reduceCtorEq, reduceAdd, reduceEqDiff, Int.reduceBEq, reduceLT, reduceLE, spec_l4Asked, spec_l1In, *]))
 by_cases h : nb (trow ⟨n, rows⟩ rep no).ballot me ≤ 9999
 ·have h2 : decide (9999 < nb (trow ⟨n, rows⟩ rep no).ballot me) = false := by simp; omega
  (refine fork_in ?_; repeat' (refine fork_eq (fun _ => ?_) (fun _ => ?_) <;> try simp (disch := first | assumption | omega) only [S0, reduceIte, reduceCtorEq, reduceAdd, reduceEqDiff, Int.reduceBEq, reduceLT, reduceLE, spec_l4Asked, spec_l1In, spec_l4Ballot, *]))
 ·have h2 : decide (9999 < nb (trow ⟨n, rows⟩ rep no).ballot me) = true := by simp; omega
  (refine fork_in ?_; repeat' (refine fork_eq (fun _ => ?_) (fun _ => ?_) <;> try simp (disch := first | assumption | omega) only [S0, reduceIte, reduceCtorEq, reduceAdd, reduceEqDiff, Int.reduceBEq, reduceLT, reduceLE, spec_l4Asked, spec_l1In, spec_l4Ballot, *]))
theorem impl_NextBallot (n : Int) (rows : List (List TRow)) (rep no me : Int) (hs : smTab rows) : Fun T 67 [i64 n, rL rows, i64 rep, i64 no, i64 me] = some [i64 (nbR ⟨n, rows⟩ rep no me).1, .bool (nbR ⟨n, rows⟩ rep no me).2] := by
 rw [Fun_k (t := tm67) rfl]; unfold tm67; unfold nbR
 cases ht : tabOk ⟨n, rows⟩
 ·(refine fork_in ?_; repeat' (refine fork_eq (fun _ => ?_) (fun _ => ?_) <;> try simp (disch := first | assumption | omega) only [S0, reduceIte, reduceCtorEq, reduceAdd, reduceEqDiff, Int.reduceBEq, reduceLT, reduceLE, impl_GoodTable, *]))
 have hg : isGrp n = true := tabOk_grp ht
 have hn := isGrp_rng hg
 cases hi : inst n rep no
 ·(refine fork_in ?_; repeat' (refine fork_eq (fun _ => ?_) (fun _ => ?_) <;> try simp (disch := first | assumption | omega) only [S0, reduceIte, reduceCtorEq, reduceAdd, reduceEqDiff, Int.reduceBEq, reduceLT, reduceLE, impl_GoodTable, impl_isInstance, *]))
 cases hm : inR me 0 (n - 1)
 ·(refine fork_in ?_; repeat' (refine fork_eq (fun _ => ?_) (fun _ => ?_) <;> try simp (disch := first | assumption | omega) only [S0, reduceIte, reduceCtorEq, reduceAdd, reduceEqDiff, Int.reduceBEq, reduceLT, reduceLE, impl_GoodTable, impl_isInstance, impl_within, *]))
 by_cases h : nb (trow ⟨n, rows⟩ rep no).ballot me ≤ 9999
 ·(refine fork_in ?_; repeat' (refine fork_eq (fun _ => ?_) (fun _ => ?_) <;> try simp (disch := first | assumption | omega) only [S0, reduceIte, reduceCtorEq, reduceAdd, reduceEqDiff, Int.reduceBEq, reduceLT, reduceLE, impl_GoodTable, impl_isInstance, impl_within, impl_Table_nextBallot, *]))
 ·(refine fork_in ?_; repeat' (refine fork_eq (fun _ => ?_) (fun _ => ?_) <;> try simp (disch := first | assumption | omega) only [S0, reduceIte, reduceCtorEq, reduceAdd, reduceEqDiff, Int.reduceBEq, reduceLT, reduceLE, impl_GoodTable, impl_isInstance, impl_within, impl_Table_nextBallot, *]))
theorem spec_l4New (n : Int) (hg : isGrp n = true) : Fun T 7 [i64 n] = some [i64 n, rL (List.replicate n.toNat ([] : List TRow))] := by
 rw [Fun_k (t := tm7) rfl]; unfold tm7
 have hn := isGrp_rng hg
 (refine fork_in ?_; repeat' (refine fork_eq (fun _ => ?_) (fun _ => ?_) <;> try simp (disch := first | assumption | omega) only [S0, reduceIte, reduceCtorEq, reduceAdd, reduceEqDiff, Int.reduceBEq, reduceLT, reduceLE, S_make, *]))
theorem spec_l4Own (n : Int) (rows : List (List TRow)) (hg : isGrp n = true) (hl : (rows.length : Int) = n) (hs : smTab rows) : Fun T 55 [i64 n, rL rows] = some [i64 n, rL rows] := by
 rw [Fun_k (t := tm55) rfl]; unfold tm55
 obtain ⟨hs1, hs2⟩ := hs
 have hn := isGrp_rng hg
 have e0 : List.replicate n.toNat ([] : List TRow) = upto [] rows 0 := by rw [upto_zero]; congr 1; omega
 simp (disch := first | assumption | omega) only [SA, SB, SC, SP, SQ, SZ, reduceIte, reduceCtorEq, Nat.reduceAdd, Nat.reduceEqDiff, spec_l4New]
 rw [loopN rows.length (fun i => [i64 i, rL (upto [] rows i)]) (.yield 1, [rL rows]) (by rw [e0]; rfl) (by simp)]
 ·(refine fork_in ?_; repeat' (refine fork_eq (fun _ => ?_) (fun _ => ?_) <;> try simp (disch := first | assumption | omega) only [S0, reduceIte, reduceCtorEq, reduceAdd, reduceEqDiff, Int.reduceBEq, reduceLT, reduceLE, *]))
 ·intro i hi hlt
  have hb : InB rows (i : Int) := InB_nat.2 hi
  have hq := hs2 _ (at_mem hi)
  have hu : (upto [] rows i).length = rows.length := upto_len [] rows (Nat.le_of_lt hi)
  have hbu : InB (upto [] rows i) (i : Int) := InB_nat.2 (by rw [hu]; exact hi)
  have hu0 : upto [] rows i = setI (upto [] rows i) i ((atI rows (i : Int)).take 0) := by
   have : atI (upto [] rows i) (i : Int) = [] := by
    unfold upto
    rw [atI_nat, List.getD_eq_getElem?_getD, List.getElem?_append_right (by rw [List.length_take]; omega), List.getElem?_replicate]
    split <;> rfl
   have h3 := setI_at hbu
   rw [this] at h3
   rw [List.take_zero]; exact h3.symm
  have hu1 : setI (upto [] rows i) i (atI rows (i : Int)) = upto [] rows (i + 1) := by
   rw [setI]
   exact upto_set [] rows (by rw [atI_get hi]; exact List.getElem?_eq_getElem hi)
  obtain ⟨hq1, hq2⟩ := hq
  have hr : rows.length ≤ 10 := by omega
  simp (disch := first | assumption | omega) only [S0, reduceIte, reduceCtorEq, reduceAdd, reduceEqDiff, Int.reduceBEq, reduceLT, reduceLE, S_row, hlt]
  rw [loopN (atI rows (i : Int)).length (fun j => [i64 j, rL (setI (upto [] rows i) i ((atI rows (i : Int)).take j))]) (.yield 3, [rL (upto [] rows (i + 1))]) (by rw [← hu0]; rfl) (by simp)]
  ·clear hu hu0 hu1
   simp (disch := first | assumption | omega) only [S0, reduceIte, reduceCtorEq, reduceAdd, reduceEqDiff, Int.reduceBEq, reduceLT, reduceLE]
  ·intro j hj hlt2
   have hb2 : InB (atI rows (i : Int)) (j : Int) := InB_nat.2 hj
   have hq3 := hq2 _ (at_mem hj)
   have ha : atI (setI (upto [] rows i) (i : Int) ((atI rows (i : Int)).take j)) (i : Int) = (atI rows (i : Int)).take j := by
    have := S_upd
    exact this.1 hbu
   have hbs : InB (setI (upto [] rows i) (i : Int) ((atI rows (i : Int)).take j)) (i : Int) := InB_nat.2 (by rw [setI, List.length_set, hu]; exact hi)
   have hta := take_at hj
   have hll : ((atI rows (i : Int)).take j).length + 1 ≤ 100000000000 := by rw [List.length_take]; omega
   have hll2 : ((atI rows (i : Int)).take j).length + ([atI (atI rows (i : Int)) (j : Int)] : List TRow).length ≤ 100000000000 := hll
   clear hu hu0 hu1
   simp (disch := first | assumption | omega) only [S0, reduceIte, reduceCtorEq, reduceAdd, reduceEqDiff, Int.reduceBEq, reduceLT, reduceLE, S_row, S_set, S_mk, S_app, S_hole, S_upd, spec_l4OwnRow, hlt2, ha, hta]
  ·intro hlt2
   rw [List.take_length]
   clear hu hu0
   (refine fork_in ?_; repeat' (refine fork_eq (fun _ => ?_) (fun _ => ?_) <;> try simp (disch := first | assumption | omega) only [S0, reduceIte, reduceCtorEq, reduceAdd, reduceEqDiff, Int.reduceBEq, reduceLT, reduceLE, *]))
 ·intro hlt
  rw [upto_all]
  simp (disch := first | assumption | omega) only [S0, reduceIte, reduceCtorEq, reduceAdd, reduceEqDiff, Int.reduceBEq, reduceLT, reduceLE, hlt]
theorem impl_copyRows (xs : List TRow) (hs : smRows xs) : Fun T 35 [rL xs] = some [rL xs] := by
 rw [Fun_k (t := tm35) rfl]; unfold tm35
 have h0 : (Prim.mk 10 0).run [] = some [rL ([] : List TRow)] := rfl
 obtain ⟨hs1, hs2⟩ := hs
 simp (disch := first | assumption | omega) only [S0, reduceIte, reduceCtorEq, reduceAdd, reduceEqDiff, Int.reduceBEq, reduceLT, reduceLE, h0]
 rw [loopN xs.length (fun i => [rL (xs.take i), i64 i]) (.yield 1, [rL xs]) rfl (by simp)]
 ·simp (disch := first | assumption | omega) only [S0, reduceIte, reduceCtorEq, reduceAdd, reduceEqDiff, Int.reduceBEq, reduceLT, reduceLE]
 ·intro i hi hlt
  have hb : InB xs (i : Int) := InB_nat.2 hi
  have hq := hs2 _ (at_mem hi)
  have hta := take_at hi
  have hll : (xs.take i).length + ([atI xs (i : Int)] : List TRow).length ≤ 100000000000 := by rw [List.length_take]; simp only [List.length_cons, List.length_nil]; omega
  simp (disch := first | assumption | omega) only [S0, reduceIte, reduceCtorEq, reduceAdd, reduceEqDiff, Int.reduceBEq, reduceLT, reduceLE, S_row, S_mk, S_app, impl_Row_copied, hlt, hta]
 ·intro hlt
  rw [List.take_length]
  simp (disch := first | assumption | omega) only [S0, reduceIte, reduceCtorEq, reduceAdd, reduceEqDiff, Int.reduceBEq, reduceLT, reduceLE, hlt]
theorem impl_Table_copied (n : Int) (rows : List (List TRow)) (hs : smTab rows) : Fun T 34 [i64 n, rL rows] = some [i64 n, rL rows] := by
 rw [Fun_k (t := tm34) rfl]; unfold tm34
 obtain ⟨hs1, hs2⟩ := hs
 simp (disch := first | assumption | omega) only [S0, reduceIte, reduceCtorEq, reduceAdd, reduceEqDiff, Int.reduceBEq, reduceLT, reduceLE]
 rw [loopN rows.length (fun i => [i64 i, rL (rows.take i)]) (.yield 1, [rL rows]) rfl (by simp)]
 ·simp (disch := first | assumption | omega) only [S0, reduceIte, reduceCtorEq, reduceAdd, reduceEqDiff, Int.reduceBEq, reduceLT, reduceLE]
 ·intro i hi hlt
  have hb : InB rows (i : Int) := InB_nat.2 hi
  have hq := hs2 _ (at_mem hi)
  have hta := take_at hi
  have hll : (rows.take i).length + ([atI rows (i : Int)] : List (List TRow)).length ≤ 100000000000 := by rw [List.length_take]; simp only [List.length_cons, List.length_nil]; omega
  simp (disch := first | assumption | omega) only [S0, reduceIte, reduceCtorEq, reduceAdd, reduceEqDiff, Int.reduceBEq, reduceLT, reduceLE, S_row, S_mk, S_app, impl_copyRows, hlt, hta]
 ·intro hlt
  rw [List.take_length]
  simp (disch := first | assumption | omega) only [S0, reduceIte, reduceCtorEq, reduceAdd, reduceEqDiff, Int.reduceBEq, reduceLT, reduceLE, hlt]
theorem spec_l4Set (n : Int) (rows : List (List TRow)) (rep no : Int) (r_ballot r_vote r_state r_cmd_kind r_cmd_id r_cmd_src r_cmd_dst r_cmd_amt r_attr_seq : Int) (r_attr_deps : (List Int)) (hg : isGrp n = true) (hl : (rows.length : Int) = n) (hs : smTab rows) (hb : InB rows rep) (h1 : 1 ≤ no) (h2 : no ≤ 1000) (hx : r_attr_deps.length ≤ 10000000000) :
  Fun T 54 [i64 n, rL rows, i64 rep, i64 no, i64 r_ballot, i64 r_vote, i64 r_state, i64 r_cmd_kind, i64 r_cmd_id, i64 r_cmd_src, i64 r_cmd_dst, i64 r_cmd_amt, i64 r_attr_seq, rL r_attr_deps] = some [i64 (tset ⟨n, rows⟩ rep no ⟨r_ballot, r_vote, r_state, ⟨r_cmd_kind, r_cmd_id, r_cmd_src, r_cmd_dst, r_cmd_amt⟩, ⟨r_attr_seq, r_attr_deps⟩⟩).n, rL (tset ⟨n, rows⟩ rep no ⟨r_ballot, r_vote, r_state, ⟨r_cmd_kind, r_cmd_id, r_cmd_src, r_cmd_dst, r_cmd_amt⟩, ⟨r_attr_seq, r_attr_deps⟩⟩).rows] := by
 rw [Fun_k (t := tm54) rfl]; unfold tm54; unfold tset
 have hq := hs.2 _ (at_memI hb)
 have hq1 := hq.1
 simp (maxSteps := 2000000) (disch := first | assumption | omega) only [SA, SB, SC, SP, SQ, SZ, reduceIte, reduceCtorEq, Nat.reduceAdd, Nat.reduceEqDiff, spec_l4Own, hg, hl]
 rw [whileE (T := T) (.yield 1, [rL (setI rows rep (ext n (atI rows rep) no))]) (fun j : Nat => (no - (atI rows rep).length).toNat - j) (fun j => j ≤ (no - (atI rows rep).length).toNat) (fun j => [rL (setI rows rep (atI rows rep ++ List.replicate j (row0 n)))]) 0 (by rw [List.replicate_zero, List.append_nil, setI_at hb]; rfl) (by omega) (by simp)]
 ·have hb2 : InB (setI rows rep (ext n (atI rows rep) no)) rep := by unfold InB; rw [setI, List.length_set]; exact hb
  have ha : atI (setI rows rep (ext n (atI rows rep) no)) rep = ext n (atI rows rep) no := S_upd.1 hb
  have hb3 : InB (ext n (atI rows rep) no) (no - 1) := by unfold InB; rw [ext_len (by omega)]; omega
  simp (disch := first | assumption | omega) only [S0, reduceIte, reduceCtorEq, reduceAdd, reduceEqDiff, Int.reduceBEq, reduceLT, reduceLE, S_row, S_set, S_upd, spec_l4OwnRow, ha]
 ·intro j hj
  have hb2 : InB (setI rows rep (atI rows rep ++ List.replicate j (row0 n))) rep := by unfold InB; rw [setI, List.length_set]; exact hb
  have ha : atI (setI rows rep (atI rows rep ++ List.replicate j (row0 n))) rep = atI rows rep ++ List.replicate j (row0 n) := S_upd.1 hb
  have hlen : ((atI rows rep ++ List.replicate j (row0 n)).length : Int) = (atI rows rep).length + j := by simp
  have hrep : (atI rows rep ++ List.replicate j (row0 n)) ++ [row0 n] = atI rows rep ++ List.replicate (j + 1) (row0 n) := by rw [List.append_assoc, ← List.replicate_succ']
  have hll : (atI rows rep ++ List.replicate j (row0 n)).length + ([row0 n] : List TRow).length ≤ 100000000000 := by simp only [List.length_append, List.length_replicate, List.length_cons, List.length_nil]; omega
  unfold row0 at hrep hll ha hb2 hlen ⊢
  by_cases hc : (atI rows rep).length + j < no
  ·have hc' : decide (((atI rows rep).length : Int) + j < no) = true := by simpa using hc
   refine .inl ⟨j + 1, ?_, by omega, by omega⟩
   simp (disch := first | assumption | omega) only [S0, reduceIte, reduceCtorEq, reduceAdd, reduceEqDiff, Int.reduceBEq, reduceLT, reduceLE, S_row, S_set, S_mk, S_app, S_hole, S_upd, spec_l3None, ha, hlen, hc', hrep]
  ·have hc' : decide (((atI rows rep).length : Int) + j < no) = false := by simpa using hc
   have hj2 : j = (no - (atI rows rep).length).toNat := by omega
   refine .inr ?_
   simp (disch := first | assumption | omega) only [S0, reduceIte, reduceCtorEq, reduceAdd, reduceEqDiff, Int.reduceBEq, reduceLT, reduceLE, S_row, S_set, S_mk, S_app, S_hole, S_upd, ha, hlen, hc']
   rw [hj2]; rfl
theorem impl_Table_set (n : Int) (rows : List (List TRow)) (rep no : Int) (r_ballot r_vote r_state r_cmd_kind r_cmd_id r_cmd_src r_cmd_dst r_cmd_amt r_attr_seq : Int) (r_attr_deps : (List Int)) (hg : isGrp n = true) (hs : smTab rows) (hb : InB rows rep) (h1 : 1 ≤ no) (h2 : no ≤ 1000) (hx : r_attr_deps.length ≤ 10000000000) :
  Fun T 39 [i64 rep, i64 no, i64 r_ballot, i64 r_vote, i64 r_state, i64 r_cmd_kind, i64 r_cmd_id, i64 r_cmd_src, i64 r_cmd_dst, i64 r_cmd_amt, i64 r_attr_seq, rL r_attr_deps, i64 n, rL rows] = some [i64 (tset ⟨n, rows⟩ rep no ⟨r_ballot, r_vote, r_state, ⟨r_cmd_kind, r_cmd_id, r_cmd_src, r_cmd_dst, r_cmd_amt⟩, ⟨r_attr_seq, r_attr_deps⟩⟩).n, rL (tset ⟨n, rows⟩ rep no ⟨r_ballot, r_vote, r_state, ⟨r_cmd_kind, r_cmd_id, r_cmd_src, r_cmd_dst, r_cmd_amt⟩, ⟨r_attr_seq, r_attr_deps⟩⟩).rows] := by
 rw [Fun_k (t := tm39) rfl]; unfold tm39; unfold tset
 have hq := hs.2 _ (at_memI hb)
 have hq1 := hq.1
 simp (disch := first | assumption | omega) only [S0, reduceIte, reduceCtorEq, reduceAdd, reduceEqDiff, Int.reduceBEq, reduceLT, reduceLE]
 rw [whileE (T := T) (.yield 1, [rL (setI rows rep (ext n (atI rows rep) no))]) (fun j : Nat => (no - (atI rows rep).length).toNat - j) (fun j => j ≤ (no - (atI rows rep).length).toNat) (fun j => [rL (setI rows rep (atI rows rep ++ List.replicate j (row0 n)))]) 0 (by rw [List.replicate_zero, List.append_nil, setI_at hb]; rfl) (by omega) (by simp)]
 ·have hb2 : InB (setI rows rep (ext n (atI rows rep) no)) rep := by unfold InB; rw [setI, List.length_set]; exact hb
  have ha : atI (setI rows rep (ext n (atI rows rep) no)) rep = ext n (atI rows rep) no := S_upd.1 hb
  have hb3 : InB (ext n (atI rows rep) no) (no - 1) := by unfold InB; rw [ext_len (by omega)]; omega
  simp (disch := first | assumption | omega) only [S0, reduceIte, reduceCtorEq, reduceAdd, reduceEqDiff, Int.reduceBEq, reduceLT, reduceLE, S_row, S_set, S_upd, impl_Row_copied, ha]
 ·intro j hj
  have hb2 : InB (setI rows rep (atI rows rep ++ List.replicate j (row0 n))) rep := by unfold InB; rw [setI, List.length_set]; exact hb
  have ha : atI (setI rows rep (atI rows rep ++ List.replicate j (row0 n))) rep = atI rows rep ++ List.replicate j (row0 n) := S_upd.1 hb
  have hlen : ((atI rows rep ++ List.replicate j (row0 n)).length : Int) = (atI rows rep).length + j := by simp
  have hrep : (atI rows rep ++ List.replicate j (row0 n)) ++ [row0 n] = atI rows rep ++ List.replicate (j + 1) (row0 n) := by rw [List.append_assoc, ← List.replicate_succ']
  have hll : (atI rows rep ++ List.replicate j (row0 n)).length + ([row0 n] : List TRow).length ≤ 100000000000 := by simp only [List.length_append, List.length_replicate, List.length_cons, List.length_nil]; omega
  unfold row0 at hrep hll ha hb2 hlen ⊢
  by_cases hc : (atI rows rep).length + j < no
  ·have hc' : decide (((atI rows rep).length : Int) + j < no) = true := by simpa using hc
   refine .inl ⟨j + 1, ?_, by omega, by omega⟩
   simp (disch := first | assumption | omega) only [S0, reduceIte, reduceCtorEq, reduceAdd, reduceEqDiff, Int.reduceBEq, reduceLT, reduceLE, S_row, S_set, S_mk, S_app, S_hole, S_upd, impl_noneAttr, ha, hlen, hc', hrep]
  ·have hc' : decide (((atI rows rep).length : Int) + j < no) = false := by simpa using hc
   have hj2 : j = (no - (atI rows rep).length).toNat := by omega
   refine .inr ?_
   simp (disch := first | assumption | omega) only [S0, reduceIte, reduceCtorEq, reduceAdd, reduceEqDiff, Int.reduceBEq, reduceLT, reduceLE, S_row, S_set, S_mk, S_app, S_hole, S_upd, ha, hlen, hc']
   rw [hj2]; rfl
theorem spec_SetRow (n : Int) (rows : List (List TRow)) (rep no : Int) (r_ballot r_vote r_state r_cmd_kind r_cmd_id r_cmd_src r_cmd_dst r_cmd_amt r_attr_seq : Int) (r_attr_deps : (List Int)) (hs : smTab rows) (hx : r_attr_deps.length ≤ 10000000000) :
  Fun T 40 [i64 n, rL rows, i64 rep, i64 no, i64 r_ballot, i64 r_vote, i64 r_state, i64 r_cmd_kind, i64 r_cmd_id, i64 r_cmd_src, i64 r_cmd_dst, i64 r_cmd_amt, i64 r_attr_seq, rL r_attr_deps] = some [i64 (tsetR ⟨n, rows⟩ rep no ⟨r_ballot, r_vote, r_state, ⟨r_cmd_kind, r_cmd_id, r_cmd_src, r_cmd_dst, r_cmd_amt⟩, ⟨r_attr_seq, r_attr_deps⟩⟩).1.n, rL (tsetR ⟨n, rows⟩ rep no ⟨r_ballot, r_vote, r_state, ⟨r_cmd_kind, r_cmd_id, r_cmd_src, r_cmd_dst, r_cmd_amt⟩, ⟨r_attr_seq, r_attr_deps⟩⟩).1.rows, .bool (tsetR ⟨n, rows⟩ rep no ⟨r_ballot, r_vote, r_state, ⟨r_cmd_kind, r_cmd_id, r_cmd_src, r_cmd_dst, r_cmd_amt⟩, ⟨r_attr_seq, r_attr_deps⟩⟩).2] := by
 rw [Fun_k (t := tm40) rfl]; unfold tm40; unfold tsetR
 have hx' : r_attr_deps.length ≤ 1099511627776 := by omega
 cases ht : tabOk ⟨n, rows⟩
 ·(refine fork_in ?_; repeat' (refine fork_eq (fun _ => ?_) (fun _ => ?_) <;> try simp (disch := first | assumption | omega) only [S0, reduceIte, reduceCtorEq, reduceAdd, reduceEqDiff, Int.reduceBEq, reduceLT, reduceLE, spec_l4Asked, S_nil, *]))
 have hg : isGrp n = true := tabOk_grp ht
 have hl : (rows.length : Int) = n := tabOk_len ht
 cases hi : inst n rep no
 ·simp (disch := first | assumption | omega) only [S0, reduceIte, reduceCtorEq, reduceAdd, reduceEqDiff, Int.reduceBEq, reduceLT, reduceLE, spec_l4Asked, S_nil, ht, hi]
 have hb : InB rows rep := tabOk_in ht hi
 have hr := inst_rng hi
 cases ho : rowOk n ⟨r_ballot, r_vote, r_state, ⟨r_cmd_kind, r_cmd_id, r_cmd_src, r_cmd_dst, r_cmd_amt⟩, ⟨r_attr_seq, r_attr_deps⟩⟩
 ·simp (disch := first | assumption | omega) only [S0, reduceIte, reduceCtorEq, reduceAdd, reduceEqDiff, Int.reduceBEq, reduceLT, reduceLE, spec_l4Asked, spec_l4Row, S_nil, ht, hi, ho]
 simp (disch := first | assumption | omega) only [S0, reduceIte, reduceCtorEq, reduceAdd, reduceEqDiff, Int.reduceBEq, reduceLT, reduceLE, spec_l4Asked, spec_l4Row, spec_l4Set, ht, hi, ho]
theorem impl_SetRow (n : Int) (rows : List (List TRow)) (rep no : Int) (r_ballot r_vote r_state r_cmd_kind r_cmd_id r_cmd_src r_cmd_dst r_cmd_amt r_attr_seq : Int) (r_attr_deps : (List Int)) (hs : smTab rows) (hx : r_attr_deps.length ≤ 10000000000) :
  Fun T 13 [i64 n, rL rows, i64 rep, i64 no, i64 r_ballot, i64 r_vote, i64 r_state, i64 r_cmd_kind, i64 r_cmd_id, i64 r_cmd_src, i64 r_cmd_dst, i64 r_cmd_amt, i64 r_attr_seq, rL r_attr_deps] = some [i64 (tsetR ⟨n, rows⟩ rep no ⟨r_ballot, r_vote, r_state, ⟨r_cmd_kind, r_cmd_id, r_cmd_src, r_cmd_dst, r_cmd_amt⟩, ⟨r_attr_seq, r_attr_deps⟩⟩).1.n, rL (tsetR ⟨n, rows⟩ rep no ⟨r_ballot, r_vote, r_state, ⟨r_cmd_kind, r_cmd_id, r_cmd_src, r_cmd_dst, r_cmd_amt⟩, ⟨r_attr_seq, r_attr_deps⟩⟩).1.rows, .bool (tsetR ⟨n, rows⟩ rep no ⟨r_ballot, r_vote, r_state, ⟨r_cmd_kind, r_cmd_id, r_cmd_src, r_cmd_dst, r_cmd_amt⟩, ⟨r_attr_seq, r_attr_deps⟩⟩).2] := by
 rw [Fun_k (t := tm13) rfl]; unfold tm13; unfold tsetR
 have hx' : r_attr_deps.length ≤ 1099511627776 := by omega
 cases ht : tabOk ⟨n, rows⟩
 ·(refine fork_in ?_; repeat' (refine fork_eq (fun _ => ?_) (fun _ => ?_) <;> try simp (disch := first | assumption | omega) only [S0, reduceIte, reduceCtorEq, reduceAdd, reduceEqDiff, Int.reduceBEq, reduceLT, reduceLE, impl_GoodTable, S_nil, *]))
 have hg : isGrp n = true := tabOk_grp ht
 have hl : (rows.length : Int) = n := tabOk_len ht
 cases hi : inst n rep no
 ·simp (disch := first | assumption | omega) only [S0, reduceIte, reduceCtorEq, reduceAdd, reduceEqDiff, Int.reduceBEq, reduceLT, reduceLE, impl_GoodTable, impl_isInstance, S_nil, ht, hi, hg]
 have hb : InB rows rep := tabOk_in ht hi
 have hr := inst_rng hi
 cases ho : rowOk n ⟨r_ballot, r_vote, r_state, ⟨r_cmd_kind, r_cmd_id, r_cmd_src, r_cmd_dst, r_cmd_amt⟩, ⟨r_attr_seq, r_attr_deps⟩⟩
 ·simp (disch := first | assumption | omega) only [S0, reduceIte, reduceCtorEq, reduceAdd, reduceEqDiff, Int.reduceBEq, reduceLT, reduceLE, impl_GoodTable, impl_isInstance, impl_goodRow, S_nil, ht, hi, ho, hg]
 simp (disch := first | assumption | omega) only [S0, reduceIte, reduceCtorEq, reduceAdd, reduceEqDiff, Int.reduceBEq, reduceLT, reduceLE, impl_GoodTable, impl_isInstance, impl_goodRow, impl_Table_copied, impl_Table_set, ht, hi, ho, hg]
theorem spec_l4Committed (n : Int) (rows : List (List TRow)) (hs : ∀ l ∈ rows, l.length ≤ 6) (hl : rows.length ≤ 100) : Fun T 81 [i64 n, rL rows] = some [rL (comM rows)] := by
 rw [Fun_k (t := tm81) rfl]; unfold tm81; unfold comM
 simp (disch := first | assumption | omega) only [S0, reduceIte, reduceCtorEq, reduceAdd, reduceEqDiff, Int.reduceBEq, reduceLT, reduceLE]
 rw [loopN rows.length (fun k => [rL (comN rows k), i64 k]) (.yield 1, [rL (comN rows rows.length)]) rfl (by simp)]
 ·simp (disch := first | assumption | omega) only [S0, reduceIte, reduceCtorEq, reduceAdd, reduceEqDiff, Int.reduceBEq, reduceLT, reduceLE]
 ·intro k hk hlt
  have hb : InB rows (k : Int) := InB_nat.2 hk
  have h6 := hs _ (at_mem hk)
  have hln := comN_len hs (m := k) (by omega)
  simp (disch := first | assumption | omega) only [S0, reduceIte, reduceCtorEq, reduceAdd, reduceEqDiff, Int.reduceBEq, reduceLT, reduceLE, S_row, hlt]
  rw [loopN (atI rows (k : Int)).length (fun i => [rL (comN rows k ++ comRowN (atI rows (k : Int)) k i), i64 i]) (.yield 3, [rL (comN rows (k + 1))]) (by show [rL (comN rows k), _] = _; simp [comRowN, Atom.val]) (by simp)]
  ·simp (disch := first | assumption | omega) only [S0, reduceIte, reduceCtorEq, reduceAdd, reduceEqDiff, Int.reduceBEq, reduceLT, reduceLE]
  ·intro i hi hlt2
   have hb2 : InB (atI rows (k : Int)) (i : Int) := InB_nat.2 hi
   have hlc := comRowN_len (atI rows (k : Int)) k i
   have hll : (comN rows k ++ comRowN (atI rows (k : Int)) k i).length + ([[(k : Int), (i : Int) + 1]] : List (List Int)).length ≤ 100000000000 := by
    rw [List.length_append]; simp only [List.length_cons, List.length_nil]; omega
   have e := comRowN_succ (atI rows (k : Int)) k i
   cases hst : (atI (atI rows (k : Int)) (i : Int)).state == 3
   ·rw [hst] at e
    simp only [Bool.false_eq_true, if_false, List.append_nil] at e
    simp (disch := first | assumption | omega) only [S0, reduceIte, reduceCtorEq, reduceAdd, reduceEqDiff, Int.reduceBEq, reduceLT, reduceLE, S_row, hlt2, hst, e]
   ·rw [hst] at e
    simp only [if_true] at e
    simp (disch := first | assumption | omega) only [S0, reduceIte, reduceCtorEq, reduceAdd, reduceEqDiff, Int.reduceBEq, reduceLT, reduceLE, S_row, S_mk, S_app, hlt2, hst, e, ← List.append_assoc]
  ·intro hlt2
   rw [← comN_succ]
   simp (disch := first | assumption | omega) only [S0, reduceIte, reduceCtorEq, reduceAdd, reduceEqDiff, Int.reduceBEq, reduceLT, reduceLE, hlt2]
 ·intro hlt
  simp (disch := first | assumption | omega) only [S0, reduceIte, reduceCtorEq, reduceAdd, reduceEqDiff, Int.reduceBEq, reduceLT, reduceLE, hlt]
theorem impl_Table_committed_1 (k m : Int) (r_ballot r_vote r_state r_cmd_kind r_cmd_id r_cmd_src r_cmd_dst r_cmd_amt r_attr_seq : Int) (r_attr_deps : (List Int)) (out : List (List Int)) (hl : out.length ≤ 10000000000) : Fun T 79 [i64 k, i64 m, i64 r_ballot, i64 r_vote, i64 r_state, i64 r_cmd_kind, i64 r_cmd_id, i64 r_cmd_src, i64 r_cmd_dst, i64 r_cmd_amt, i64 r_attr_seq, rL r_attr_deps, rL out] = some [rL (out ++ if r_state == 3 then [[k, m]] else [])] := by
 rw [Fun_k (t := tm79) rfl]; unfold tm79
 have hll : out.length + ([[k, m]] : List (List Int)).length ≤ 100000000000 := by simp only [List.length_cons, List.length_nil]; omega
 cases hst : r_state == 3
 ·simp (disch := first | assumption | omega) only [S0, reduceIte, reduceCtorEq, reduceAdd, reduceEqDiff, Int.reduceBEq, reduceLT, reduceLE, hst, List.append_nil, Bool.false_eq_true]
 ·simp (disch := first | assumption | omega) only [S0, reduceIte, reduceCtorEq, reduceAdd, reduceEqDiff, Int.reduceBEq, reduceLT, reduceLE, S_mk, S_app, hst]
theorem each_committed (n : Int) (rows : List (List TRow)) (hs : ∀ l ∈ rows, l.length ≤ 6) (hl : rows.length ≤ 100) : Fun T 78 [i64 n, rL rows, .rows 1 []] = some [rL (comM rows)] := by
 rw [Fun_k (t := tm78) rfl]; unfold tm78; unfold comM
 simp (disch := first | assumption | omega) only [S0, reduceIte, reduceCtorEq, reduceAdd, reduceEqDiff, Int.reduceBEq, reduceLT, reduceLE]
 rw [loopN rows.length (fun k => [i64 k, rL (comN rows k)]) (.yield 1, [rL (comN rows rows.length)]) rfl (by simp)]
 ·simp (disch := first | assumption | omega) only [S0, reduceIte, reduceCtorEq, reduceAdd, reduceEqDiff, Int.reduceBEq, reduceLT, reduceLE]
 ·intro k hk hlt
  have hb : InB rows (k : Int) := InB_nat.2 hk
  have h6 := hs _ (at_mem hk)
  have hln := comN_len hs (m := k) (by omega)
  simp (disch := first | assumption | omega) only [S0, reduceIte, reduceCtorEq, reduceAdd, reduceEqDiff, Int.reduceBEq, reduceLT, reduceLE, S_row, hlt]
  rw [loopN (atI rows (k : Int)).length (fun i => [i64 i, rL (comN rows k ++ comRowN (atI rows (k : Int)) k i)]) (.yield 3, [rL (comN rows (k + 1))]) (by show [_, rL (comN rows k)] = _; simp [comRowN, Atom.val]) (by simp)]
  ·simp (disch := first | assumption | omega) only [S0, reduceIte, reduceCtorEq, reduceAdd, reduceEqDiff, Int.reduceBEq, reduceLT, reduceLE]
  ·intro i hi hlt2
   have hb2 : InB (atI rows (k : Int)) (i : Int) := InB_nat.2 hi
   have hlc := comRowN_len (atI rows (k : Int)) k i
   have hll : (comN rows k ++ comRowN (atI rows (k : Int)) k i).length ≤ 10000000000 := by
    rw [List.length_append]; omega
   have e := comRowN_succ (atI rows (k : Int)) k i
   simp (disch := first | assumption | omega) only [S0, reduceIte, reduceCtorEq, reduceAdd, reduceEqDiff, Int.reduceBEq, reduceLT, reduceLE, S_row, impl_Table_committed_1, hlt2, e, List.append_assoc]
  ·intro hlt2
   rw [← comN_succ]
   simp (disch := first | assumption | omega) only [S0, reduceIte, reduceCtorEq, reduceAdd, reduceEqDiff, Int.reduceBEq, reduceLT, reduceLE, hlt2]
 ·intro hlt
  simp (disch := first | assumption | omega) only [S0, reduceIte, reduceCtorEq, reduceAdd, reduceEqDiff, Int.reduceBEq, reduceLT, reduceLE, hlt]
theorem impl_Table_committed (n : Int) (rows : List (List TRow)) (hs : ∀ l ∈ rows, l.length ≤ 6) (hl : rows.length ≤ 100) : Fun T 77 [i64 n, rL rows] = some [rL (comM rows)] := by
 rw [Fun_k (t := tm77) rfl]; unfold tm77
 have h0 : (Prim.mk 1 0).run [] = some [.rows 1 []] := rfl
 simp (disch := first | assumption | omega) only [S0, reduceIte, reduceCtorEq, reduceAdd, reduceEqDiff, Int.reduceBEq, reduceLT, reduceLE, h0, each_committed]
theorem impl_newTable (n : Int) (hg : isGrp n = true) : Fun T 85 [i64 n] = some [i64 n, rL (List.replicate n.toNat ([] : List TRow))] := by
 rw [Fun_k (t := tm85) rfl]; unfold tm85
 have hn := isGrp_rng hg
 simp (disch := first | assumption | omega) only [S0, reduceIte, reduceCtorEq, reduceAdd, reduceEqDiff, Int.reduceBEq, reduceLT, reduceLE, S_make]
theorem cur_next (code : D) (hc : isBytes code) (a s : Int) (h0 : 0 ≤ a) (h1 : a ≤ 4611686018427387904) : ∃ v s', Fun T 6 [code, i64 a, u64 s] = some [i64 v, code, i64 (a + 1), u64 s'] ∧ 0 ≤ v ∧ v ≤ 255 := by
 rw [Fun_k (t := tm6) rfl]; unfold tm6
 obtain ⟨l1, l2⟩ := bytes_len hc
 by_cases hlt : a < (bLen code : Nat)
 ·obtain ⟨b1, b, b2, b3, b4⟩ := bytes_at hc h0 hlt
  have c8 := u8_conv b3 b4
  have d : decide (a < ((bLen code : Nat) : Int)) = true := by simpa using hlt
  have e : decide (a + 1 ≤ ((bLen code : Nat) : Int)) = true := by simp; omega
  simp (disch := first | assumption | omega) only [S0, reduceIte, reduceCtorEq, reduceAdd, reduceEqDiff, Int.reduceBEq, reduceLT, reduceLE, l1, b1, b2, c8, d, e, S_u64]
  exact ⟨_, _, rfl, b3, b4⟩
 ·have d : decide (a < ((bLen code : Nat) : Int)) = false := by simpa using hlt
  have e : decide (a + 1 ≤ ((bLen code : Nat) : Int)) = false := by simp; omega
  simp (disch := first | assumption | omega) only [S0, reduceIte, reduceCtorEq, reduceAdd, reduceEqDiff, Int.reduceBEq, reduceLT, reduceLE, l1, d, e, S_u64]
  exact ⟨_, _, rfl, (lowV_rng _).1, (lowV_rng _).2⟩
theorem cur_pick (code : D) (hc : isBytes code) (n a s : Int) (h0 : 0 ≤ a) (h1 : a ≤ 2305843009213693952) : ∃ v a' s', Fun T 5 [i64 n, code, i64 a, u64 s] = some [i64 v, code, i64 a', u64 s'] ∧ 0 ≤ v ∧ (1 ≤ n → v < n) ∧ a ≤ a' ∧ a' ≤ a + 2 := by
 rw [Fun_k (t := tm5) rfl]; unfold tm5
 by_cases hn : n ≤ 1
 ·have d : decide (n ≤ 1) = true := by simpa using hn
  simp (disch := first | assumption | omega) only [S0, reduceIte, reduceCtorEq, reduceAdd, reduceEqDiff, Int.reduceBEq, reduceLT, reduceLE, d]
  exact ⟨_, _, _, rfl, by omega, by omega, by omega, by omega⟩
 ·have d : decide (n ≤ 1) = false := by simpa using hn
  obtain ⟨v, s', e, v1, v2⟩ := cur_next code hc a s h0 (by omega)
  by_cases hn2 : 200 < n
  ·have d2 : decide (200 < n) = true := by simpa using hn2
   obtain ⟨w, s2, e2, w1, w2⟩ := cur_next code hc (a + 1) s' (by omega) (by omega)
   have r1 : (Prim.bin .mul).run [i64 v, i64 256] = some [i64 (v * 256)] := run_mulI (by omega) (by omega)
   have r2 := run_rem' (a := v * 256 + w) (b := n) (by omega) (by omega)
   simp (disch := first | assumption | omega) only [S0, reduceIte, reduceCtorEq, reduceAdd, reduceEqDiff, Int.reduceBEq, reduceLT, reduceLE, d, d2, e, e2, r1, r2]
   exact ⟨_, _, _, rfl, Int.emod_nonneg _ (by omega), fun _ => Int.emod_lt_of_pos _ (by omega), by omega, by omega⟩
  ·have d2 : decide (200 < n) = false := by simpa using hn2
   have r2 := run_rem' (a := v) (b := n) (by omega) (by omega)
   simp (disch := first | assumption | omega) only [S0, reduceIte, reduceCtorEq, reduceAdd, reduceEqDiff, Int.reduceBEq, reduceLT, reduceLE, d, d2, e, r2]
   exact ⟨_, _, _, rfl, Int.emod_nonneg _ (by omega), fun _ => Int.emod_lt_of_pos _ (by omega), by omega, by omega⟩
theorem cur_one (code : D) (hc : isBytes code) (n a s : Int) (h0 : 0 ≤ a) (h1 : a ≤ 2305843009213693952) : ∃ v a' s', Fun T 10 [i64 n, code, i64 a, u64 s] = some [.bool v, code, i64 a', u64 s'] ∧ a ≤ a' ∧ a' ≤ a + 2 := by
 rw [Fun_k (t := tm10) rfl]; unfold tm10
 obtain ⟨v, a', s', e, v1, v2, v3, v4⟩ := cur_pick code hc n a s h0 h1
 simp (disch := first | assumption | omega) only [S0, reduceIte, reduceCtorEq, reduceAdd, reduceEqDiff, Int.reduceBEq, reduceLT, reduceLE, e]
 exact ⟨_, _, _, rfl, v3, v4⟩
theorem cur_among (code : D) (hc : isBytes code) (xs : List Int) (a s : Int) (hx : 0 < xs.length) (hx2 : xs.length ≤ 10000000000) (h0 : 0 ≤ a) (h1 : a ≤ 2305843009213693952) : ∃ v a' s', Fun T 4 [rL xs, code, i64 a, u64 s] = some [i64 v, code, i64 a', u64 s'] ∧ v ∈ xs ∧ a ≤ a' ∧ a' ≤ a + 2 := by
 rw [Fun_k (t := tm4) rfl]; unfold tm4
 obtain ⟨v, a', s', e, v1, v2, v3, v4⟩ := cur_pick code hc xs.length a s h0 h1
 have hb : InB xs v := by unfold InB; omega
 simp (disch := first | assumption | omega) only [S0, reduceIte, reduceCtorEq, reduceAdd, reduceEqDiff, Int.reduceBEq, reduceLT, reduceLE, e, S_row]
 exact ⟨_, _, _, rfl, at_memI hb, v3, v4⟩
theorem cur_cmd (code : D) (hc : isBytes code) (a s : Int) (h0 : 0 ≤ a) (h1 : a ≤ 1152921504606846976) : ∃ (c : TCmd) (a' s' : Int), Fun T 9 [code, i64 a, u64 s] = some [i64 c.kind, i64 c.id, i64 c.src, i64 c.dst, i64 c.amt, code, i64 a', u64 s'] ∧ (1 ≤ c.amt → c.kind = 1) ∧ (0 ≤ c.amt ∧ c.amt ≤ 30) ∧ a ≤ a' ∧ a' ≤ a + 10 := by
 rw [Fun_k (t := tm9) rfl]; unfold tm9
 obtain ⟨v1, a1, s1, e1, p1, q1, g1, k1⟩ := cur_pick code hc 9 a s h0 (by omega)
 obtain ⟨v2, a2, s2, e2, p2, q2, g2, k2⟩ := cur_pick code hc 4 a1 s1 (by omega) (by omega)
 obtain ⟨v3, a3, s3, e3, p3, q3, g3, k3⟩ := cur_pick code hc 30 a2 s2 (by omega) (by omega)
 obtain ⟨v4, a4, s4, e4, p4, q4, g4, k4⟩ := cur_pick code hc 3 a3 s3 (by omega) (by omega)
 obtain ⟨v5, a5, s5, e5, g5, k5⟩ := cur_one code hc 4 a4 s4 (by omega) (by omega)
 have r2 := run_rem' (a := v2 + 1 + v4) (b := 4) (by omega) (by omega)
 have q1' := q1 (by omega)
 have q2' := q2 (by omega)
 have q3' := q3 (by omega)
 have q4' := q4 (by omega)
 cases v5
 ·simp (disch := first | assumption | omega) only [S0, reduceIte, reduceCtorEq, reduceAdd, reduceEqDiff, Int.reduceBEq, reduceLT, reduceLE, e1, e2, e3, e4, e5, r2]
  exact ⟨⟨_, _, _, _, _⟩, _, _, rfl, fun _ => rfl, by simp only; omega, by omega, by omega⟩
 ·simp (disch := first | assumption | omega) only [S0, reduceIte, reduceCtorEq, reduceAdd, reduceEqDiff, Int.reduceBEq, reduceLT, reduceLE, e1, e2, e3, e4, e5, r2]
  exact ⟨⟨_, _, _, _, _⟩, _, _, rfl, by simp only; omega, by simp only; omega, by omega, by omega⟩
theorem spec_l3None_any (n : Int) (h0 : 0 ≤ n) (h1 : n ≤ 1000) : Fun T 11 [i64 n] = some [i64 0, rL (List.replicate n.toNat (0 : Int))] := by
 rw [Fun_k (t := tm11) rfl]; unfold tm11
 (refine fork_in ?_; repeat' (refine fork_eq (fun _ => ?_) (fun _ => ?_) <;> try simp (disch := first | assumption | omega) only [S0, reduceIte, reduceCtorEq, reduceAdd, reduceEqDiff, Int.reduceBEq, reduceLT, reduceLE, S_make, *]))
theorem cur_row (code : D) (hc : isBytes code) (n a s : Int) (hn : 0 ≤ n) (hn2 : n ≤ 10) (h0 : 0 ≤ a) (h1 : a ≤ 576460752303423488) : ∃ (r : TRow) (a' s' : Int), Fun T 8 [i64 n, code, i64 a, u64 s] = some [i64 r.ballot, i64 r.vote, i64 r.state, i64 r.cmd.kind, i64 r.cmd.id, i64 r.cmd.src, i64 r.cmd.dst, i64 r.cmd.amt, i64 r.attr.seq, rL r.attr.deps, code, i64 a', u64 s'] ∧ (r.attr.deps.length : Int) = n ∧ a ≤ a' ∧ a' ≤ a + 50 := by
 rw [Fun_k (t := tm8) rfl]; unfold tm8
 obtain ⟨v1, a1, s1, e1, p1, g1, k1⟩ := cur_among code hc [0, 0, 8, 9, 17] a s (by simp) (by simp) h0 (by omega)
 obtain ⟨v2, a2, s2, e2, p2, q2, g2, k2⟩ := cur_pick code hc 4 a1 s1 (by omega) (by omega)
 obtain ⟨c3, a3, s3, e3, -, -, g3, k3⟩ := cur_cmd code hc a2 s2 (by omega) (by omega)
 obtain ⟨v4, a4, s4, e4, p4, q4, g4, k4⟩ := cur_pick code hc 5 a3 s3 (by omega) (by omega)
 simp (disch := first | assumption | omega) only [S0, reduceIte, reduceCtorEq, reduceAdd, reduceEqDiff, Int.reduceBEq, reduceLT, reduceLE, e1, e2, e3, e4, S_mk]
 generalize hE : Er T (Tm.loop _ _) _ = E
 have key : ∃ q, E = some q ∧ ∃ (ds : List Int) (a' s' : Int), q = (.yield 1, [code, i64 a', u64 s', rL ds]) ∧ (ds.length : Int) = n ∧ a ≤ a' ∧ a' ≤ a + 40 := by
  rw [← hE]
  refine loopEx (γ := Nat × Int × Int × List Int) (fun c => n.toNat - c.1) (fun c => (c.1 : Int) ≤ n ∧ c.2.2.2.length = c.1 ∧ a4 ≤ c.2.1 ∧ c.2.1 ≤ a4 + 2 * c.1) (fun c => [i64 c.1, code, i64 c.2.1, u64 c.2.2.1, rL c.2.2.2]) _ (0, a4, s4, []) rfl (by simp; omega) ?_
  rintro ⟨i, a5, s5, ds⟩ ⟨h2, h3, h4, h5⟩
  simp only at h2 h3 h4 h5
  by_cases hi : (i : Int) < n
  ·have d : decide ((i : Int) < n) = true := by simpa using hi
   obtain ⟨v6, a6, s6, e6, p6, q6, g6, k6⟩ := cur_pick code hc 3 a5 s5 (by omega) (by omega)
   have z : ds.length + ([v6] : List Int).length ≤ 100000000000 := by simp only [List.length_cons, List.length_nil]; omega
   refine .inl ⟨(i + 1, a6, s6, ds ++ [v6]), ?_, ⟨by simp only; omega, by simp [h3], by simp only; omega, by simp only; omega⟩, by simp only; omega⟩
   simp (disch := first | assumption | omega) only [S0, reduceIte, reduceCtorEq, reduceAdd, reduceEqDiff, Int.reduceBEq, reduceLT, reduceLE, d, e6, S_mk, S_app]
  ·have d : decide ((i : Int) < n) = false := by simpa using hi
   refine .inr ⟨(.yield 1, [code, i64 a5, u64 s5, rL ds]), ?_, by simp, ds, a5, s5, rfl, by omega, by omega, by omega⟩
   simp (disch := first | assumption | omega) only [S0, reduceIte, reduceCtorEq, reduceAdd, reduceEqDiff, Int.reduceBEq, reduceLT, reduceLE, d]
 obtain ⟨q, rfl, ds, a5, s5, rfl, h2, h3, h4⟩ := key
 obtain ⟨v6, a6, s6, e6, g6, k6⟩ := cur_one code hc 2 a5 s5 (by omega) (by omega)
 cases hz : v2 == 0
 ·cases v6
  ·simp (disch := first | assumption | omega) only [S0, reduceIte, reduceCtorEq, reduceAdd, reduceEqDiff, Int.reduceBEq, reduceLT, reduceLE, e6, hz]
   exact ⟨⟨_, _, _, ⟨_, _, _, _, _⟩, ⟨_, _⟩⟩, _, _, rfl, h2, by omega, by omega⟩
  ·simp (disch := first | assumption | omega) only [S0, reduceIte, reduceCtorEq, reduceAdd, reduceEqDiff, Int.reduceBEq, reduceLT, reduceLE, e6, hz]
   exact ⟨⟨_, _, _, ⟨_, _, _, _, _⟩, ⟨_, _⟩⟩, _, _, rfl, h2, by omega, by omega⟩
 ·have e7 := spec_l3None_any n (by omega) (by omega)
  cases v6
  ·simp (disch := first | assumption | omega) only [S0, reduceIte, reduceCtorEq, reduceAdd, reduceEqDiff, Int.reduceBEq, reduceLT, reduceLE, e6, e7, hz]
   exact ⟨⟨_, _, _, ⟨_, _, _, _, _⟩, ⟨_, _⟩⟩, _, _, rfl, by simp only [List.length_replicate]; omega, by omega, by omega⟩
  ·simp (disch := first | assumption | omega) only [S0, reduceIte, reduceCtorEq, reduceAdd, reduceEqDiff, Int.reduceBEq, reduceLT, reduceLE, e6, e7, hz]
   exact ⟨⟨_, _, _, ⟨_, _, _, _, _⟩, ⟨_, _⟩⟩, _, _, rfl, by simp only [List.length_replicate]; omega, by omega, by omega⟩
theorem draw_l4New (n : Int) (h0 : 0 ≤ n) (h1 : n ≤ 1000) : Fun T 7 [i64 n] = some [i64 n, rL (List.replicate n.toNat ([] : List TRow))] := by
 rw [Fun_k (t := tm7) rfl]; unfold tm7
 have e : (Prim.make 24 [(.rows 10 [])]).run [i64 n] = some [rL (List.replicate n.toNat ([] : List TRow))] := S_make.2.2.2.1 h0 (by omega)
 simp (disch := first | assumption | omega) only [S0, reduceIte, reduceCtorEq, reduceAdd, reduceEqDiff, Int.reduceBEq, reduceLT, reduceLE, e]
theorem cur_inst (code : D) (hc : isBytes code) (a s : Int) (h0 : 0 ≤ a) (h1 : a ≤ 1152921504606846976) : ∃ (k i a' s' : Int), Fun T 12 [code, i64 a, u64 s] = some [i64 k, i64 i, code, i64 a', u64 s'] ∧ a ≤ a' ∧ a' ≤ a + 10 := by
 rw [Fun_k (t := tm12) rfl]; unfold tm12
 obtain ⟨v1, a1, s1, e1, p1, q1, g1, k1⟩ := cur_pick code hc 4 a s h0 (by omega)
 obtain ⟨v2, a2, s2, e2, p2, q2, g2, k2⟩ := cur_pick code hc 12 a1 s1 (by omega) (by omega)
 obtain ⟨v3, a3, s3, e3, p3, g3, k3⟩ := cur_among code hc [1, 1, 2, 2, 3, 4, 6, 7, 0] a2 s2 (by simp) (by simp) (by omega) (by omega)
 have q1' := q1 (by omega)
 have q2' := q2 (by omega)
 have b1 : 0 ≤ v2 / 11 ∧ v2 / 11 ≤ 1 := by omega
 have z : (Prim.mk 1 9).run [i64 1, i64 1, i64 2, i64 2, i64 3, i64 4, i64 6, i64 7, i64 0] = some [rL ([1, 1, 2, 2, 3, 4, 6, 7, 0] : List Int)] := rfl
 simp (disch := first | assumption | omega) only [S0, reduceIte, reduceCtorEq, reduceAdd, reduceEqDiff, Int.reduceBEq, reduceLT, reduceLE, e1, e2, e3, z]
 exact ⟨_, _, _, _, rfl, by omega, by omega⟩
theorem cur_table (code : D) (hc : isBytes code) (a s : Int) (h0 : 0 ≤ a) (h1 : a ≤ 288230376151711744) : ∃ (t : TTable) (a' s' : Int), Fun T 3 [code, i64 a, u64 s] = some [i64 t.n, rL t.rows, code, i64 a', u64 s'] ∧ (0 ≤ t.n ∧ t.n ≤ 5) ∧ t.rows.length ≤ 5 ∧ (∀ l ∈ t.rows, l.length ≤ 5 ∧ ∀ r ∈ l, r.attr.deps.length ≤ 10) ∧ a ≤ a' ∧ a' ≤ a + 2000 := by
 rw [Fun_k (t := tm3) rfl]; unfold tm3
 obtain ⟨n, a1, s1, e1, p1, g1, k1⟩ := cur_among code hc [3, 3, 3, 5] a s (by simp) (by simp) h0 (by omega)
 have hn : 3 ≤ n ∧ n ≤ 5 := by simp at p1; omega
 have e2 := draw_l4New n (by omega) (by omega)
 have eL : ((List.replicate n.toNat ([] : List TRow)).length : Int) = n := by rw [List.length_replicate]; omega
 simp (disch := first | assumption | omega) only [S0, reduceIte, reduceCtorEq, reduceAdd, reduceEqDiff, Int.reduceBEq, reduceLT, reduceLE, e1, e2, S_mk, eL]
 generalize hE : Er T (Tm.loop _ _) _ = E
 have key : ∃ q, E = some q ∧ ∃ (rows : List (List TRow)) (a' s' : Int), q = (.yield 1, [code, i64 a', u64 s', rL rows]) ∧ (rows.length : Int) = n ∧ (∀ l ∈ rows, l.length ≤ 4 ∧ ∀ r ∈ l, r.attr.deps.length ≤ 10) ∧ a ≤ a' ∧ a' ≤ a + 1500 := by
  rw [← hE]
  refine loopEx (γ := Nat × Int × Int × List (List TRow)) (fun c => n.toNat - c.1) (fun c => (c.1 : Int) ≤ n ∧ (c.2.2.2.length : Int) = n ∧ (∀ l ∈ c.2.2.2, l.length ≤ 4 ∧ ∀ r ∈ l, r.attr.deps.length ≤ 10) ∧ (∀ k : Nat, c.1 ≤ k → k < n.toNat → (atI c.2.2.2 (k : Int)).length = 0) ∧ a1 ≤ c.2.1 ∧ c.2.1 ≤ a1 + 250 * c.1)
   (fun c => [i64 c.1, code, i64 c.2.1, u64 c.2.2.1, rL c.2.2.2]) _ (0, a1, s1, List.replicate n.toNat []) rfl
   ⟨by simp only; omega, by simp only [List.length_replicate]; omega, by intro l hl; rw [List.eq_of_mem_replicate hl]; simp, by intro k hk1 hk2; rw [atI_get (by simpa using hk2)]; simp, by simp only; omega, by simp only; omega⟩ ?_
  rintro ⟨i, a2, s2, rows⟩ ⟨h2, h3, h4, h7, h5, h6⟩
  simp only at h2 h3 h4 h5 h6 h7
  by_cases hi : (i : Int) < n
  ·have d : decide ((i : Int) < n) = true := by simpa using hi
   obtain ⟨v3, a3, s3, e3, p3, q3, g3, k3⟩ := cur_pick code hc 4 a2 s2 (by omega) (by omega)
   have q3' := q3 (by omega)
   have hb : InB rows (i : Int) := by unfold InB; omega
   have hz := h7 i (Nat.le_refl _) (by omega)
   left
   simp (disch := first | assumption | omega) only [S0, reduceIte, reduceCtorEq, reduceAdd, reduceEqDiff, Int.reduceBEq, reduceLT, reduceLE, d, e3]
   generalize hE2 : Er T (Tm.loop _ _) _ = E2
   have key2 : ∃ q, E2 = some q ∧ ∃ (l : List TRow) (a' s' : Int), q = (.yield 3, [code, i64 a', u64 s', rL (setI rows (i : Int) l)]) ∧ l.length ≤ 4 ∧ (∀ r ∈ l, r.attr.deps.length ≤ 10) ∧ a3 ≤ a' ∧ a' ≤ a3 + 240 := by
    rw [← hE2]
    refine loopEx (γ := Nat × Int × Int × List TRow) (fun c => c.1) (fun c => c.1 ≤ 4 ∧ c.2.2.2.length + c.1 ≤ 4 ∧ (∀ r ∈ c.2.2.2, r.attr.deps.length ≤ 10) ∧ a3 ≤ c.2.1 ∧ c.2.1 + 60 * c.1 ≤ a3 + 240)
     (fun c => [i64 c.1, code, i64 c.2.1, u64 c.2.2.1, rL (setI rows (i : Int) c.2.2.2)]) _ (v3.toNat, a3, s3, atI rows (i : Int)) ?_
     ⟨by simp only; omega, by simp only; omega, fun r hr => (h4 _ (at_memI hb)).2 r hr, by simp only; omega, by simp only; omega⟩ ?_
    ·show [i64 v3, code, i64 a3, u64 s3, rL rows] = [i64 ((v3.toNat : Nat) : Int), code, i64 a3, u64 s3, rL (setI rows (i : Int) (atI rows (i : Int)))]
     rw [setI_at hb, show ((v3.toNat : Nat) : Int) = v3 by omega]
    rintro ⟨m, a4, s4, l⟩ ⟨j2, j3, j4, j5, j6⟩
    simp only at j2 j3 j4 j5 j6
    by_cases hm : 0 < m
    ·have d2 : decide (0 < (m : Int)) = true := by simpa using hm
     obtain ⟨r, a5, s5, e5, p5, g5, k5⟩ := cur_row code hc n a4 s4 (by omega) (by omega) (by omega) (by omega)
     have hbl : InB (setI rows (i : Int) l) (i : Int) := by unfold InB; rw [setI_len]; omega
     have z : l.length + ([r] : List TRow).length ≤ 100000000000 := by simp only [List.length_cons, List.length_nil]; omega
     have eat : atI (setI rows (i : Int) l) (i : Int) = l := S_upd.1 hb
     refine .inl ⟨(m - 1, a5, s5, l ++ [r]), ?_, ⟨by simp only; omega, by simp; omega, ?_, by simp only; omega, by simp only; omega⟩, by simp only; omega⟩
     ·have em : ((m - 1 : Nat) : Int) = (m : Int) - 1 := by omega
      have es : ∀ x : List TRow, setI (setI rows (i : Int) l) (i : Int) x = setI rows (i : Int) x := fun x => S_upd.2.1
      simp (disch := first | assumption | omega) only [S0, reduceIte, reduceCtorEq, reduceAdd, reduceEqDiff, Int.reduceBEq, reduceLT, reduceLE, d2, e5, S_row, eat, S_mk, S_app, S_hole, es, em]
     ·intro y hy
      simp only [List.mem_append, List.mem_singleton] at hy
      rcases hy with hy | rfl
      ·exact j4 y hy
      ·omega
    ·have d2 : decide (0 < (m : Int)) = false := by simpa using hm
     refine .inr ⟨(.yield 3, [code, i64 a4, u64 s4, rL (setI rows (i : Int) l)]), ?_, by simp, l, a4, s4, rfl, by omega, j4, by omega, by omega⟩
     simp (disch := first | assumption | omega) only [S0, reduceIte, reduceCtorEq, reduceAdd, reduceEqDiff, Int.reduceBEq, reduceLT, reduceLE, d2]
   obtain ⟨q, rfl, l, a4, s4, rfl, y1, y2, y3, y4⟩ := key2
   simp (disch := first | assumption | omega) only [S0, reduceIte, reduceCtorEq, reduceAdd, reduceEqDiff, Int.reduceBEq, reduceLT, reduceLE]
   refine ⟨(i + 1, a4, s4, setI rows (i : Int) l), rfl, ⟨by simp only; omega, by simp only [setI_len]; omega, ?_, ?_, by simp only; omega, by simp only; omega⟩, by simp only; omega⟩
   ·intro x hx
    rcases mem_setI hx with hx | rfl
    ·exact h4 x hx
    ·exact ⟨y1, y2⟩
   ·intro k hk1 hk2
    simp only
    rw [atI_ne (by omega) (by omega) (by omega)]
    exact h7 k (by simp only at hk1; omega) hk2
  ·have d : decide ((i : Int) < n) = false := by simpa using hi
   refine .inr ⟨(.yield 1, [code, i64 a2, u64 s2, rL rows]), ?_, by simp, rows, a2, s2, rfl, h3, h4, by omega, by omega⟩
   simp (disch := first | assumption | omega) only [S0, reduceIte, reduceCtorEq, reduceAdd, reduceEqDiff, Int.reduceBEq, reduceLT, reduceLE, d]
 obtain ⟨q, rfl, rows, a2, s2, rfl, h2, h3, h4, h5⟩ := key
 obtain ⟨v6, a6, s6, e6, p6, q6, g6, k6⟩ := cur_pick code hc 40 a2 s2 (by omega) (by omega)
 have h3' : ∀ l ∈ rows, l.length ≤ 5 ∧ ∀ r ∈ l, r.attr.deps.length ≤ 10 := fun l hl => ⟨by have := (h3 l hl).1; omega, (h3 l hl).2⟩
 cases c1 : v6 == 0
 ·cases c2 : v6 == 1
  ·simp (disch := first | assumption | omega) only [S0, reduceIte, reduceCtorEq, reduceAdd, reduceEqDiff, Int.reduceBEq, reduceLT, reduceLE, e6, c1, c2]
   exact ⟨⟨_, _⟩, _, _, rfl, by simp only; omega, by simp only; omega, h3', by omega, by omega⟩
  ·have hb : InB rows 0 := by unfold InB; omega
   have z : (Prim.mk 10 1).run [i64 0, i64 1, i64 0, i64 0, i64 0, i64 0, i64 0, i64 0, i64 0, .rows 1 []] = some [rL ([⟨0, 1, 0, ⟨0, 0, 0, 0, 0⟩, ⟨0, []⟩⟩] : List TRow)] := rfl
   have hl0 := h3 _ (at_memI hb)
   have z2 : (atI rows 0).length + ([⟨0, 1, 0, ⟨0, 0, 0, 0, 0⟩, ⟨0, []⟩⟩] : List TRow).length ≤ 100000000000 := by simp only [List.length_cons, List.length_nil]; omega
   simp (disch := first | assumption | omega) only [S0, reduceIte, reduceCtorEq, reduceAdd, reduceEqDiff, Int.reduceBEq, reduceLT, reduceLE, e6, c1, c2, S_row, z, S_app, S_hole]
   refine ⟨⟨_, _⟩, _, _, rfl, by simp only; omega, ?_, ?_, by omega, by omega⟩
   ·show (setI rows 0 _).length ≤ 5
    rw [setI_len]
    omega
   intro l hl
   rcases mem_setI hl with hl | rfl
   ·exact h3' l hl
   ·refine ⟨by rw [List.length_append]; have := hl0.1; simp only [List.length_cons, List.length_nil]; omega, fun r hr => ?_⟩
    simp only [List.mem_append, List.mem_singleton] at hr
    rcases hr with hr | rfl
    ·exact hl0.2 r hr
    ·simp
 ·obtain ⟨v7, a7, s7, e7, p7, q7, g7, k7⟩ := cur_pick code hc 6 a6 s6 (by omega) (by omega)
  have q7' := q7 (by omega)
  simp (disch := first | assumption | omega) only [S0, reduceIte, reduceCtorEq, reduceAdd, reduceEqDiff, Int.reduceBEq, reduceLT, reduceLE, e6, c1, e7]
  exact ⟨⟨_, _⟩, _, _, rfl, by simp only; omega, by simp only; omega, h3', by omega, by omega⟩
theorem drawSetRow (code : D) (hc : isBytes code) : ∃ (t : TTable) (k i : Int) (r : TRow), Fun T 2 [code] = some [i64 t.n, rL t.rows, i64 k, i64 i, i64 r.ballot, i64 r.vote, i64 r.state, i64 r.cmd.kind, i64 r.cmd.id, i64 r.cmd.src, i64 r.cmd.dst, i64 r.cmd.amt, i64 r.attr.seq, rL r.attr.deps] ∧ t.rows.length ≤ 5 ∧ (∀ l ∈ t.rows, l.length ≤ 5 ∧ ∀ r ∈ l, r.attr.deps.length ≤ 10) ∧ r.attr.deps.length ≤ 10 := by
 rw [Fun_k (t := tm2) rfl]; unfold tm2
 obtain ⟨t, a1, s1, e1, p1, p2, p3, g1, k1⟩ := cur_table code hc 0 0 (by omega) (by omega)
 obtain ⟨k, i, a2, s2, e2, g2, k2⟩ := cur_inst code hc a1 s1 (by omega) (by omega)
 obtain ⟨r, a3, s3, e3, p4, g3, k3⟩ := cur_row code hc t.n a2 s2 (by omega) (by omega) (by omega) (by omega)
 have u0 : D.int .u64 0 = u64 0 := rfl
 simp (disch := first | assumption | omega) only [S0, reduceIte, reduceCtorEq, reduceAdd, reduceEqDiff, Int.reduceBEq, reduceLT, reduceLE, e1, e2, e3, u0]
 exact ⟨_, _, _, _, rfl, p2, p3, by omega⟩
theorem drawNextBallot (code : D) (hc : isBytes code) : ∃ (t : TTable) (k i m : Int), Fun T 66 [code] = some [i64 t.n, rL t.rows, i64 k, i64 i, i64 m] ∧ t.rows.length ≤ 5 ∧ (∀ l ∈ t.rows, l.length ≤ 5 ∧ ∀ r ∈ l, r.attr.deps.length ≤ 10) := by
 rw [Fun_k (t := tm66) rfl]; unfold tm66
 obtain ⟨t, a1, s1, e1, p1, p2, p3, g1, k1⟩ := cur_table code hc 0 0 (by omega) (by omega)
 obtain ⟨k, i, a2, s2, e2, g2, k2⟩ := cur_inst code hc a1 s1 (by omega) (by omega)
 obtain ⟨v3, a3, s3, e3, p4, q4, g3, k3⟩ := cur_pick code hc 6 a2 s2 (by omega) (by omega)
 have u0 : D.int .u64 0 = u64 0 := rfl
 simp (disch := first | assumption | omega) only [S0, reduceIte, reduceCtorEq, reduceAdd, reduceEqDiff, Int.reduceBEq, reduceLT, reduceLE, e1, e2, e3, u0]
 exact ⟨_, _, _, _, rfl, p2, p3⟩
theorem drawRowAt (code : D) (hc : isBytes code) : ∃ (t : TTable) (k i : Int), Fun T 72 [code] = some [i64 t.n, rL t.rows, i64 k, i64 i] ∧ t.rows.length ≤ 5 ∧ (∀ l ∈ t.rows, l.length ≤ 5 ∧ ∀ r ∈ l, r.attr.deps.length ≤ 10) := by
 rw [Fun_k (t := tm72) rfl]; unfold tm72
 obtain ⟨t, a1, s1, e1, p1, p2, p3, g1, k1⟩ := cur_table code hc 0 0 (by omega) (by omega)
 obtain ⟨k, i, a2, s2, e2, g2, k2⟩ := cur_inst code hc a1 s1 (by omega) (by omega)
 have u0 : D.int .u64 0 = u64 0 := rfl
 simp (disch := first | assumption | omega) only [S0, reduceIte, reduceCtorEq, reduceAdd, reduceEqDiff, Int.reduceBEq, reduceLT, reduceLE, e1, e2, u0]
 exact ⟨_, _, _, rfl, p2, p3⟩
theorem drawGoodTable (code : D) (hc : isBytes code) : ∃ (t : TTable), Fun T 75 [code] = some [i64 t.n, rL t.rows] ∧ t.rows.length ≤ 5 ∧ (∀ l ∈ t.rows, l.length ≤ 5 ∧ ∀ r ∈ l, r.attr.deps.length ≤ 10) := by
 rw [Fun_k (t := tm75) rfl]; unfold tm75
 obtain ⟨t, a1, s1, e1, p1, p2, p3, g1, k1⟩ := cur_table code hc 0 0 (by omega) (by omega)
 have u0 : D.int .u64 0 = u64 0 := rfl
 simp (disch := first | assumption | omega) only [S0, reduceIte, reduceCtorEq, reduceAdd, reduceEqDiff, Int.reduceBEq, reduceLT, reduceLE, e1, u0]
 exact ⟨_, rfl, p2, p3⟩
theorem drawCommitted (code : D) (hc : isBytes code) : ∃ (t : TTable), Fun T 74 [code] = some [i64 t.n, rL t.rows] ∧ t.rows.length ≤ 5 ∧ (∀ l ∈ t.rows, l.length ≤ 5 ∧ ∀ r ∈ l, r.attr.deps.length ≤ 10) := by
 rw [Fun_k (t := tm74) rfl]; unfold tm74
 obtain ⟨t, e1, p2, p3⟩ := drawGoodTable code hc
 simp (disch := first | assumption | omega) only [S0, reduceIte, reduceCtorEq, reduceAdd, reduceEqDiff, Int.reduceBEq, reduceLT, reduceLE, e1]
 exact ⟨_, rfl, p2, p3⟩
theorem drawIsGroup (code : D) (hc : isBytes code) : ∃ n, Fun T 83 [code] = some [i64 n] := by
 rw [Fun_k (t := tm83) rfl]; unfold tm83
 obtain ⟨v3, a3, s3, e3, p4, q4, g3, k3⟩ := cur_pick code hc 8 0 0 (by omega) (by omega)
 have q4' := q4 (by omega)
 have u0 : D.int .u64 0 = u64 0 := rfl
 simp (disch := first | assumption | omega) only [S0, reduceIte, reduceCtorEq, reduceAdd, reduceEqDiff, Int.reduceBEq, reduceLT, reduceLE, e3, u0]
 exact ⟨_, rfl⟩
theorem drawNewTable (code : D) (hc : isBytes code) : ∃ n, Fun T 82 [code] = some [i64 n] := by
 rw [Fun_k (t := tm82) rfl]; unfold tm82
 obtain ⟨n, e⟩ := drawIsGroup code hc
 simp (disch := first | assumption | omega) only [S0, reduceIte, reduceCtorEq, reduceAdd, reduceEqDiff, Int.reduceBEq, reduceLT, reduceLE, e]
 exact ⟨_, rfl⟩
theorem spec_Committed (n : Int) (rows : List (List TRow)) (hs : smTab rows) : Fun T 80 [i64 n, rL rows] = some [rL (comR ⟨n, rows⟩).1, .bool (comR ⟨n, rows⟩).2] := by
 rw [Fun_k (t := tm80) rfl]; unfold tm80; unfold comR
 cases ht : tabOk ⟨n, rows⟩
 ·simp (disch := first | assumption | omega) only [S0, reduceIte, reduceCtorEq, reduceAdd, reduceEqDiff, Int.reduceBEq, reduceLT, reduceLE, spec_GoodTable, ht, S_nil, Bool.false_eq_true]
 ·have hg := isGrp_rng (tabOk_grp ht)
  have hl := tabOk_len ht
  simp only at hg hl
  have h6 : ∀ l ∈ rows, l.length ≤ 6 := fun l hl => (tabOk_rows ht hl).1
  have hl2 : rows.length ≤ 100 := by omega
  simp (disch := first | assumption | omega) only [S0, reduceIte, reduceCtorEq, reduceAdd, reduceEqDiff, Int.reduceBEq, reduceLT, reduceLE, spec_GoodTable, spec_l4Committed, ht]
theorem impl_Committed (n : Int) (rows : List (List TRow)) (hs : smTab rows) : Fun T 76 [i64 n, rL rows] = some [rL (comR ⟨n, rows⟩).1, .bool (comR ⟨n, rows⟩).2] := by
 rw [Fun_k (t := tm76) rfl]; unfold tm76; unfold comR
 cases ht : tabOk ⟨n, rows⟩
 ·simp (disch := first | assumption | omega) only [S0, reduceIte, reduceCtorEq, reduceAdd, reduceEqDiff, Int.reduceBEq, reduceLT, reduceLE, impl_GoodTable, ht, S_nil, Bool.false_eq_true]
 ·have hg := isGrp_rng (tabOk_grp ht)
  have hl := tabOk_len ht
  simp only at hg hl
  have h6 : ∀ l ∈ rows, l.length ≤ 6 := fun l hl => (tabOk_rows ht hl).1
  have hl2 : rows.length ≤ 100 := by omega
  simp (disch := first | assumption | omega) only [S0, reduceIte, reduceCtorEq, reduceAdd, reduceEqDiff, Int.reduceBEq, reduceLT, reduceLE, impl_GoodTable, impl_Table_committed, ht]
theorem spec_NewTable (n : Int) : Fun T 86 [i64 n] = some [i64 (newR n).1.n, rL (newR n).1.rows, .bool (newR n).2] := by
 rw [Fun_k (t := tm86) rfl]; unfold tm86; unfold newR
 have z : rL ([] : List (List TRow)) = .rows 1 [] := rfl
 cases hg : isGrp n
 ·simp (disch := first | assumption | omega) only [S0, reduceIte, reduceCtorEq, reduceAdd, reduceEqDiff, Int.reduceBEq, reduceLT, reduceLE, spec_IsGroup, hg, z, Bool.false_eq_true]
 ·simp (disch := first | assumption | omega) only [S0, reduceIte, reduceCtorEq, reduceAdd, reduceEqDiff, Int.reduceBEq, reduceLT, reduceLE, spec_IsGroup, spec_l4New, hg]
theorem impl_NewTable (n : Int) : Fun T 84 [i64 n] = some [i64 (newR n).1.n, rL (newR n).1.rows, .bool (newR n).2] := by
 rw [Fun_k (t := tm84) rfl]; unfold tm84; unfold newR
 have z : rL ([] : List (List TRow)) = .rows 1 [] := rfl
 cases hg : isGrp n
 ·simp (disch := first | assumption | omega) only [S0, reduceIte, reduceCtorEq, reduceAdd, reduceEqDiff, Int.reduceBEq, reduceLT, reduceLE, impl_IsGroup, hg, z, Bool.false_eq_true]
 ·simp (disch := first | assumption | omega) only [S0, reduceIte, reduceCtorEq, reduceAdd, reduceEqDiff, Int.reduceBEq, reduceLT, reduceLE, impl_IsGroup, impl_newTable, hg]
theorem laws_big (code more : D) (hc : isBytes code) (hm : isBytes more) : ∃ b, Fun T 1 [code, more] = some [.bool b] := by
 rw [Fun_k (t := tm1) rfl]; unfold tm1
 obtain ⟨l1, l2⟩ := bytes_len hc
 obtain ⟨l3, l4⟩ := bytes_len hm
 cases d : decide (1048576 < ((bLen code : Nat) : Int))
 ·simp (disch := first | assumption | omega) only [S0, reduceIte, reduceCtorEq, reduceAdd, reduceEqDiff, Int.reduceBEq, reduceLT, reduceLE, l1, l3, d]
  exact ⟨_, rfl⟩
 ·simp (disch := first | assumption | omega) only [S0, reduceIte, reduceCtorEq, reduceAdd, reduceEqDiff, Int.reduceBEq, reduceLT, reduceLE, l1, l3, d]
  exact ⟨_, rfl⟩
theorem same_ints (xs ys : List Int) (hx : xs.length ≤ 1099511627776) : Fun T 63 [rL xs, rL ys] = some [.bool (decide (xs = ys))] := by
 rw [Fun_k (t := tm63) rfl]; unfold tm63
 by_cases hl : ys.length = xs.length
 ·have e1 : ((xs.length : Int) == ys.length) = true := by simp [hl]
  simp (disch := first | assumption | omega) only [S0, reduceIte, reduceCtorEq, reduceAdd, reduceEqDiff, Int.reduceBEq, reduceLT, reduceLE, e1]
  rw [scanF 1 xs.length (fun i => decide (atI xs (i : Int) = atI ys (i : Int))) [.bool false], allB_eq hl.symm]
  ·cases decide (xs = ys) <;> simp (disch := first | assumption | omega) only [S0, reduceIte, reduceCtorEq, reduceAdd, reduceEqDiff, Int.reduceBEq, reduceLT, reduceLE]
  ·intro i hi hlt
   have hb : InB xs (i : Int) := InB_nat.2 hi
   have hb2 : InB ys (i : Int) := InB_nat.2 (by omega)
   have e : (!(atI xs (i : Int) == atI ys (i : Int))) = !decide (atI xs (i : Int) = atI ys (i : Int)) := by rw [Bool.beq_eq_decide_eq]
   (refine fork_in ?_; repeat' (refine fork_eq (fun _ => ?_) (fun _ => ?_) <;> try simp (disch := first | assumption | omega) only [S0, reduceIte, reduceCtorEq, reduceAdd, reduceEqDiff, Int.reduceBEq, reduceLT, reduceLE, S_row, hlt, e, *]))
  ·intro hlt
   simp (disch := first | assumption | omega) only [S0, reduceIte, reduceCtorEq, reduceAdd, reduceEqDiff, Int.reduceBEq, reduceLT, reduceLE, hlt]
 ·have e1 : ((xs.length : Int) == ys.length) = false := by simp; omega
  rw [eq_len (fun e => hl e.symm)]
  simp (disch := first | assumption | omega) only [S0, reduceIte, reduceCtorEq, reduceAdd, reduceEqDiff, Int.reduceBEq, reduceLT, reduceLE, e1]
theorem same_attr (s t : Int) (xs ys : List Int) (hx : xs.length ≤ 1099511627776) : Fun T 62 [i64 s, rL xs, i64 t, rL ys] = some [.bool (decide ((⟨s, xs⟩ : TAttr) = ⟨t, ys⟩))] := by
 rw [Fun_k (t := tm62) rfl]; unfold tm62
 have e : decide ((⟨s, xs⟩ : TAttr) = ⟨t, ys⟩) = (s == t && decide (xs = ys)) := by simp [TAttr.mk.injEq, Bool.beq_eq_decide_eq]
 rw [e]
 cases h : s == t
 ·simp (disch := first | assumption | omega) only [S0, reduceIte, reduceCtorEq, reduceAdd, reduceEqDiff, Int.reduceBEq, reduceLT, reduceLE, same_ints, h]
 ·simp (disch := first | assumption | omega) only [S0, reduceIte, reduceCtorEq, reduceAdd, reduceEqDiff, Int.reduceBEq, reduceLT, reduceLE, same_ints, h]
theorem same_row (x_ballot x_vote x_state x_cmd_kind x_cmd_id x_cmd_src x_cmd_dst x_cmd_amt x_attr_seq : Int) (x_attr_deps : (List Int)) (y_ballot y_vote y_state y_cmd_kind y_cmd_id y_cmd_src y_cmd_dst y_cmd_amt y_attr_seq : Int) (y_attr_deps : (List Int)) (hx : x_attr_deps.length ≤ 1099511627776) : Fun T 61 [i64 x_ballot, i64 x_vote, i64 x_state, i64 x_cmd_kind, i64 x_cmd_id, i64 x_cmd_src, i64 x_cmd_dst, i64 x_cmd_amt, i64 x_attr_seq, rL x_attr_deps, i64 y_ballot, i64 y_vote, i64 y_state, i64 y_cmd_kind, i64 y_cmd_id, i64 y_cmd_src, i64 y_cmd_dst, i64 y_cmd_amt, i64 y_attr_seq, rL y_attr_deps] = some [.bool (decide ((⟨x_ballot, x_vote, x_state, ⟨x_cmd_kind, x_cmd_id, x_cmd_src, x_cmd_dst, x_cmd_amt⟩, ⟨x_attr_seq, x_attr_deps⟩⟩ : TRow) = ⟨y_ballot, y_vote, y_state, ⟨y_cmd_kind, y_cmd_id, y_cmd_src, y_cmd_dst, y_cmd_amt⟩, ⟨y_attr_seq, y_attr_deps⟩⟩))] := by
 rw [Fun_k (t := tm61) rfl]; unfold tm61
 have e : decide ((⟨x_ballot, x_vote, x_state, ⟨x_cmd_kind, x_cmd_id, x_cmd_src, x_cmd_dst, x_cmd_amt⟩, ⟨x_attr_seq, x_attr_deps⟩⟩ : TRow) = ⟨y_ballot, y_vote, y_state, ⟨y_cmd_kind, y_cmd_id, y_cmd_src, y_cmd_dst, y_cmd_amt⟩, ⟨y_attr_seq, y_attr_deps⟩⟩) = (x_ballot == y_ballot && (x_vote == y_vote && (x_state == y_state && (decide ((⟨x_cmd_kind, x_cmd_id, x_cmd_src, x_cmd_dst, x_cmd_amt⟩ : TCmd) = ⟨y_cmd_kind, y_cmd_id, y_cmd_src, y_cmd_dst, y_cmd_amt⟩) && decide ((⟨x_attr_seq, x_attr_deps⟩ : TAttr) = ⟨y_attr_seq, y_attr_deps⟩))))) := by
  simp only [TRow.mk.injEq, Bool.beq_eq_decide_eq, Bool.decide_and]
 rw [e]
 cases h1 : x_ballot == y_ballot
 ·simp (disch := first | assumption | omega) only [S0, reduceIte, reduceCtorEq, reduceAdd, reduceEqDiff, Int.reduceBEq, reduceLT, reduceLE, h1]
 cases h2 : x_vote == y_vote
 ·simp (disch := first | assumption | omega) only [S0, reduceIte, reduceCtorEq, reduceAdd, reduceEqDiff, Int.reduceBEq, reduceLT, reduceLE, h1, h2]
 cases h3 : x_state == y_state
 ·simp (disch := first | assumption | omega) only [S0, reduceIte, reduceCtorEq, reduceAdd, reduceEqDiff, Int.reduceBEq, reduceLT, reduceLE, h1, h2, h3]
 cases h4 : decide ((⟨x_cmd_kind, x_cmd_id, x_cmd_src, x_cmd_dst, x_cmd_amt⟩ : TCmd) = ⟨y_cmd_kind, y_cmd_id, y_cmd_src, y_cmd_dst, y_cmd_amt⟩)
 ·simp (disch := first | assumption | omega) only [S0, reduceIte, reduceCtorEq, reduceAdd, reduceEqDiff, Int.reduceBEq, reduceLT, reduceLE, h1, h2, h3, S_eqs, h4]
 ·simp (disch := first | assumption | omega) only [S0, reduceIte, reduceCtorEq, reduceAdd, reduceEqDiff, Int.reduceBEq, reduceLT, reduceLE, h1, h2, h3, S_eqs, h4, same_attr]
theorem same_rows (xs ys : List TRow) (hs : smRows xs) : Fun T 60 [rL xs, rL ys] = some [.bool (decide (xs = ys))] := by
 rw [Fun_k (t := tm60) rfl]; unfold tm60
 obtain ⟨hx, hq⟩ := hs
 by_cases hl : ys.length = xs.length
 ·have e1 : ((xs.length : Int) == ys.length) = true := by simp [hl]
  have hx' : xs.length ≤ 1099511627776 := by omega
  simp (disch := first | assumption | omega) only [S0, reduceIte, reduceCtorEq, reduceAdd, reduceEqDiff, Int.reduceBEq, reduceLT, reduceLE, e1]
  rw [scanF 1 xs.length (fun i => decide (atI xs (i : Int) = atI ys (i : Int))) [.bool false], allB_eq hl.symm]
  ·cases decide (xs = ys) <;> simp (disch := first | assumption | omega) only [S0, reduceIte, reduceCtorEq, reduceAdd, reduceEqDiff, Int.reduceBEq, reduceLT, reduceLE]
  ·intro i hi hlt
   have hb : InB xs (i : Int) := InB_nat.2 hi
   have hb2 : InB ys (i : Int) := InB_nat.2 (by omega)
   have hq1 := hq _ (at_mem hi)
   have hq2 : (atI xs (i : Int)).attr.deps.length ≤ 1099511627776 := by omega
   (refine fork_in ?_; repeat' (refine fork_eq (fun _ => ?_) (fun _ => ?_) <;> try simp (disch := first | assumption | omega) only [S0, reduceIte, reduceCtorEq, reduceAdd, reduceEqDiff, Int.reduceBEq, reduceLT, reduceLE, S_row, hlt, same_row, *]))
  ·intro hlt
   simp (disch := first | assumption | omega) only [S0, reduceIte, reduceCtorEq, reduceAdd, reduceEqDiff, Int.reduceBEq, reduceLT, reduceLE, hlt]
 ·have e1 : ((xs.length : Int) == ys.length) = false := by simp; omega
  rw [eq_len (fun e => hl e.symm)]
  simp (disch := first | assumption | omega) only [S0, reduceIte, reduceCtorEq, reduceAdd, reduceEqDiff, Int.reduceBEq, reduceLT, reduceLE, e1]
theorem same_table (n m : Int) (xs ys : List (List TRow)) (hs : smTab xs) : Fun T 59 [i64 n, rL xs, i64 m, rL ys] = some [.bool (decide ((⟨n, xs⟩ : TTable) = ⟨m, ys⟩))] := by
 rw [Fun_k (t := tm59) rfl]; unfold tm59
 obtain ⟨hx, hq⟩ := hs
 have e : decide ((⟨n, xs⟩ : TTable) = ⟨m, ys⟩) = (n == m && decide (xs = ys)) := by simp [TTable.mk.injEq, Bool.beq_eq_decide_eq]
 rw [e]
 cases hn : n == m
 ·simp (disch := first | assumption | omega) only [S0, reduceIte, reduceCtorEq, reduceAdd, reduceEqDiff, Int.reduceBEq, reduceLT, reduceLE, hn]
 by_cases hl : ys.length = xs.length
 ·have e1 : ((xs.length : Int) == ys.length) = true := by simp [hl]
  simp (disch := first | assumption | omega) only [S0, reduceIte, reduceCtorEq, reduceAdd, reduceEqDiff, Int.reduceBEq, reduceLT, reduceLE, hn, e1]
  rw [scanF 1 xs.length (fun i => decide (atI xs (i : Int) = atI ys (i : Int))) [.bool false], allB_eq hl.symm]
  ·cases decide (xs = ys) <;> simp (disch := first | assumption | omega) only [S0, reduceIte, reduceCtorEq, reduceAdd, reduceEqDiff, Int.reduceBEq, reduceLT, reduceLE]
  ·intro i hi hlt
   have hb : InB xs (i : Int) := InB_nat.2 hi
   have hb2 : InB ys (i : Int) := InB_nat.2 (by omega)
   have hq1 := hq _ (at_mem hi)
   (refine fork_in ?_; repeat' (refine fork_eq (fun _ => ?_) (fun _ => ?_) <;> try simp (disch := first | assumption | omega) only [S0, reduceIte, reduceCtorEq, reduceAdd, reduceEqDiff, Int.reduceBEq, reduceLT, reduceLE, S_row, hlt, same_rows, *]))
  ·intro hlt
   simp (disch := first | assumption | omega) only [S0, reduceIte, reduceCtorEq, reduceAdd, reduceEqDiff, Int.reduceBEq, reduceLT, reduceLE, hlt]
 ·have e1 : ((xs.length : Int) == ys.length) = false := by simp; omega
  rw [eq_len (fun e => hl e.symm)]
  simp (disch := first | assumption | omega) only [S0, reduceIte, reduceCtorEq, reduceAdd, reduceEqDiff, Int.reduceBEq, reduceLT, reduceLE, hn, e1]
theorem same_lists (xs ys : List (List Int)) (hx : xs.length ≤ 10000000000) (hq : ∀ l ∈ xs, l.length ≤ 10000000000) : Fun T 87 [rL xs, rL ys] = some [.bool (decide (xs = ys))] := by
 rw [Fun_k (t := tm87) rfl]; unfold tm87
 by_cases hl : ys.length = xs.length
 ·have e1 : ((xs.length : Int) == ys.length) = true := by simp [hl]
  simp (disch := first | assumption | omega) only [S0, reduceIte, reduceCtorEq, reduceAdd, reduceEqDiff, Int.reduceBEq, reduceLT, reduceLE, e1]
  rw [scanF 1 xs.length (fun i => decide (atI xs (i : Int) = atI ys (i : Int))) [.bool false], allB_eq hl.symm]
  ·cases decide (xs = ys) <;> simp (disch := first | assumption | omega) only [S0, reduceIte, reduceCtorEq, reduceAdd, reduceEqDiff, Int.reduceBEq, reduceLT, reduceLE]
  ·intro i hi hlt
   have hb : InB xs (i : Int) := InB_nat.2 hi
   have hb2 : InB ys (i : Int) := InB_nat.2 (by omega)
   have hq1 := hq _ (at_mem hi)
   have hq2 : (atI xs (i : Int)).length ≤ 1099511627776 := by omega
   (refine fork_in ?_; repeat' (refine fork_eq (fun _ => ?_) (fun _ => ?_) <;> try simp (disch := first | assumption | omega) only [S0, reduceIte, reduceCtorEq, reduceAdd, reduceEqDiff, Int.reduceBEq, reduceLT, reduceLE, S_row, hlt, same_ints, *]))
  ·intro hlt
   simp (disch := first | assumption | omega) only [S0, reduceIte, reduceCtorEq, reduceAdd, reduceEqDiff, Int.reduceBEq, reduceLT, reduceLE, hlt]
 ·have e1 : ((xs.length : Int) == ys.length) = false := by simp; omega
  rw [eq_len (fun e => hl e.symm)]
  simp (disch := first | assumption | omega) only [S0, reduceIte, reduceCtorEq, reduceAdd, reduceEqDiff, Int.reduceBEq, reduceLT, reduceLE, e1]
theorem law (code more : D) (hc : isBytes code) (hm : isBytes more) : Fun T 0 [code, more] = some [.bool true] := by
 rw [Fun_k (t := tm0) rfl]; unfold tm0
 obtain ⟨b, eb⟩ := laws_big code more hc hm
 cases b
 rotate_left
 ·simp (disch := first | assumption | omega) only [S0, reduceIte, reduceCtorEq, reduceAdd, reduceEqDiff, Int.reduceBEq, reduceLT, reduceLE, eb]
 obtain ⟨t, rep, no, r, e1, t1, t2, t3⟩ := drawSetRow code hc
 have sm : smTab t.rows := smTab_drawn t1 t2
 have hd : r.attr.deps.length ≤ 10000000000 := by omega
 have hd' : r.attr.deps.length ≤ 1099511627776 := by omega
 have i1 := impl_SetRow t.n t.rows rep no r.ballot r.vote r.state r.cmd.kind r.cmd.id r.cmd.src r.cmd.dst r.cmd.amt r.attr.seq r.attr.deps sm hd
 have i2 := spec_SetRow t.n t.rows rep no r.ballot r.vote r.state r.cmd.kind r.cmd.id r.cmd.src r.cmd.dst r.cmd.amt r.attr.seq r.attr.deps sm hd
 have etup : ∀ x : TTable, (⟨x.n, x.rows⟩ : TTable) = x := fun _ => rfl
 have erow : (⟨r.ballot, r.vote, r.state, ⟨r.cmd.kind, r.cmd.id, r.cmd.src, r.cmd.dst, r.cmd.amt⟩, ⟨r.attr.seq, r.attr.deps⟩⟩ : TRow) = r := rfl
 simp only [etup, erow] at i1 i2
 obtain ⟨u, k2, j2, me, f1, u1, u2⟩ := drawNextBallot more hm
 have sm2 : smTab u.rows := smTab_drawn u1 u2
 obtain ⟨v, k3, j3, f2, v1, v2⟩ := drawRowAt more hm
 have sm3 : smTab v.rows := smTab_drawn v1 v2
 obtain ⟨w, f3, w1, w2⟩ := drawCommitted more hm
 have sm4 : smTab w.rows := smTab_drawn w1 w2
 obtain ⟨nn, f4⟩ := drawNewTable more hm
 have nb1 := impl_NextBallot u.n u.rows k2 j2 me sm2
 have nb2 := spec_NextBallot u.n u.rows k2 j2 me sm2
 have ra1 := impl_RowAt v.n v.rows k3 j3 sm3
 have ra2 := spec_RowAt v.n v.rows k3 j3 sm3
 have rb1 := impl_RowAt u.n u.rows k2 j2 sm2
 have co1 := impl_Committed w.n w.rows sm4
 have co2 := spec_Committed w.n w.rows sm4
 have g1 := impl_GoodTable t.n t.rows sm
 have g2 := spec_GoodTable t.n t.rows sm
 simp only [etup] at nb1 nb2 ra1 ra2 rb1 co1 co2 g1 g2
 have la1 := rowAtR_len v k3 j3
 have la2 := rowAtR_len u k2 j2
 have la1' : (rowAtR v k3 j3).1.attr.deps.length ≤ 1099511627776 := by omega
 obtain ⟨lc1, lc2⟩ := comR_len w
 have lc1' : (comR w).1.length ≤ 10000000000 := by omega
 have lc2' : ∀ l ∈ (comR w).1, l.length ≤ 10000000000 := fun l hl => by have := lc2 l hl; omega
 have smn : smTab (newR nn).1.rows := by
  unfold newR
  split
  ·rename_i hg; exact smTab_new nn hg
  ·exact ⟨by simp, by simp⟩
 -- what stands behind the first part
 have rest : ∀ (x : Option (Kind × List D)), x = some (.ret, [.bool true]) → fin x = some [.bool true] := fun x hx => by rw [hx]; rfl
 have smS : smTab (tsetR t rep no r).1.rows := by
  unfold tsetR
  split
  ·rename_i h
   simp only [Bool.and_eq_true] at h
   exact smTab_ok (tset_ok h.1.1 h.1.2 h.2)
  ·exact ⟨by simp, by simp⟩
 have hnb : (nbR u k2 j2 me).2 = true → (rowAtR u k2 j2).2 = true ∧ (rowAtR u k2 j2).1.ballot < (nbR u k2 j2 me).1 ∧ (nbR u k2 j2 me).1 % 8 = me ∧ 8 ≤ (nbR u k2 j2 me).1 := by
  unfold nbR rowAtR
  intro hk
  split at hk
  ·rename_i h
   simp only [Bool.and_eq_true] at h
   obtain ⟨⟨⟨h1, h2⟩, h3⟩, h4⟩ := h
   have hg := isGrp_rng (tabOk_grp h1)
   have h5 := inR_rng h3
   have h6 := rowOk_ballot (trow_ok h1 h2)
   have h7 := nb_props h6.1 h5.1 (by omega)
   simp only [h1, h2, h3, h4, Bool.and_self, if_true]
   exact ⟨trivial, h7⟩
  ·cases hk
 have part : ∀ hk : (nbR u k2 j2 me).2 = (nbR u k2 j2 me).2, True := fun _ => trivial
 by_cases hok : tabOk t = true ∧ inst t.n rep no = true ∧ rowOk t.n r = true
 ·obtain ⟨hT, hI, hR⟩ := hok
  have eset : tsetR t rep no r = (tset t rep no r, true) := by unfold tsetR; rw [hT, hI, hR]; rfl
  have hS := tset_ok hT hI hR
  rw [eset] at i1 i2 smS
  simp only at i1 i2 smS
  have hgs := impl_GoodTable (tset t rep no r).n (tset t rep no r).rows smS
  simp only [etup, hS] at hgs
  have hn5 := isGrp_rng (tabOk_grp hT)
  have gb := tabOk_grp hT
  have one : ∀ (k i : Nat), (k : Int) < t.n → i < 6 → Fun T 64 [i64 t.n, rL t.rows, i64 k, i64 ((i : Int) + 1)] = some [i64 (trow t (k : Int) ((i : Int) + 1)).ballot, i64 (trow t (k : Int) ((i : Int) + 1)).vote, i64 (trow t (k : Int) ((i : Int) + 1)).state, i64 (trow t (k : Int) ((i : Int) + 1)).cmd.kind, i64 (trow t (k : Int) ((i : Int) + 1)).cmd.id, i64 (trow t (k : Int) ((i : Int) + 1)).cmd.src, i64 (trow t (k : Int) ((i : Int) + 1)).cmd.dst, i64 (trow t (k : Int) ((i : Int) + 1)).cmd.amt, i64 (trow t (k : Int) ((i : Int) + 1)).attr.seq, rL (trow t (k : Int) ((i : Int) + 1)).attr.deps, .bool true] ∧ (trow t (k : Int) ((i : Int) + 1)).attr.deps.length ≤ 1099511627776 := by
   intro k i hk hi
   have hin : inst t.n (k : Int) ((i : Int) + 1) = true := by simp [inst, inR]; omega
   have hx := impl_RowAt t.n t.rows k ((i : Int) + 1) sm
   have er : rowAtR ⟨t.n, t.rows⟩ (k : Int) ((i : Int) + 1) = (trow t (k : Int) ((i : Int) + 1), true) := by show rowAtR t _ _ = _; unfold rowAtR; rw [hT, hin]; rfl
   rw [er] at hx
   exact ⟨hx, by have := trow_deps hT hin; omega⟩
  have two : ∀ (k i : Nat), (k : Int) < t.n → i < 6 → Fun T 64 [i64 (tset t rep no r).n, rL (tset t rep no r).rows, i64 k, i64 ((i : Int) + 1)] = some [i64 (trow (tset t rep no r) (k : Int) ((i : Int) + 1)).ballot, i64 (trow (tset t rep no r) (k : Int) ((i : Int) + 1)).vote, i64 (trow (tset t rep no r) (k : Int) ((i : Int) + 1)).state, i64 (trow (tset t rep no r) (k : Int) ((i : Int) + 1)).cmd.kind, i64 (trow (tset t rep no r) (k : Int) ((i : Int) + 1)).cmd.id, i64 (trow (tset t rep no r) (k : Int) ((i : Int) + 1)).cmd.src, i64 (trow (tset t rep no r) (k : Int) ((i : Int) + 1)).cmd.dst, i64 (trow (tset t rep no r) (k : Int) ((i : Int) + 1)).cmd.amt, i64 (trow (tset t rep no r) (k : Int) ((i : Int) + 1)).attr.seq, rL (trow (tset t rep no r) (k : Int) ((i : Int) + 1)).attr.deps, .bool true] ∧ (trow (tset t rep no r) (k : Int) ((i : Int) + 1)).attr.deps.length ≤ 1099511627776 ∧
    trow (tset t rep no r) (k : Int) ((i : Int) + 1) = if (k : Int) = rep ∧ (i : Int) + 1 = no then r else trow t (k : Int) ((i : Int) + 1) := by
   intro k i hk hi
   have hin : inst t.n (k : Int) ((i : Int) + 1) = true := by simp [inst, inR]; omega
   have hin2 : inst (tset t rep no r).n (k : Int) ((i : Int) + 1) = true := hin
   have hx := impl_RowAt (tset t rep no r).n (tset t rep no r).rows k ((i : Int) + 1) smS
   have er : rowAtR ⟨(tset t rep no r).n, (tset t rep no r).rows⟩ (k : Int) ((i : Int) + 1) = (trow (tset t rep no r) (k : Int) ((i : Int) + 1), true) := by show rowAtR (tset t rep no r) _ _ = _; unfold rowAtR; rw [hS, hin2]; rfl
   rw [er] at hx
   exact ⟨hx, by have := trow_deps hS hin2; have h5 : (tset t rep no r).n = t.n := rfl; omega, trow_tset hT hI hin⟩
  generalize hs' : tset t rep no r = s at i1 i2 smS hS hgs two
  simp (disch := first | assumption | omega) only [S0, reduceIte, reduceCtorEq, reduceAdd, reduceEqDiff, Int.reduceBEq, reduceLT, reduceLE, eb, e1, i1, i2, g1, g2, same_table]
  rw [whileE (.yield 1, []) (fun i : Nat => (t.n - i).toNat) (fun i : Nat => (i : Int) ≤ t.n) (fun i => [i64 i]) 0 rfl (by show ((0 : Nat) : Int) ≤ t.n; omega) (by simp)]
  rotate_left
  ·intro k hk
   by_cases hlt : (k : Int) < t.n
   ·have d : decide ((k : Int) < t.n) = true := by simpa using hlt
    refine .inl ⟨k + 1, ?_, by omega, by omega⟩
    simp (disch := first | assumption | omega) only [S0, reduceIte, reduceCtorEq, reduceAdd, reduceEqDiff, Int.reduceBEq, reduceLT, reduceLE, d]
    rw [whileE (.yield 3, []) (fun i : Nat => 6 - i) (fun i : Nat => i ≤ 6) (fun i => [i64 ((i : Int) + 1)]) 0 rfl (by simp) (by simp)]
    ·simp (disch := first | assumption | omega) only [S0, reduceIte, reduceCtorEq, reduceAdd, reduceEqDiff, Int.reduceBEq, reduceLT, reduceLE]
    ·intro i hi
     by_cases hi6 : i < 6
     ·have d2 : decide ((i : Int) + 1 ≤ 6) = true := by simp; omega
      obtain ⟨o1, o2⟩ := one k i hlt hi6
      obtain ⟨w3, w4, w5⟩ := two k i hlt hi6
      refine .inl ⟨i + 1, ?_, by omega, by omega⟩
      by_cases hkr : (k : Int) = rep
      ·by_cases hir : (i : Int) + 1 = no
       ·rw [if_pos ⟨hkr, hir⟩] at w5
        have q1 : ((k : Int) == rep) = true := by simpa using hkr
        have q2 : ((i : Int) + 1 == no) = true := by simpa using hir
        rw [w5] at w3
        simp (disch := first | assumption | omega) only [S0, reduceIte, reduceCtorEq, reduceAdd, reduceEqDiff, Int.reduceBEq, reduceLT, reduceLE, d2, o1, w3, q1, q2, same_row]
       ·rw [if_neg (fun hc => hir hc.2)] at w5
        have q1 : ((k : Int) == rep) = true := by simpa using hkr
        have q2 : ((i : Int) + 1 == no) = false := by simpa using hir
        rw [w5] at w3
        simp (disch := first | assumption | omega) only [S0, reduceIte, reduceCtorEq, reduceAdd, reduceEqDiff, Int.reduceBEq, reduceLT, reduceLE, d2, o1, w3, q1, q2, same_row]
      ·rw [if_neg (fun hc => hkr hc.1)] at w5
       have q1 : ((k : Int) == rep) = false := by simpa using hkr
       rw [w5] at w3
       simp (disch := first | assumption | omega) only [S0, reduceIte, reduceCtorEq, reduceAdd, reduceEqDiff, Int.reduceBEq, reduceLT, reduceLE, d2, o1, w3, q1, same_row]
     ·have d2 : decide ((i : Int) + 1 ≤ 6) = false := by simp; omega
      right
      simp (disch := first | assumption | omega) only [S0, reduceIte, reduceCtorEq, reduceAdd, reduceEqDiff, Int.reduceBEq, reduceLT, reduceLE, d2]
   ·have d : decide ((k : Int) < t.n) = false := by simpa using hlt
    right
    simp (disch := first | assumption | omega) only [S0, reduceIte, reduceCtorEq, reduceAdd, reduceEqDiff, Int.reduceBEq, reduceLT, reduceLE, d]
  simp (disch := first | assumption | omega) only [S0, reduceIte, reduceCtorEq, reduceAdd, reduceEqDiff, Int.reduceBEq, reduceLT, reduceLE, hgs, f1, nb1, nb2]
  cases hk : (nbR u k2 j2 me).2
  ·simp (disch := first | assumption | omega) only [S0, reduceIte, reduceCtorEq, reduceAdd, reduceEqDiff, Int.reduceBEq, reduceLT, reduceLE, hk, f2, f3, f4, ra1, ra2, co1, co2, impl_NewTable, spec_NewTable, same_row, same_lists, same_table]
  ·obtain ⟨n1, n2, n3, n4⟩ := hnb hk
   have d1 : decide ((nbR u k2 j2 me).1 ≤ (rowAtR u k2 j2).1.ballot) = false := by simp; omega
   have d3 : decide ((nbR u k2 j2 me).1 < 8) = false := by simp; omega
   have d2 := run_rem' (a := (nbR u k2 j2 me).1) (b := 8) (by omega) (by omega)
   rw [n3] at d2
   simp (disch := first | assumption | omega) only [S0, reduceIte, reduceCtorEq, reduceAdd, reduceEqDiff, Int.reduceBEq, reduceLT, reduceLE, hk, rb1, n1, d1, d2, d3, f2, f3, f4, ra1, ra2, co1, co2, impl_NewTable, spec_NewTable, same_row, same_lists, same_table]
 ·have eset : (tsetR t rep no r).2 = false := by
   unfold tsetR
   split
   ·rename_i h
    simp only [Bool.and_eq_true] at h
    exact absurd ⟨h.1.1, h.1.2, h.2⟩ hok
   ·rfl
  simp (disch := first | assumption | omega) only [S0, reduceIte, reduceCtorEq, reduceAdd, reduceEqDiff, Int.reduceBEq, reduceLT, reduceLE, eb, e1, i1, i2, g1, g2, same_table, eset, f1, nb1, nb2]
  cases hk : (nbR u k2 j2 me).2
  ·simp (disch := first | assumption | omega) only [S0, reduceIte, reduceCtorEq, reduceAdd, reduceEqDiff, Int.reduceBEq, reduceLT, reduceLE, hk, f2, f3, f4, ra1, ra2, co1, co2, impl_NewTable, spec_NewTable, same_row, same_lists, same_table]
  ·obtain ⟨n1, n2, n3, n4⟩ := hnb hk
   have d1 : decide ((nbR u k2 j2 me).1 ≤ (rowAtR u k2 j2).1.ballot) = false := by simp; omega
   have d3 : decide ((nbR u k2 j2 me).1 < 8) = false := by simp; omega
   have d2 := run_rem' (a := (nbR u k2 j2 me).1) (b := 8) (by omega) (by omega)
   rw [n3] at d2
   simp (disch := first | assumption | omega) only [S0, reduceIte, reduceCtorEq, reduceAdd, reduceEqDiff, Int.reduceBEq, reduceLT, reduceLE, hk, rb1, n1, d1, d2, d3, f2, f3, f4, ra1, ra2, co1, co2, impl_NewTable, spec_NewTable, same_row, same_lists, same_table]
theorem hpure : ∀ ds, WTs [.sl 1 [.int .u8], .sl 1 [.int .u8]] ds → ∃ n, callN T n 0 ds = some [.bool true] := by
 intro ds h
 simp only [WTs] at h
 obtain ⟨d0, r0, rfl, w0, d1, r1, rfl, w1, rfl⟩ := h
 exact pure_of (law d0 d1 w0 w1)
end FnTables
end Go.Proofs.Ytjoebpmeeampfaa
