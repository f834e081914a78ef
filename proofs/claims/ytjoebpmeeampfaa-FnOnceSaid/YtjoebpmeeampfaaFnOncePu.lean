/- What the terms of FnOnce come to. -/
import Derived.Test.YtjoebpmeeampfaaFnOnceTab
namespace Go.Proofs.Ytjoebpmeeampfaa
namespace FnOnce
open Go Go.Proofs.Ytjoebpmeeampfaa.Rf
open Nat (reduceAdd reduceEqDiff)
open Int (reduceLT reduceLE)
set_option linter.unusedSimpArgs false
set_option linter.unusedVariables false
set_option linter.unnecessarySimpa false
set_option maxHeartbeats 4000000
set_option maxRecDepth 10000
theorem impl_within (x lo up : Int) : Fun T 14 [i64 x, i64 lo, i64 up] = some [.bool (inR x lo up)] := by
 rw [Fun_k (t := tm14) rfl]; unfold tm14; unfold inR
 (refine fork_in ?_; repeat' (refine fork_eq (fun _ => ?_) (fun _ => ?_) <;> try simp (disch := first | assumption | omega) only [S0, reduceIte, reduceCtorEq, reduceAdd, reduceEqDiff, Int.reduceBEq, reduceLT, reduceLE, *]))
theorem spec_l1In (x lo up : Int) : Fun T 27 [i64 x, i64 lo, i64 up] = some [.bool (inR x lo up)] := by
 rw [Fun_k (t := tm27) rfl]; unfold tm27; unfold inR
 (refine fork_in ?_; repeat' (refine fork_eq (fun _ => ?_) (fun _ => ?_) <;> try simp (disch := first | assumption | omega) only [S0, reduceIte, reduceCtorEq, reduceAdd, reduceEqDiff, Int.reduceBEq, reduceLT, reduceLE, *]))
theorem impl_isAccount (n : Int) : Fun T 16 [i64 n] = some [.bool (inR n 0 3)] := by
 rw [Fun_k (t := tm16) rfl]; unfold tm16
 (refine fork_in ?_; repeat' (refine fork_eq (fun _ => ?_) (fun _ => ?_) <;> try simp (disch := first | assumption | omega) only [S0, reduceIte, reduceCtorEq, reduceAdd, reduceEqDiff, Int.reduceBEq, reduceLT, reduceLE, impl_within, *]))
theorem spec_l2Account (n : Int) : Fun T 30 [i64 n] = some [.bool (inR n 0 3)] := by
 rw [Fun_k (t := tm30) rfl]; unfold tm30
 (refine fork_in ?_; repeat' (refine fork_eq (fun _ => ?_) (fun _ => ?_) <;> try simp (disch := first | assumption | omega) only [S0, reduceIte, reduceCtorEq, reduceAdd, reduceEqDiff, Int.reduceBEq, reduceLT, reduceLE, spec_l1In, *]))
theorem spec_l2Code (k i f t a : Int) : Fun T 29 [i64 k, i64 i, i64 f, i64 t, i64 a] = some [i64 (cmdCode ⟨k, i, f, t, a⟩)] := by
 rw [Fun_k (t := tm29) rfl]; unfold tm29; unfold cmdCode
 (refine fork_in ?_; repeat' (refine fork_eq (fun _ => ?_) (fun _ => ?_) <;> try simp (disch := first | assumption | omega) only [S0, reduceIte, reduceCtorEq, reduceAdd, reduceEqDiff, Int.reduceBEq, reduceLT, reduceLE, spec_l2Account, spec_l1In, *]))
theorem spec_GoodCmd (k i f t a : Int) : Fun T 28 [i64 k, i64 i, i64 f, i64 t, i64 a] = some [.bool (cmdOk ⟨k, i, f, t, a⟩)] := by
 rw [Fun_k (t := tm28) rfl]; unfold tm28; unfold cmdOk
 (refine fork_in ?_; repeat' (refine fork_eq (fun _ => ?_) (fun _ => ?_) <;> try simp (disch := first | assumption | omega) only [S0, reduceIte, reduceCtorEq, reduceAdd, reduceEqDiff, Int.reduceBEq, reduceLT, reduceLE, spec_l2Code, S_eqs, cmdCode0, *]))
 all_goals (refine bool_fin ?_; simp only [Bool.and_eq_true, Bool.or_eq_true, Bool.not_eq_true', Bool.not_eq_false', Bool.and_eq_false_iff, Bool.or_eq_false_iff, Bool.false_eq_true, beq_iff_eq, beq_eq_false_iff_ne, decide_eq_true_eq, decide_eq_false_iff_not, ne_eq] at *; grind)
theorem impl_GoodCmd (k i f t a : Int) : Fun T 15 [i64 k, i64 i, i64 f, i64 t, i64 a] = some [.bool (cmdOk ⟨k, i, f, t, a⟩)] := by
 rw [Fun_k (t := tm15) rfl]; unfold tm15; unfold cmdOk
 (refine fork_in ?_; repeat' (refine fork_eq (fun _ => ?_) (fun _ => ?_) <;> try simp (disch := first | assumption | omega) only [S0, reduceIte, reduceCtorEq, reduceAdd, reduceEqDiff, Int.reduceBEq, reduceLT, reduceLE, impl_within, impl_isAccount, S_eqs, *]))
theorem spec_l1All (xs : List Int) (lo up : Int) (hx : xs.length ≤ 1099511627776) : Fun T 69 [rL xs, i64 lo, i64 up] = some [.bool (xs.all fun x => inR x lo up)] := by
 rw [Fun_k (t := tm69) rfl]; unfold tm69
 simp (disch := first | assumption | omega) only [S0, reduceIte, reduceCtorEq, reduceAdd, reduceEqDiff, Int.reduceBEq, reduceLT, reduceLE, S_row, *]
 rw [allX 1 xs (fun x => inR x lo up) [.bool false]]
 ·(refine fork_in ?_; repeat' (refine fork_eq (fun _ => ?_) (fun _ => ?_) <;> try simp (disch := first | assumption | omega) only [S0, reduceIte, reduceCtorEq, reduceAdd, reduceEqDiff, Int.reduceBEq, reduceLT, reduceLE, *]))
 ·intro i hi hb hl hp
  (refine fork_in ?_; repeat' (refine fork_eq (fun _ => ?_) (fun _ => ?_) <;> try simp (disch := first | assumption | omega) only [S0, reduceIte, reduceCtorEq, reduceAdd, reduceEqDiff, Int.reduceBEq, reduceLT, reduceLE, S_row, spec_l1In, *]))
 ·intro i hi hb hl hp
  (refine fork_in ?_; repeat' (refine fork_eq (fun _ => ?_) (fun _ => ?_) <;> try simp (disch := first | assumption | omega) only [S0, reduceIte, reduceCtorEq, reduceAdd, reduceEqDiff, Int.reduceBEq, reduceLT, reduceLE, S_row, spec_l1In, *]))
 ·intro hl
  (refine fork_in ?_; repeat' (refine fork_eq (fun _ => ?_) (fun _ => ?_) <;> try simp (disch := first | assumption | omega) only [S0, reduceIte, reduceCtorEq, reduceAdd, reduceEqDiff, Int.reduceBEq, reduceLT, reduceLE, *]))
theorem spec_l1Same (xs ys : List Int) (hx : xs.length ≤ 1099511627776) : Fun T 73 [rL xs, rL ys] = some [.bool (decide (xs = ys))] := by
 rw [Fun_k (t := tm73) rfl]; unfold tm73
 by_cases hl : ys.length = xs.length
 ·simp (disch := first | assumption | omega) only [S0, reduceIte, reduceCtorEq, reduceAdd, reduceEqDiff, Int.reduceBEq, reduceLT, reduceLE, *]
  rw [scanX 1 xs.length (fun i => decide (atI xs i = atI ys i)) [.bool false], allB_eq hl.symm]
  ·(refine fork_in ?_; repeat' (refine fork_eq (fun _ => ?_) (fun _ => ?_) <;> try simp (disch := first | assumption | omega) only [S0, reduceIte, reduceCtorEq, reduceAdd, reduceEqDiff, Int.reduceBEq, reduceLT, reduceLE, *]))
  ·intro i hi hp
   have hb : InB xs (i : Int) := InB_nat.2 hi
   have hb' : InB ys (i : Int) := InB_nat.2 (by omega)
   have h2 : decide ((i : Int) < xs.length) = true := by simp; omega
   have h3 : (atI xs i == atI ys i) = true := by simpa using hp
   (refine fork_in ?_; repeat' (refine fork_eq (fun _ => ?_) (fun _ => ?_) <;> try simp (disch := first | assumption | omega) only [S0, reduceIte, reduceCtorEq, reduceAdd, reduceEqDiff, Int.reduceBEq, reduceLT, reduceLE, S_row, *]))
  ·intro i hi hp
   have hb : InB xs (i : Int) := InB_nat.2 hi
   have hb' : InB ys (i : Int) := InB_nat.2 (by omega)
   have h2 : decide ((i : Int) < xs.length) = true := by simp; omega
   have h3 : (atI xs i == atI ys i) = false := by simpa using hp
   (refine fork_in ?_; repeat' (refine fork_eq (fun _ => ?_) (fun _ => ?_) <;> try simp (disch := first | assumption | omega) only [S0, reduceIte, reduceCtorEq, reduceAdd, reduceEqDiff, Int.reduceBEq, reduceLT, reduceLE, S_row, *]))
  ·have h2 : decide ((xs.length : Int) < xs.length) = false := by simp
   (refine fork_in ?_; repeat' (refine fork_eq (fun _ => ?_) (fun _ => ?_) <;> try simp (disch := first | assumption | omega) only [S0, reduceIte, reduceCtorEq, reduceAdd, reduceEqDiff, Int.reduceBEq, reduceLT, reduceLE, *]))
 ·have hl' : ((xs.length : Int) == (ys.length : Int)) = false := by simp; omega
  have e := eq_len (fun h => hl h.symm)
  (refine fork_in ?_; repeat' (refine fork_eq (fun _ => ?_) (fun _ => ?_) <;> try simp (disch := first | assumption | omega) only [S0, reduceIte, reduceCtorEq, reduceAdd, reduceEqDiff, Int.reduceBEq, reduceLT, reduceLE, *]))
theorem slices_Equal_int (xs ys : List Int) (hx : xs.length ≤ 1099511627776) : Fun T 44 [rL xs, rL ys] = some [.bool (decide (xs = ys))] := by
 rw [Fun_k (t := tm44) rfl]; unfold tm44
 by_cases hl : ys.length = xs.length
 ·simp (disch := first | assumption | omega) only [S0, reduceIte, reduceCtorEq, reduceAdd, reduceEqDiff, Int.reduceBEq, reduceLT, reduceLE, *]
  rw [scanX 1 xs.length (fun i => decide (atI xs i = atI ys i)) [.bool false], allB_eq hl.symm]
  ·(refine fork_in ?_; repeat' (refine fork_eq (fun _ => ?_) (fun _ => ?_) <;> try simp (disch := first | assumption | omega) only [S0, reduceIte, reduceCtorEq, reduceAdd, reduceEqDiff, Int.reduceBEq, reduceLT, reduceLE, *]))
  ·intro i hi hp
   have hb : InB xs (i : Int) := InB_nat.2 hi
   have hb' : InB ys (i : Int) := InB_nat.2 (by omega)
   have h2 : decide ((i : Int) < xs.length) = true := by simp; omega
   have h3 : (atI xs i == atI ys i) = true := by simpa using hp
   (refine fork_in ?_; repeat' (refine fork_eq (fun _ => ?_) (fun _ => ?_) <;> try simp (disch := first | assumption | omega) only [S0, reduceIte, reduceCtorEq, reduceAdd, reduceEqDiff, Int.reduceBEq, reduceLT, reduceLE, S_row, *]))
  ·intro i hi hp
   have hb : InB xs (i : Int) := InB_nat.2 hi
   have hb' : InB ys (i : Int) := InB_nat.2 (by omega)
   have h2 : decide ((i : Int) < xs.length) = true := by simp; omega
   have h3 : (atI xs i == atI ys i) = false := by simpa using hp
   (refine fork_in ?_; repeat' (refine fork_eq (fun _ => ?_) (fun _ => ?_) <;> try simp (disch := first | assumption | omega) only [S0, reduceIte, reduceCtorEq, reduceAdd, reduceEqDiff, Int.reduceBEq, reduceLT, reduceLE, S_row, *]))
  ·have h2 : decide ((xs.length : Int) < xs.length) = false := by simp
   (refine fork_in ?_; repeat' (refine fork_eq (fun _ => ?_) (fun _ => ?_) <;> try simp (disch := first | assumption | omega) only [S0, reduceIte, reduceCtorEq, reduceAdd, reduceEqDiff, Int.reduceBEq, reduceLT, reduceLE, *]))
 ·have hl' : ((xs.length : Int) == (ys.length : Int)) = false := by simp; omega
  have e := eq_len (fun h => hl h.symm)
  (refine fork_in ?_; repeat' (refine fork_eq (fun _ => ?_) (fun _ => ?_) <;> try simp (disch := first | assumption | omega) only [S0, reduceIte, reduceCtorEq, reduceAdd, reduceEqDiff, Int.reduceBEq, reduceLT, reduceLE, *]))
theorem slices_Clone_int (xs : List Int) (hx : xs.length ≤ 10000000000) : Fun T 61 [rL xs] = some [rL xs] := by
 rw [Fun_ext (e := ex61) rfl]
 cases xs with
 | nil => rfl
 | cons x xs =>
  show Fun (entTab [(61, .tm tm61)]) 61 [rL (x :: xs)] = _
  rw [Fun_k (t := tm61) rfl]
  unfold tm61
  have hx' : (x :: xs).length ≤ 100000000000 := by omega
  have h0 : (Prim.mk 1 0).run [] = some [.rows 1 []] := rfl
  have h1 : (x :: xs).isEmpty = false := rfl
  simp (disch := first | assumption | omega) only [SA, SB, SC, SP, SQ, SZ, reduceIte, reduceCtorEq, Nat.reduceAdd, Nat.reduceEqDiff, rL_ne, rL_emp, h0, h1, S_app]
theorem spec_l1Own (xs : List Int) (hx : xs.length ≤ 10000000000) : Fun T 36 [rL xs] = some [rL xs] := by
 rw [Fun_k (t := tm36) rfl]; unfold tm36
 have h0 : (Prim.mk 1 0).run [] = some [.rows 1 []] := rfl
 (refine fork_in ?_; repeat' (refine fork_eq (fun _ => ?_) (fun _ => ?_) <;> try simp (disch := first | assumption | omega) only [S0, reduceIte, reduceCtorEq, reduceAdd, reduceEqDiff, Int.reduceBEq, reduceLT, reduceLE, h0, S_app, *]))
theorem spec_l15Told (x y : Int) : Fun T 70 [i64 x, i64 y] = some [.bool (toldOk ⟨x, y⟩)] := by
 rw [Fun_k (t := tm70) rfl]; unfold tm70; unfold toldOk
 (refine fork_in ?_; repeat' (refine fork_eq (fun _ => ?_) (fun _ => ?_) <;> try simp (disch := first | assumption | omega) only [S0, reduceIte, reduceCtorEq, reduceAdd, reduceEqDiff, Int.reduceBEq, reduceLT, reduceLE, spec_l1In, *]))
theorem impl_goodTold (x y : Int) : Fun T 52 [i64 x, i64 y] = some [.bool (toldOk ⟨x, y⟩)] := by
 rw [Fun_k (t := tm52) rfl]; unfold tm52; unfold toldOk
 (refine fork_in ?_; repeat' (refine fork_eq (fun _ => ?_) (fun _ => ?_) <;> try simp (disch := first | assumption | omega) only [S0, reduceIte, reduceCtorEq, reduceAdd, reduceEqDiff, Int.reduceBEq, reduceLT, reduceLE, impl_within, *]))
theorem spec_GoodSums (xs : List Int) (hx : xs.length ≤ 1099511627776) : Fun T 68 [rL xs] = some [.bool (sumsOk xs)] := by
 rw [Fun_k (t := tm68) rfl]; unfold tm68; unfold sumsOk isum
 simp (disch := first | assumption | omega) only [S0, reduceIte, reduceCtorEq, reduceAdd, reduceEqDiff, Int.reduceBEq, reduceLT, reduceLE, *]
 rw [foldAll 1 xs (fun x => inR x 0 400) (fun i (s : Int) => [i64 s, i64 i]) 0 (fun s x => s + x) [.bool false] (fun i s => 0 ≤ s ∧ s ≤ 400 * (i : Int)) (fun s => [i64 s]) rfl (by omega)]
 ·(refine fork_in ?_; repeat' (refine fork_eq (fun _ => ?_) (fun _ => ?_) <;> try simp (disch := first | assumption | omega) only [S0, reduceIte, reduceCtorEq, reduceAdd, reduceEqDiff, Int.reduceBEq, reduceLT, reduceLE, *]))
 ·intro i s hi hb hl hv
  refine ⟨?_, fun hp => by have := inR_rng hp; omega⟩
  cases hp : inR (atI xs (i : Int)) 0 400
  ·(refine fork_in ?_; repeat' (refine fork_eq (fun _ => ?_) (fun _ => ?_) <;> try simp (disch := first | assumption | omega) only [S0, reduceIte, reduceCtorEq, reduceAdd, reduceEqDiff, Int.reduceBEq, reduceLT, reduceLE, S_row, spec_l1In, *]))
  ·have := inR_rng hp
   (refine fork_in ?_; repeat' (refine fork_eq (fun _ => ?_) (fun _ => ?_) <;> try simp (disch := first | assumption | omega) only [S0, reduceIte, reduceCtorEq, reduceAdd, reduceEqDiff, Int.reduceBEq, reduceLT, reduceLE, S_row, spec_l1In, *]))
 ·intro s hl hv
  (refine fork_in ?_; repeat' (refine fork_eq (fun _ => ?_) (fun _ => ?_) <;> try simp (disch := first | assumption | omega) only [S0, reduceIte, reduceCtorEq, reduceAdd, reduceEqDiff, Int.reduceBEq, reduceLT, reduceLE, *]))
theorem impl_GoodSums_1 (x : Int) : Fun T 50 [i64 x] = some [.bool (!inR x 0 400)] := by
 rw [Fun_k (t := tm50) rfl]; unfold tm50
 (refine fork_in ?_; repeat' (refine fork_eq (fun _ => ?_) (fun _ => ?_) <;> try simp (disch := first | assumption | omega) only [S0, reduceIte, reduceCtorEq, reduceAdd, reduceEqDiff, Int.reduceBEq, reduceLT, reduceLE, impl_within, *]))
theorem ix_GoodSums_1  (xs : List Int) (hx : xs.length ≤ 1099511627776) : Fun T 49 [rL xs] = some [i64 (ixF (fun x => !inR x 0 400) xs)] := by
 rw [Fun_k (t := tm49) rfl]; unfold tm49
 simp (disch := first | assumption | omega) only [S0, reduceIte, reduceCtorEq, reduceAdd, reduceEqDiff, Int.reduceBEq, reduceLT, reduceLE, S_row, *]
 rw [findX 1 xs (fun x => !inR x 0 400) (fun i => [i64 i])]
 ·cases h : xs.any (fun x => !inR x 0 400)
  ·have e : ixF (fun x => !inR x 0 400) xs = -1 := by
    have h2 := ixF_any (fun x => !inR x 0 400) xs
    rw [h] at h2
    unfold ixF at h2 ⊢
    split at h2 <;> simp_all
   rw [e]; simp (disch := first | assumption | omega) only [S0, reduceIte, reduceCtorEq, reduceAdd, reduceEqDiff, Int.reduceBEq, reduceLT, reduceLE]
  ·simp (disch := first | assumption | omega) only [S0, reduceIte, reduceCtorEq, reduceAdd, reduceEqDiff, Int.reduceBEq, reduceLT, reduceLE]
 ·intro i hi hb hl hp
  (refine fork_in ?_; repeat' (refine fork_eq (fun _ => ?_) (fun _ => ?_) <;> try simp (disch := first | assumption | omega) only [S0, reduceIte, reduceCtorEq, reduceAdd, reduceEqDiff, Int.reduceBEq, reduceLT, reduceLE, S_row, impl_GoodSums_1, *]))
 ·intro i hi hb hl hp
  (refine fork_in ?_; repeat' (refine fork_eq (fun _ => ?_) (fun _ => ?_) <;> try simp (disch := first | assumption | omega) only [S0, reduceIte, reduceCtorEq, reduceAdd, reduceEqDiff, Int.reduceBEq, reduceLT, reduceLE, S_row, impl_GoodSums_1, *]))
 ·intro hl
  (refine fork_in ?_; repeat' (refine fork_eq (fun _ => ?_) (fun _ => ?_) <;> try simp (disch := first | assumption | omega) only [S0, reduceIte, reduceCtorEq, reduceAdd, reduceEqDiff, Int.reduceBEq, reduceLT, reduceLE, *]))
theorem ct_GoodSums_1  (xs : List Int) (hx : xs.length ≤ 1099511627776) : Fun T 48 [rL xs] = some [.bool (xs.any (fun x => !inR x 0 400))] := by
 rw [Fun_k (t := tm48) rfl]; unfold tm48
 (refine fork_in ?_; repeat' (refine fork_eq (fun _ => ?_) (fun _ => ?_) <;> try simp (disch := first | assumption | omega) only [S0, reduceIte, reduceCtorEq, reduceAdd, reduceEqDiff, Int.reduceBEq, reduceLT, reduceLE, ix_GoodSums_1, ixF_any, *]))
theorem impl_total (xs : List Int) (hx : xs.length ≤ 1099511627776) (hq : ∀ x ∈ xs, 0 ≤ x ∧ x ≤ 400) : Fun T 51 [rL xs] = some [i64 (isum xs)] := by
 rw [Fun_k (t := tm51) rfl]; unfold tm51; unfold isum
 simp (disch := first | assumption | omega) only [S0, reduceIte, reduceCtorEq, reduceAdd, reduceEqDiff, Int.reduceBEq, reduceLT, reduceLE, *]
 rw [(foldS 1 xs (fun i (s : Int) => [i64 s, i64 i]) 0 (fun s x => s + x) (fun i s => 0 ≤ s ∧ s ≤ 400 * (i : Int)) (fun s => [i64 s]) rfl (by omega) ?_ ?_).1]
 ·(refine fork_in ?_; repeat' (refine fork_eq (fun _ => ?_) (fun _ => ?_) <;> try simp (disch := first | assumption | omega) only [S0, reduceIte, reduceCtorEq, reduceAdd, reduceEqDiff, Int.reduceBEq, reduceLT, reduceLE, *]))
 ·intro i s hi hb hl hv
  have := hq _ (at_mem hi)
  exact ⟨by (refine fork_in ?_; repeat' (refine fork_eq (fun _ => ?_) (fun _ => ?_) <;> try simp (disch := first | assumption | omega) only [S0, reduceIte, reduceCtorEq, reduceAdd, reduceEqDiff, Int.reduceBEq, reduceLT, reduceLE, S_row, *])), by omega, by omega⟩
 ·intro s hl hv
  (refine fork_in ?_; repeat' (refine fork_eq (fun _ => ?_) (fun _ => ?_) <;> try simp (disch := first | assumption | omega) only [S0, reduceIte, reduceCtorEq, reduceAdd, reduceEqDiff, Int.reduceBEq, reduceLT, reduceLE, *]))
theorem impl_GoodSums (xs : List Int) (hx : xs.length ≤ 1099511627776) : Fun T 47 [rL xs] = some [.bool (sumsOk xs)] := by
 rw [Fun_k (t := tm47) rfl]; unfold tm47; unfold sumsOk
 have e : xs.any (fun x => !inR x 0 400) = !xs.all fun x => inR x 0 400 := by rw [List.not_all_eq_any_not]
 cases h : xs.all fun x => inR x 0 400
 ·(refine fork_in ?_; repeat' (refine fork_eq (fun _ => ?_) (fun _ => ?_) <;> try simp (disch := first | assumption | omega) only [S0, reduceIte, reduceCtorEq, reduceAdd, reduceEqDiff, Int.reduceBEq, reduceLT, reduceLE, ct_GoodSums_1, e, Bool.not_not, *]))
 ·have hq : ∀ x ∈ xs, 0 ≤ x ∧ x ≤ 400 := fun x hx => inR_rng (List.all_eq_true.1 h x hx)
  (refine fork_in ?_; repeat' (refine fork_eq (fun _ => ?_) (fun _ => ?_) <;> try simp (disch := first | assumption | omega) only [S0, reduceIte, reduceCtorEq, reduceAdd, reduceEqDiff, Int.reduceBEq, reduceLT, reduceLE, ct_GoodSums_1, e, Bool.not_not, impl_total, *]))
theorem spec_GoodClerk (sums last : List Int) (told : List TTold) (h1 : sums.length ≤ 1099511627776) (h2 : last.length ≤ 1099511627776) (h3 : told.length ≤ 1099511627776) : Fun T 67 [rL sums, rL last, rL told] = some [.bool (clerkOk ⟨sums, last, told⟩)] := by
 rw [Fun_k (t := tm67) rfl]; unfold tm67; unfold clerkOk
 cases hs : sumsOk sums
 ·(refine fork_in ?_; repeat' (refine fork_eq (fun _ => ?_) (fun _ => ?_) <;> try simp (disch := first | assumption | omega) only [S0, reduceIte, reduceCtorEq, reduceAdd, reduceEqDiff, Int.reduceBEq, reduceLT, reduceLE, spec_GoodSums, *]))
 cases hl : (last.length : Int) == 4
 ·(refine fork_in ?_; repeat' (refine fork_eq (fun _ => ?_) (fun _ => ?_) <;> try simp (disch := first | assumption | omega) only [S0, reduceIte, reduceCtorEq, reduceAdd, reduceEqDiff, Int.reduceBEq, reduceLT, reduceLE, spec_GoodSums, *]))
 cases ht : (told.length : Int) == 4
 ·(refine fork_in ?_; repeat' (refine fork_eq (fun _ => ?_) (fun _ => ?_) <;> try simp (disch := first | assumption | omega) only [S0, reduceIte, reduceCtorEq, reduceAdd, reduceEqDiff, Int.reduceBEq, reduceLT, reduceLE, spec_GoodSums, *]))
 cases ha : last.all fun x => inR x 0 999
 ·(refine fork_in ?_; repeat' (refine fork_eq (fun _ => ?_) (fun _ => ?_) <;> try simp (disch := first | assumption | omega) only [S0, reduceIte, reduceCtorEq, reduceAdd, reduceEqDiff, Int.reduceBEq, reduceLT, reduceLE, spec_GoodSums, spec_l1All, *]))
 have hl' : (last.length : Int) = 4 := by simpa using hl
 have ht' : (told.length : Int) = 4 := by simpa using ht
 simp (disch := first | assumption | omega) only [SA, SB, SC, SP, SQ, SZ, reduceIte, reduceCtorEq, Nat.reduceAdd, Nat.reduceEqDiff, spec_GoodSums, spec_l1All, hs, hl, ht, ha]
 rw [scanF 1 told.length (clerkAt last told) [.bool false]]
 ·(refine fork_in ?_; repeat' (refine fork_eq (fun _ => ?_) (fun _ => ?_) <;> try simp (disch := first | assumption | omega) only [S0, reduceIte, reduceCtorEq, reduceAdd, reduceEqDiff, Int.reduceBEq, reduceLT, reduceLE, *]))
 ·intro i hi hlt
  have hb : InB told (i : Int) := InB_nat.2 hi
  have hb2 : InB last (i : Int) := InB_nat.2 (by omega)
  unfold clerkAt
  simp (disch := first | assumption | omega) only [SA, SB, SC, SP, SQ, SZ, reduceIte, reduceCtorEq, Nat.reduceAdd, Nat.reduceEqDiff, S_row, S_eta, spec_l15Told, hlt, hb, hb2] <;> repeat' (refine fork_eq (fun _ => ?_) (fun _ => ?_) <;> try simp (disch := first | assumption | omega) only [S0, reduceIte, reduceCtorEq, reduceAdd, reduceEqDiff, Int.reduceBEq, reduceLT, reduceLE, S_row, spec_l15Told, *])
 ·intro hlt
  clear hl' ht'
  (refine fork_in ?_; repeat' (refine fork_eq (fun _ => ?_) (fun _ => ?_) <;> try simp (disch := first | assumption | omega) only [S0, reduceIte, reduceCtorEq, reduceAdd, reduceEqDiff, Int.reduceBEq, reduceLT, reduceLE, *]))
theorem impl_GoodClerk (sums last : List Int) (told : List TTold) (h1 : sums.length ≤ 1099511627776) (h2 : last.length ≤ 1099511627776) (h3 : told.length ≤ 1099511627776) : Fun T 46 [rL sums, rL last, rL told] = some [.bool (clerkOk ⟨sums, last, told⟩)] := by
 rw [Fun_k (t := tm46) rfl]; unfold tm46; unfold clerkOk
 cases hs : sumsOk sums
 ·(refine fork_in ?_; repeat' (refine fork_eq (fun _ => ?_) (fun _ => ?_) <;> try simp (disch := first | assumption | omega) only [S0, reduceIte, reduceCtorEq, reduceAdd, reduceEqDiff, Int.reduceBEq, reduceLT, reduceLE, impl_GoodSums, *]))
 cases hl : (last.length : Int) == 4
 ·(refine fork_in ?_; repeat' (refine fork_eq (fun _ => ?_) (fun _ => ?_) <;> try simp (disch := first | assumption | omega) only [S0, reduceIte, reduceCtorEq, reduceAdd, reduceEqDiff, Int.reduceBEq, reduceLT, reduceLE, impl_GoodSums, *]))
 cases ht : (told.length : Int) == 4
 ·(refine fork_in ?_; repeat' (refine fork_eq (fun _ => ?_) (fun _ => ?_) <;> try simp (disch := first | assumption | omega) only [S0, reduceIte, reduceCtorEq, reduceAdd, reduceEqDiff, Int.reduceBEq, reduceLT, reduceLE, impl_GoodSums, *]))
 have hl' : (last.length : Int) = 4 := by simpa using hl
 have ht' : (told.length : Int) = 4 := by simpa using ht
 simp (disch := first | assumption | omega) only [SA, SB, SC, SP, SQ, SZ, reduceIte, reduceCtorEq, Nat.reduceAdd, Nat.reduceEqDiff, impl_GoodSums, hs, hl, ht]
 rw [scanF 1 last.length (fun i => inR (atI last (i : Int)) 0 999 && clerkAt last told i) [.bool false], allB_and, allB_all last (fun x => inR x 0 999)]
 ·have e : last.length = told.length := by omega
  rw [e]
  cases last.all fun x => inR x 0 999 <;> cases allB (clerkAt last told) told.length <;> simp (disch := first | assumption | omega) only [S0, reduceIte, reduceCtorEq, reduceAdd, reduceEqDiff, Int.reduceBEq, reduceLT, reduceLE, *]
 ·intro i hi hlt
  have hb : InB last (i : Int) := InB_nat.2 hi
  have hb2 : InB told (i : Int) := InB_nat.2 (by omega)
  unfold clerkAt
  simp (disch := first | assumption | omega) only [SA, SB, SC, SP, SQ, SZ, reduceIte, reduceCtorEq, Nat.reduceAdd, Nat.reduceEqDiff, S_row, S_eta, impl_within, impl_goodTold, hlt, hb, hb2] <;> repeat' (refine fork_eq (fun _ => ?_) (fun _ => ?_) <;> try simp (disch := first | assumption | omega) only [S0, reduceIte, reduceCtorEq, reduceAdd, reduceEqDiff, Int.reduceBEq, reduceLT, reduceLE, S_row, impl_within, impl_goodTold, *])
 ·intro hlt
  clear hl' ht'
  (refine fork_in ?_; repeat' (refine fork_eq (fun _ => ?_) (fun _ => ?_) <;> try simp (disch := first | assumption | omega) only [S0, reduceIte, reduceCtorEq, reduceAdd, reduceEqDiff, Int.reduceBEq, reduceLT, reduceLE, *]))
theorem spec_l15Ask (a_client a_no a_cmd_kind a_cmd_id a_cmd_src a_cmd_dst a_cmd_amt : Int) : Fun T 26 [i64 a_client, i64 a_no, i64 a_cmd_kind, i64 a_cmd_id, i64 a_cmd_src, i64 a_cmd_dst, i64 a_cmd_amt] = some [.bool (askOk ⟨a_client, a_no, ⟨a_cmd_kind, a_cmd_id, a_cmd_src, a_cmd_dst, a_cmd_amt⟩⟩)] := by
 rw [Fun_k (t := tm26) rfl]; unfold tm26; unfold askOk
 (refine fork_in ?_; repeat' (refine fork_eq (fun _ => ?_) (fun _ => ?_) <;> try simp (disch := first | assumption | omega) only [S0, reduceIte, reduceCtorEq, reduceAdd, reduceEqDiff, Int.reduceBEq, reduceLT, reduceLE, spec_l1In, spec_GoodCmd, *]))
theorem impl_goodAsk (a_client a_no a_cmd_kind a_cmd_id a_cmd_src a_cmd_dst a_cmd_amt : Int) : Fun T 13 [i64 a_client, i64 a_no, i64 a_cmd_kind, i64 a_cmd_id, i64 a_cmd_src, i64 a_cmd_dst, i64 a_cmd_amt] = some [.bool (askOk ⟨a_client, a_no, ⟨a_cmd_kind, a_cmd_id, a_cmd_src, a_cmd_dst, a_cmd_amt⟩⟩)] := by
 rw [Fun_k (t := tm13) rfl]; unfold tm13; unfold askOk
 (refine fork_in ?_; repeat' (refine fork_eq (fun _ => ?_) (fun _ => ?_) <;> try simp (disch := first | assumption | omega) only [S0, reduceIte, reduceCtorEq, reduceAdd, reduceEqDiff, Int.reduceBEq, reduceLT, reduceLE, impl_within, impl_GoodCmd, *]))
theorem slices_Clone_Told (xs : List TTold) (hx : xs.length ≤ 10000000000) : Fun T 62 [rL xs] = some [rL xs] := by
 rw [Fun_ext (e := ex62) rfl]
 cases xs with
 | nil => rfl
 | cons x xs =>
  show Fun (entTab [(62, .tm tm62)]) 62 [rL (x :: xs)] = _
  rw [Fun_k (t := tm62) rfl]
  unfold tm62
  have hx' : (x :: xs).length ≤ 100000000000 := by omega
  have h0 : (Prim.mk 2 0).run [] = some [.rows 2 []] := rfl
  have h1 : (x :: xs).isEmpty = false := rfl
  simp (disch := first | assumption | omega) only [SA, SB, SC, SP, SQ, SZ, reduceIte, reduceCtorEq, Nat.reduceAdd, Nat.reduceEqDiff, rL_ne, rL_emp, h0, h1, S_app]
theorem impl_Clerk_copied (sums last : List Int) (told : List TTold) (h1 : sums.length ≤ 10000000000) (h2 : last.length ≤ 10000000000) (h3 : told.length ≤ 10000000000) : Fun T 60 [rL sums, rL last, rL told] = some [rL sums, rL last, rL told] := by
 rw [Fun_k (t := tm60) rfl]; unfold tm60
 (refine fork_in ?_; repeat' (refine fork_eq (fun _ => ?_) (fun _ => ?_) <;> try simp (disch := first | assumption | omega) only [S0, reduceIte, reduceCtorEq, reduceAdd, reduceEqDiff, Int.reduceBEq, reduceLT, reduceLE, slices_Clone_int, slices_Clone_Told, *]))
theorem spec_l15Own (sums last : List Int) (told : List TTold) (h1 : sums.length ≤ 10000000000) (h2 : last.length ≤ 10000000000) (h3 : told.length ≤ 10000000000) : Fun T 35 [rL sums, rL last, rL told] = some [rL sums, rL last, rL told] := by
 rw [Fun_k (t := tm35) rfl]; unfold tm35
 have h0 : (Prim.mk 2 0).run [] = some [.rows 2 []] := rfl
 (refine fork_in ?_; repeat' (refine fork_eq (fun _ => ?_) (fun _ => ?_) <;> try simp (disch := first | assumption | omega) only [S0, reduceIte, reduceCtorEq, reduceAdd, reduceEqDiff, Int.reduceBEq, reduceLT, reduceLE, spec_l1Own, h0, S_app, *]))
theorem spec_l11Apply (s : List Int) (k i f t a : Int) (hc : cmdOk ⟨k, i, f, t, a⟩ = true) (hl : (s.length : Int) = 4) (hq : ∀ x ∈ s, 0 ≤ x ∧ x ≤ 100000000) : Fun T 37 [rL s, i64 k, i64 i, i64 f, i64 t, i64 a] = some [rL (applyM s ⟨k, i, f, t, a⟩).1, i64 (applyM s ⟨k, i, f, t, a⟩).2.code, i64 (applyM s ⟨k, i, f, t, a⟩).2.sum] := by
 rw [Fun_k (t := tm37) rfl]; unfold tm37; unfold applyM
 obtain ⟨hk, hm, hr⟩ := cmdOk_acc hc
 simp only at hk hm hr
 have hl' : s.length ≤ 10000000000 := by omega
 rcases hk with rfl | rfl | rfl
 ·(refine fork_in ?_; repeat' (refine fork_eq (fun _ => ?_) (fun _ => ?_) <;> try simp (disch := first | assumption | omega) only [S0, reduceIte, reduceCtorEq, reduceAdd, reduceEqDiff, Int.reduceBEq, reduceLT, reduceLE, spec_l1Own, *]))
 ·obtain ⟨⟨f1, f2⟩, ⟨t1, t2⟩, hne, a1, a2⟩ := hm rfl
  have hbf : InB s f := by unfold InB; omega
  have hbt : InB s t := by unfold InB; omega
  have hqf := hq _ (at_memI hbf)
  have hbt2 : InB (setI s f (atI s f - a)) t := by unfold InB; rw [setI_len]; omega
  by_cases hlt : atI s f < a
  ·(refine fork_in ?_; repeat' (refine fork_eq (fun _ => ?_) (fun _ => ?_) <;> try simp (disch := first | assumption | omega) only [S0, reduceIte, reduceCtorEq, reduceAdd, reduceEqDiff, Int.reduceBEq, reduceLT, reduceLE, spec_l1Own, S_row, *]))
  ·have e : atI (setI s f (atI s f - a)) t = atI s t := atI_ne f1 t1 hne
   have hqt := hq _ (at_memI hbt)
   (refine fork_in ?_; repeat' (refine fork_eq (fun _ => ?_) (fun _ => ?_) <;> try simp (disch := first | assumption | omega | (simp only [S_upd]; assumption)) only [S0, reduceIte, reduceCtorEq, reduceAdd, reduceEqDiff, Int.reduceBEq, reduceLT, reduceLE, spec_l1Own, S_row, S_set, S_upd, *]))
 ·obtain ⟨f1, f2⟩ := hr rfl
  have hbf : InB s f := by unfold InB; omega
  (refine fork_in ?_; repeat' (refine fork_eq (fun _ => ?_) (fun _ => ?_) <;> try simp (disch := first | assumption | omega) only [S0, reduceIte, reduceCtorEq, reduceAdd, reduceEqDiff, Int.reduceBEq, reduceLT, reduceLE, spec_l1Own, S_row, *]))
theorem impl_apply (s : List Int) (k i f t a : Int) (hc : cmdOk ⟨k, i, f, t, a⟩ = true) (hl : (s.length : Int) = 4) (hq : ∀ x ∈ s, 0 ≤ x ∧ x ≤ 100000000) : Fun T 23 [rL s, i64 k, i64 i, i64 f, i64 t, i64 a] = some [i64 (applyM s ⟨k, i, f, t, a⟩).2.code, i64 (applyM s ⟨k, i, f, t, a⟩).2.sum, rL (applyM s ⟨k, i, f, t, a⟩).1] := by
 rw [Fun_k (t := tm23) rfl]; unfold tm23; unfold applyM
 obtain ⟨hk, hm, hr⟩ := cmdOk_acc hc
 simp only at hk hm hr
 rcases hk with rfl | rfl | rfl
 ·(refine fork_in ?_; repeat' (refine fork_eq (fun _ => ?_) (fun _ => ?_) <;> try simp (disch := first | assumption | omega) only [S0, reduceIte, reduceCtorEq, reduceAdd, reduceEqDiff, Int.reduceBEq, reduceLT, reduceLE, *]))
 ·obtain ⟨⟨f1, f2⟩, ⟨t1, t2⟩, hne, a1, a2⟩ := hm rfl
  have hbf : InB s f := by unfold InB; omega
  have hbt : InB s t := by unfold InB; omega
  have hqf := hq _ (at_memI hbf)
  by_cases hlt : atI s f < a
  ·(refine fork_in ?_; repeat' (refine fork_eq (fun _ => ?_) (fun _ => ?_) <;> try simp (disch := first | assumption | omega) only [S0, reduceIte, reduceCtorEq, reduceAdd, reduceEqDiff, Int.reduceBEq, reduceLT, reduceLE, S_row, *]))
  ·have e : atI (setI s f (atI s f - a)) t = atI s t := atI_ne f1 t1 hne
   have hqt := hq _ (at_memI hbt)
   (refine fork_in ?_; repeat' (refine fork_eq (fun _ => ?_) (fun _ => ?_) <;> try simp (disch := first | assumption | omega | (simp only [S_upd]; assumption)) only [S0, reduceIte, reduceCtorEq, reduceAdd, reduceEqDiff, Int.reduceBEq, reduceLT, reduceLE, S_row, S_set, S_upd, *]))
 ·obtain ⟨f1, f2⟩ := hr rfl
  have hbf : InB s f := by unfold InB; omega
  (refine fork_in ?_; repeat' (refine fork_eq (fun _ => ?_) (fun _ => ?_) <;> try simp (disch := first | assumption | omega) only [S0, reduceIte, reduceCtorEq, reduceAdd, reduceEqDiff, Int.reduceBEq, reduceLT, reduceLE, S_row, *]))
theorem spec_l15Serve (sums last : List Int) (told : List TTold) (a_client a_no a_cmd_kind a_cmd_id a_cmd_src a_cmd_dst a_cmd_amt : Int) (ha : askOk ⟨a_client, a_no, ⟨a_cmd_kind, a_cmd_id, a_cmd_src, a_cmd_dst, a_cmd_amt⟩⟩ = true) (h1 : (sums.length : Int) = 4) (h2 : (last.length : Int) = 4) (h3 : (told.length : Int) = 4) (hq : ∀ x ∈ sums, 0 ≤ x ∧ x ≤ 100000000) (hq2 : ∀ x ∈ last, 0 ≤ x ∧ x ≤ 999) :
  Fun T 34 [rL sums, rL last, rL told, i64 a_client, i64 a_no, i64 a_cmd_kind, i64 a_cmd_id, i64 a_cmd_src, i64 a_cmd_dst, i64 a_cmd_amt] = some [rL (serveM ⟨sums, last, told⟩ ⟨a_client, a_no, ⟨a_cmd_kind, a_cmd_id, a_cmd_src, a_cmd_dst, a_cmd_amt⟩⟩).1.sums, rL (serveM ⟨sums, last, told⟩ ⟨a_client, a_no, ⟨a_cmd_kind, a_cmd_id, a_cmd_src, a_cmd_dst, a_cmd_amt⟩⟩).1.last, rL (serveM ⟨sums, last, told⟩ ⟨a_client, a_no, ⟨a_cmd_kind, a_cmd_id, a_cmd_src, a_cmd_dst, a_cmd_amt⟩⟩).1.told, i64 (serveM ⟨sums, last, told⟩ ⟨a_client, a_no, ⟨a_cmd_kind, a_cmd_id, a_cmd_src, a_cmd_dst, a_cmd_amt⟩⟩).2.1.code, i64 (serveM ⟨sums, last, told⟩ ⟨a_client, a_no, ⟨a_cmd_kind, a_cmd_id, a_cmd_src, a_cmd_dst, a_cmd_amt⟩⟩).2.1.sum, i64 (serveM ⟨sums, last, told⟩ ⟨a_client, a_no, ⟨a_cmd_kind, a_cmd_id, a_cmd_src, a_cmd_dst, a_cmd_amt⟩⟩).2.2] := by
 rw [Fun_k (t := tm34) rfl]; unfold tm34; unfold serveM
 obtain ⟨⟨c1, c2⟩, ⟨n1, n2⟩, hc⟩ := askOk_spec ha
 simp only at c1 c2 n1 n2 hc
 have hb1 : InB last a_client := by unfold InB; omega
 have hb2 : InB told a_client := by unfold InB; omega
 have hql := hq2 _ (at_memI hb1)
 have l1 : sums.length ≤ 10000000000 := by omega
 have l2 : last.length ≤ 10000000000 := by omega
 have l3 : told.length ≤ 10000000000 := by omega
 (refine fork_in ?_; repeat' (refine fork_eq (fun _ => ?_) (fun _ => ?_) <;> try simp (disch := first | assumption | omega | (simp only [S_upd]; assumption)) only [S0, reduceIte, reduceCtorEq, reduceAdd, reduceEqDiff, Int.reduceBEq, reduceLT, reduceLE, spec_l15Own, S_row, S_set, S_upd, spec_l11Apply, *]))
theorem impl_Clerk_serve (sums last : List Int) (told : List TTold) (a_client a_no a_cmd_kind a_cmd_id a_cmd_src a_cmd_dst a_cmd_amt : Int) (ha : askOk ⟨a_client, a_no, ⟨a_cmd_kind, a_cmd_id, a_cmd_src, a_cmd_dst, a_cmd_amt⟩⟩ = true) (h1 : (sums.length : Int) = 4) (h2 : (last.length : Int) = 4) (h3 : (told.length : Int) = 4) (hq : ∀ x ∈ sums, 0 ≤ x ∧ x ≤ 100000000) (hq2 : ∀ x ∈ last, 0 ≤ x ∧ x ≤ 999) :
  Fun T 22 [i64 a_client, i64 a_no, i64 a_cmd_kind, i64 a_cmd_id, i64 a_cmd_src, i64 a_cmd_dst, i64 a_cmd_amt, rL sums, rL last, rL told] = some [i64 (serveM ⟨sums, last, told⟩ ⟨a_client, a_no, ⟨a_cmd_kind, a_cmd_id, a_cmd_src, a_cmd_dst, a_cmd_amt⟩⟩).2.1.code, i64 (serveM ⟨sums, last, told⟩ ⟨a_client, a_no, ⟨a_cmd_kind, a_cmd_id, a_cmd_src, a_cmd_dst, a_cmd_amt⟩⟩).2.1.sum, i64 (serveM ⟨sums, last, told⟩ ⟨a_client, a_no, ⟨a_cmd_kind, a_cmd_id, a_cmd_src, a_cmd_dst, a_cmd_amt⟩⟩).2.2, rL (serveM ⟨sums, last, told⟩ ⟨a_client, a_no, ⟨a_cmd_kind, a_cmd_id, a_cmd_src, a_cmd_dst, a_cmd_amt⟩⟩).1.sums, rL (serveM ⟨sums, last, told⟩ ⟨a_client, a_no, ⟨a_cmd_kind, a_cmd_id, a_cmd_src, a_cmd_dst, a_cmd_amt⟩⟩).1.last, rL (serveM ⟨sums, last, told⟩ ⟨a_client, a_no, ⟨a_cmd_kind, a_cmd_id, a_cmd_src, a_cmd_dst, a_cmd_amt⟩⟩).1.told] := by
 rw [Fun_k (t := tm22) rfl]; unfold tm22; unfold serveM
 obtain ⟨⟨c1, c2⟩, ⟨n1, n2⟩, hc⟩ := askOk_spec ha
 simp only at c1 c2 n1 n2 hc
 have hb1 : InB last a_client := by unfold InB; omega
 have hb2 : InB told a_client := by unfold InB; omega
 have hql := hq2 _ (at_memI hb1)
 (refine fork_in ?_; repeat' (refine fork_eq (fun _ => ?_) (fun _ => ?_) <;> try simp (disch := first | assumption | omega | (simp only [S_upd]; assumption)) only [S0, reduceIte, reduceCtorEq, reduceAdd, reduceEqDiff, Int.reduceBEq, reduceLT, reduceLE, S_row, S_set, S_upd, impl_apply, *]))
theorem spec_ServeAsk (sums last : List Int) (told : List TTold) (a_client a_no a_cmd_kind a_cmd_id a_cmd_src a_cmd_dst a_cmd_amt : Int) (h1 : sums.length ≤ 10000000000) (h2 : last.length ≤ 10000000000) (h3 : told.length ≤ 10000000000) :
  Fun T 66 [rL sums, rL last, rL told, i64 a_client, i64 a_no, i64 a_cmd_kind, i64 a_cmd_id, i64 a_cmd_src, i64 a_cmd_dst, i64 a_cmd_amt] = some [rL (serveR ⟨sums, last, told⟩ ⟨a_client, a_no, ⟨a_cmd_kind, a_cmd_id, a_cmd_src, a_cmd_dst, a_cmd_amt⟩⟩).1.sums, rL (serveR ⟨sums, last, told⟩ ⟨a_client, a_no, ⟨a_cmd_kind, a_cmd_id, a_cmd_src, a_cmd_dst, a_cmd_amt⟩⟩).1.last, rL (serveR ⟨sums, last, told⟩ ⟨a_client, a_no, ⟨a_cmd_kind, a_cmd_id, a_cmd_src, a_cmd_dst, a_cmd_amt⟩⟩).1.told, i64 (serveR ⟨sums, last, told⟩ ⟨a_client, a_no, ⟨a_cmd_kind, a_cmd_id, a_cmd_src, a_cmd_dst, a_cmd_amt⟩⟩).2.1.code, i64 (serveR ⟨sums, last, told⟩ ⟨a_client, a_no, ⟨a_cmd_kind, a_cmd_id, a_cmd_src, a_cmd_dst, a_cmd_amt⟩⟩).2.1.sum, i64 (serveR ⟨sums, last, told⟩ ⟨a_client, a_no, ⟨a_cmd_kind, a_cmd_id, a_cmd_src, a_cmd_dst, a_cmd_amt⟩⟩).2.2.1, .bool (serveR ⟨sums, last, told⟩ ⟨a_client, a_no, ⟨a_cmd_kind, a_cmd_id, a_cmd_src, a_cmd_dst, a_cmd_amt⟩⟩).2.2.2] := by
 rw [Fun_k (t := tm66) rfl]; unfold tm66; unfold serveR
 have l1 : sums.length ≤ 1099511627776 := by omega
 have l2 : last.length ≤ 1099511627776 := by omega
 have l3 : told.length ≤ 1099511627776 := by omega
 cases hc : clerkOk ⟨sums, last, told⟩
 ·(refine fork_in ?_; repeat' (refine fork_eq (fun _ => ?_) (fun _ => ?_) <;> try simp (disch := first | assumption | omega) only [S0, reduceIte, reduceCtorEq, reduceAdd, reduceEqDiff, Int.reduceBEq, reduceLT, reduceLE, spec_GoodClerk, S_nil, *]))
 cases ha : askOk ⟨a_client, a_no, ⟨a_cmd_kind, a_cmd_id, a_cmd_src, a_cmd_dst, a_cmd_amt⟩⟩
 ·(refine fork_in ?_; repeat' (refine fork_eq (fun _ => ?_) (fun _ => ?_) <;> try simp (disch := first | assumption | omega) only [S0, reduceIte, reduceCtorEq, reduceAdd, reduceEqDiff, Int.reduceBEq, reduceLT, reduceLE, spec_GoodClerk, spec_l15Ask, S_nil, *]))
 obtain ⟨k1, k2, k3, k4⟩ := clerkOk_spec hc
 obtain ⟨k5, k6⟩ := sumsOk_spec k1
 simp only at k2 k3 k4 k5 k6
 have hq : ∀ x ∈ sums, 0 ≤ x ∧ x ≤ 100000000 := fun x hx => by have := k6 x hx; omega
 simp (disch := first | assumption | omega) only [SA, SB, SC, SP, SQ, SZ, reduceIte, reduceCtorEq, Nat.reduceAdd, Nat.reduceEqDiff, spec_GoodClerk, spec_l15Ask, spec_l15Serve, hc, ha]
theorem impl_ServeAsk (sums last : List Int) (told : List TTold) (a_client a_no a_cmd_kind a_cmd_id a_cmd_src a_cmd_dst a_cmd_amt : Int) (h1 : sums.length ≤ 10000000000) (h2 : last.length ≤ 10000000000) (h3 : told.length ≤ 10000000000) :
  Fun T 59 [rL sums, rL last, rL told, i64 a_client, i64 a_no, i64 a_cmd_kind, i64 a_cmd_id, i64 a_cmd_src, i64 a_cmd_dst, i64 a_cmd_amt] = some [rL (serveR ⟨sums, last, told⟩ ⟨a_client, a_no, ⟨a_cmd_kind, a_cmd_id, a_cmd_src, a_cmd_dst, a_cmd_amt⟩⟩).1.sums, rL (serveR ⟨sums, last, told⟩ ⟨a_client, a_no, ⟨a_cmd_kind, a_cmd_id, a_cmd_src, a_cmd_dst, a_cmd_amt⟩⟩).1.last, rL (serveR ⟨sums, last, told⟩ ⟨a_client, a_no, ⟨a_cmd_kind, a_cmd_id, a_cmd_src, a_cmd_dst, a_cmd_amt⟩⟩).1.told, i64 (serveR ⟨sums, last, told⟩ ⟨a_client, a_no, ⟨a_cmd_kind, a_cmd_id, a_cmd_src, a_cmd_dst, a_cmd_amt⟩⟩).2.1.code, i64 (serveR ⟨sums, last, told⟩ ⟨a_client, a_no, ⟨a_cmd_kind, a_cmd_id, a_cmd_src, a_cmd_dst, a_cmd_amt⟩⟩).2.1.sum, i64 (serveR ⟨sums, last, told⟩ ⟨a_client, a_no, ⟨a_cmd_kind, a_cmd_id, a_cmd_src, a_cmd_dst, a_cmd_amt⟩⟩).2.2.1, .bool (serveR ⟨sums, last, told⟩ ⟨a_client, a_no, ⟨a_cmd_kind, a_cmd_id, a_cmd_src, a_cmd_dst, a_cmd_amt⟩⟩).2.2.2] := by
 rw [Fun_k (t := tm59) rfl]; unfold tm59; unfold serveR
 have l1 : sums.length ≤ 1099511627776 := by omega
 have l2 : last.length ≤ 1099511627776 := by omega
 have l3 : told.length ≤ 1099511627776 := by omega
 cases hc : clerkOk ⟨sums, last, told⟩
 ·(refine fork_in ?_; repeat' (refine fork_eq (fun _ => ?_) (fun _ => ?_) <;> try simp (disch := first | assumption | omega) only [S0, reduceIte, reduceCtorEq, reduceAdd, reduceEqDiff, Int.reduceBEq, reduceLT, reduceLE, impl_GoodClerk, S_nil, *]))
 cases ha : askOk ⟨a_client, a_no, ⟨a_cmd_kind, a_cmd_id, a_cmd_src, a_cmd_dst, a_cmd_amt⟩⟩
 ·(refine fork_in ?_; repeat' (refine fork_eq (fun _ => ?_) (fun _ => ?_) <;> try simp (disch := first | assumption | omega) only [S0, reduceIte, reduceCtorEq, reduceAdd, reduceEqDiff, Int.reduceBEq, reduceLT, reduceLE, impl_GoodClerk, impl_goodAsk, S_nil, *]))
 obtain ⟨k1, k2, k3, k4⟩ := clerkOk_spec hc
 obtain ⟨k5, k6⟩ := sumsOk_spec k1
 simp only at k2 k3 k4 k5 k6
 have hq : ∀ x ∈ sums, 0 ≤ x ∧ x ≤ 100000000 := fun x hx => by have := k6 x hx; omega
 simp (disch := first | assumption | omega) only [SA, SB, SC, SP, SQ, SZ, reduceIte, reduceCtorEq, Nat.reduceAdd, Nat.reduceEqDiff, impl_GoodClerk, impl_goodAsk, impl_Clerk_copied, impl_Clerk_serve, hc, ha]
theorem spec_NewClerk : Fun T 32 [] = some [rL clerk0.sums, rL clerk0.last, rL clerk0.told] := Fun_some.2 ⟨12, by kernel_rfl⟩
theorem impl_NewClerk : Fun T 17 [] = some [rL clerk0.sums, rL clerk0.last, rL clerk0.told] := Fun_some.2 ⟨12, by kernel_rfl⟩
theorem spec_l15Asks (l : List TAsk) (hl : l.length ≤ 10000000000) : Fun T 25 [rL l] = some [.bool (asksOk l)] := by
 rw [Fun_k (t := tm25) rfl]; unfold tm25; unfold asksOk
 simp (disch := first | assumption | omega) only [S0, reduceIte, reduceCtorEq, reduceAdd, reduceEqDiff, Int.reduceBEq, reduceLT, reduceLE]
 rw [allF 1 l askOk [.bool false]]
 ·(refine fork_in ?_; repeat' (refine fork_eq (fun _ => ?_) (fun _ => ?_) <;> try simp (disch := first | assumption | omega) only [S0, reduceIte, reduceCtorEq, reduceAdd, reduceEqDiff, Int.reduceBEq, reduceLT, reduceLE, *]))
 ·intro i hi hb hlt hm
  (refine fork_in ?_; repeat' (refine fork_eq (fun _ => ?_) (fun _ => ?_) <;> try simp (disch := first | assumption | omega) only [S0, reduceIte, reduceCtorEq, reduceAdd, reduceEqDiff, Int.reduceBEq, reduceLT, reduceLE, S_row, spec_l15Ask, *]))
 ·intro hlt
  (refine fork_in ?_; repeat' (refine fork_eq (fun _ => ?_) (fun _ => ?_) <;> try simp (disch := first | assumption | omega) only [S0, reduceIte, reduceCtorEq, reduceAdd, reduceEqDiff, Int.reduceBEq, reduceLT, reduceLE, *]))
theorem impl_PlayAsks_1 (a_client a_no a_cmd_kind a_cmd_id a_cmd_src a_cmd_dst a_cmd_amt : Int) : Fun T 12 [i64 a_client, i64 a_no, i64 a_cmd_kind, i64 a_cmd_id, i64 a_cmd_src, i64 a_cmd_dst, i64 a_cmd_amt] = some [.bool (!askOk ⟨a_client, a_no, ⟨a_cmd_kind, a_cmd_id, a_cmd_src, a_cmd_dst, a_cmd_amt⟩⟩)] := by
 rw [Fun_k (t := tm12) rfl]; unfold tm12
 (refine fork_in ?_; repeat' (refine fork_eq (fun _ => ?_) (fun _ => ?_) <;> try simp (disch := first | assumption | omega) only [S0, reduceIte, reduceCtorEq, reduceAdd, reduceEqDiff, Int.reduceBEq, reduceLT, reduceLE, impl_goodAsk, *]))
theorem ix_PlayAsks_1  (xs : List TAsk) (hx : xs.length ≤ 1099511627776) : Fun T 11 [rL xs] = some [i64 (ixF (fun x => !askOk x) xs)] := by
 rw [Fun_k (t := tm11) rfl]; unfold tm11
 simp (disch := first | assumption | omega) only [S0, reduceIte, reduceCtorEq, reduceAdd, reduceEqDiff, Int.reduceBEq, reduceLT, reduceLE, S_row, *]
 rw [findX 1 xs (fun x => !askOk x) (fun i => [i64 i])]
 ·cases h : xs.any (fun x => !askOk x)
  ·have e : ixF (fun x => !askOk x) xs = -1 := by
    have h2 := ixF_any (fun x => !askOk x) xs
    rw [h] at h2
    unfold ixF at h2 ⊢
    split at h2 <;> simp_all
   rw [e]; simp (disch := first | assumption | omega) only [S0, reduceIte, reduceCtorEq, reduceAdd, reduceEqDiff, Int.reduceBEq, reduceLT, reduceLE]
  ·simp (disch := first | assumption | omega) only [S0, reduceIte, reduceCtorEq, reduceAdd, reduceEqDiff, Int.reduceBEq, reduceLT, reduceLE]
 ·intro i hi hb hl hp
  (refine fork_in ?_; repeat' (refine fork_eq (fun _ => ?_) (fun _ => ?_) <;> try simp (disch := first | assumption | omega) only [S0, reduceIte, reduceCtorEq, reduceAdd, reduceEqDiff, Int.reduceBEq, reduceLT, reduceLE, S_row, impl_PlayAsks_1, *]))
 ·intro i hi hb hl hp
  (refine fork_in ?_; repeat' (refine fork_eq (fun _ => ?_) (fun _ => ?_) <;> try simp (disch := first | assumption | omega) only [S0, reduceIte, reduceCtorEq, reduceAdd, reduceEqDiff, Int.reduceBEq, reduceLT, reduceLE, S_row, impl_PlayAsks_1, *]))
 ·intro hl
  (refine fork_in ?_; repeat' (refine fork_eq (fun _ => ?_) (fun _ => ?_) <;> try simp (disch := first | assumption | omega) only [S0, reduceIte, reduceCtorEq, reduceAdd, reduceEqDiff, Int.reduceBEq, reduceLT, reduceLE, *]))
theorem ct_PlayAsks_1  (xs : List TAsk) (hx : xs.length ≤ 1099511627776) : Fun T 10 [rL xs] = some [.bool (xs.any (fun x => !askOk x))] := by
 rw [Fun_k (t := tm10) rfl]; unfold tm10
 (refine fork_in ?_; repeat' (refine fork_eq (fun _ => ?_) (fun _ => ?_) <;> try simp (disch := first | assumption | omega) only [S0, reduceIte, reduceCtorEq, reduceAdd, reduceEqDiff, Int.reduceBEq, reduceLT, reduceLE, ix_PlayAsks_1, ixF_any, *]))
theorem spec_l15Play (l : List TAsk) (hq : ∀ a ∈ l, askOk a = true) (hl : l.length ≤ 60) : Fun T 31 [rL l] = some [rL (playN l l.length).c.sums, rL (playN l l.length).c.last, rL (playN l l.length).c.told, rL (playN l l.length).told, rL (playN l l.length).codes] := by
 rw [Fun_k (t := tm31) rfl]; unfold tm31
 simp (disch := first | assumption | omega) only [S0, reduceIte, reduceCtorEq, reduceAdd, reduceEqDiff, Int.reduceBEq, reduceLT, reduceLE, spec_NewClerk]
 rw [loopN l.length (fun i => [rL (playN l i).told, rL (playN l i).codes, i64 i, rL (playN l i).c.sums, rL (playN l i).c.last, rL (playN l i).c.told]) (.yield 1, [rL (playN l l.length).told, rL (playN l l.length).codes, rL (playN l l.length).c.sums, rL (playN l l.length).c.last, rL (playN l l.length).c.told]) rfl (by simp)]
 ·simp (disch := first | assumption | omega) only [S0, reduceIte, reduceCtorEq, reduceAdd, reduceEqDiff, Int.reduceBEq, reduceLT, reduceLE]
 ·intro i hi hlt
  have hb : InB l (i : Int) := InB_nat.2 hi
  have ha := hq _ (at_mem hi)
  obtain ⟨h1, h2, h3, h4, h5⟩ := playN_inv hq i (by omega)
  have h4' : ∀ x ∈ (playN l i).c.sums, 0 ≤ x ∧ x ≤ 100000000 := fun x hx => by have := h4 x hx; omega
  have e : playN l (i + 1) = ⟨(serveM (playN l i).c (atI l (i : Int))).1, (playN l i).told ++ [(serveM (playN l i).c (atI l (i : Int))).2.1], (playN l i).codes ++ [(serveM (playN l i).c (atI l (i : Int))).2.2]⟩ := rfl
  obtain ⟨k1, k2⟩ := playN_len l i
  have z1 : (playN l i).told.length + ([(serveM (playN l i).c (atI l (i : Int))).2.1] : List TTold).length ≤ 100000000000 := by simp only [List.length_cons, List.length_nil]; omega
  have z2 : (playN l i).codes.length + ([(serveM (playN l i).c (atI l (i : Int))).2.2] : List Int).length ≤ 100000000000 := by simp only [List.length_cons, List.length_nil]; omega
  simp (disch := first | assumption | omega) only [S0, reduceIte, reduceCtorEq, reduceAdd, reduceEqDiff, Int.reduceBEq, reduceLT, reduceLE, S_row, spec_l15Serve, S_mk, S_app, hlt, e]
 ·intro hlt
  simp (disch := first | assumption | omega) only [S0, reduceIte, reduceCtorEq, reduceAdd, reduceEqDiff, Int.reduceBEq, reduceLT, reduceLE, hlt]
theorem spec_PlayAsks (l : List TAsk) (hl : l.length ≤ 10000000000) : Fun T 24 [rL l] = some [rL (playR l).1.c.sums, rL (playR l).1.c.last, rL (playR l).1.c.told, rL (playR l).1.told, rL (playR l).1.codes, .bool (playR l).2] := by
 rw [Fun_k (t := tm24) rfl]; unfold tm24; unfold playR
 cases h : asksOk l
 ·simp (disch := first | assumption | omega) only [S0, reduceIte, reduceCtorEq, reduceAdd, reduceEqDiff, Int.reduceBEq, reduceLT, reduceLE, spec_l15Asks, h, S_nil]
 ·obtain ⟨h1, h2⟩ := asksOk_spec h
  simp (disch := first | assumption | omega) only [S0, reduceIte, reduceCtorEq, reduceAdd, reduceEqDiff, Int.reduceBEq, reduceLT, reduceLE, spec_l15Asks, spec_l15Play, h]
theorem impl_PlayAsks (l : List TAsk) (hl : l.length ≤ 10000000000) : Fun T 9 [rL l] = some [rL (playR l).1.c.sums, rL (playR l).1.c.last, rL (playR l).1.c.told, rL (playR l).1.told, rL (playR l).1.codes, .bool (playR l).2] := by
 rw [Fun_k (t := tm9) rfl]; unfold tm9; unfold playR
 have hl' : l.length ≤ 1099511627776 := by omega
 have e : asksOk l = (!decide (60 < (l.length : Int)) && !l.any fun x => !askOk x) := by
  unfold asksOk
  rw [List.not_any_eq_all_not]
  simp only [Bool.not_not]
  rw [Bool.and_comm]
  congr 1
  by_cases hk : (60 : Int) < l.length
  ·rw [decide_eq_true hk, decide_eq_false (by omega)]; rfl
  ·rw [decide_eq_false hk, decide_eq_true (by omega)]; rfl
 cases h : asksOk l
 ·rw [e] at h
  cases c1 : decide (60 < (l.length : Int))
  ·rw [c1] at h
   simp only [Bool.not_false, Bool.true_and, Bool.not_eq_false'] at h
   simp (disch := first | assumption | omega) only [S0, reduceIte, reduceCtorEq, reduceAdd, reduceEqDiff, Int.reduceBEq, reduceLT, reduceLE, ct_PlayAsks_1, c1, h, S_nil, Bool.false_eq_true]
  ·simp (disch := first | assumption | omega) only [S0, reduceIte, reduceCtorEq, reduceAdd, reduceEqDiff, Int.reduceBEq, reduceLT, reduceLE, ct_PlayAsks_1, c1, S_nil]
 ·obtain ⟨h1, h2⟩ := asksOk_spec h
  rw [e] at h
  simp only [Bool.and_eq_true, Bool.not_eq_true'] at h
  obtain ⟨c1, c2⟩ := h
  have z0 : (Prim.mk 2 0).run [] = some [rL ([] : List TTold)] := rfl
  have z00 : (Prim.mk 1 0).run [] = some [rL ([] : List Int)] := rfl
  simp (disch := first | assumption | omega) only [S0, reduceIte, reduceCtorEq, reduceAdd, reduceEqDiff, Int.reduceBEq, reduceLT, reduceLE, ct_PlayAsks_1, c1, c2, impl_NewClerk, z0, z00, Bool.false_eq_true]
  rw [loopN l.length (fun i => [rL (playN l i).told, rL (playN l i).codes, i64 i, rL (playN l i).c.sums, rL (playN l i).c.last, rL (playN l i).c.told]) (.yield 1, [rL (playN l l.length).told, rL (playN l l.length).codes, rL (playN l l.length).c.sums, rL (playN l l.length).c.last, rL (playN l l.length).c.told]) rfl (by simp)]
  ·simp (disch := first | assumption | omega) only [S0, reduceIte, reduceCtorEq, reduceAdd, reduceEqDiff, Int.reduceBEq, reduceLT, reduceLE]
  ·intro i hi hlt
   have hb : InB l (i : Int) := InB_nat.2 hi
   have ha := h1 _ (at_mem hi)
   obtain ⟨h1, h2, h3, h4, h5⟩ := playN_inv h1 i (by omega)
   have h4' : ∀ x ∈ (playN l i).c.sums, 0 ≤ x ∧ x ≤ 100000000 := fun x hx => by have := h4 x hx; omega
   have e : playN l (i + 1) = ⟨(serveM (playN l i).c (atI l (i : Int))).1, (playN l i).told ++ [(serveM (playN l i).c (atI l (i : Int))).2.1], (playN l i).codes ++ [(serveM (playN l i).c (atI l (i : Int))).2.2]⟩ := rfl
   obtain ⟨k1, k2⟩ := playN_len l i
   have z1 : (playN l i).told.length + ([(serveM (playN l i).c (atI l (i : Int))).2.1] : List TTold).length ≤ 100000000000 := by simp only [List.length_cons, List.length_nil]; omega
   have z2 : (playN l i).codes.length + ([(serveM (playN l i).c (atI l (i : Int))).2.2] : List Int).length ≤ 100000000000 := by simp only [List.length_cons, List.length_nil]; omega
   simp (disch := first | assumption | omega) only [S0, reduceIte, reduceCtorEq, reduceAdd, reduceEqDiff, Int.reduceBEq, reduceLT, reduceLE, S_row, impl_Clerk_serve, S_mk, S_app, hlt, e]
  ·intro hlt
   simp (disch := first | assumption | omega) only [S0, reduceIte, reduceCtorEq, reduceAdd, reduceEqDiff, Int.reduceBEq, reduceLT, reduceLE, hlt]
theorem spec_OnceOf (l : List TAsk) (hl : l.length ≤ 10000000000) : Fun T 39 [rL l] = some [rL (onceR l).1, .bool (onceR l).2] := by
 rw [Fun_k (t := tm39) rfl]; unfold tm39; unfold onceR
 cases h : asksOk l
 ·simp (disch := first | assumption | omega) only [S0, reduceIte, reduceCtorEq, reduceAdd, reduceEqDiff, Int.reduceBEq, reduceLT, reduceLE, spec_l15Asks, h, S_nil]
 ·obtain ⟨h1, h2⟩ := asksOk_spec h
  obtain ⟨-, k0⟩ := playN_len l l.length
  simp (disch := first | assumption | omega) only [S0, reduceIte, reduceCtorEq, reduceAdd, reduceEqDiff, Int.reduceBEq, reduceLT, reduceLE, spec_l15Asks, spec_l15Play, h]
  rw [loopN l.length (fun i => [rL (onceN l (playN l l.length).codes i), i64 i]) (.yield 1, [rL (onceN l (playN l l.length).codes l.length)]) rfl (by simp)]
  ·simp (disch := first | assumption | omega) only [S0, reduceIte, reduceCtorEq, reduceAdd, reduceEqDiff, Int.reduceBEq, reduceLT, reduceLE]
  ·intro i hi hlt
   have hb : InB l (i : Int) := InB_nat.2 hi
   have hb2 : InB (playN l l.length).codes (i : Int) := InB_nat.2 (by omega)
   have e : onceN l (playN l l.length).codes (i + 1) = if atI (playN l l.length).codes (i : Int) == 0 then onceN l (playN l l.length).codes i ++ [atI l (i : Int)] else onceN l (playN l l.length).codes i := rfl
   have k1 := onceN_len l (playN l l.length).codes i
   have z1 : (onceN l (playN l l.length).codes i).length + ([atI l (i : Int)] : List TAsk).length ≤ 100000000000 := by simp only [List.length_cons, List.length_nil]; omega
   have z2 : (Prim.mk 7 1).run [i64 (atI l (i : Int)).client, i64 (atI l (i : Int)).no, i64 (atI l (i : Int)).cmd.kind, i64 (atI l (i : Int)).cmd.id, i64 (atI l (i : Int)).cmd.src, i64 (atI l (i : Int)).cmd.dst, i64 (atI l (i : Int)).cmd.amt] = some [rL [atI l (i : Int)]] := rfl
   cases hc : atI (playN l l.length).codes (i : Int) == 0
   ·simp (disch := first | assumption | omega) only [S0, reduceIte, reduceCtorEq, reduceAdd, reduceEqDiff, Int.reduceBEq, reduceLT, reduceLE, S_row, S_app, hlt, e, hc, z2, Bool.false_eq_true]
   ·simp (disch := first | assumption | omega) only [S0, reduceIte, reduceCtorEq, reduceAdd, reduceEqDiff, Int.reduceBEq, reduceLT, reduceLE, S_row, S_app, hlt, e, hc, z2]
  ·intro hlt
   simp (disch := first | assumption | omega) only [S0, reduceIte, reduceCtorEq, reduceAdd, reduceEqDiff, Int.reduceBEq, reduceLT, reduceLE, hlt]
theorem impl_OnceOf (l : List TAsk) (hl : l.length ≤ 10000000000) : Fun T 38 [rL l] = some [rL (onceR l).1, .bool (onceR l).2] := by
 rw [Fun_k (t := tm38) rfl]; unfold tm38
 have e0 := impl_PlayAsks l hl
 unfold onceR
 unfold playR at e0
 cases h : asksOk l
 ·rw [h] at e0
  simp only [Bool.false_eq_true, if_false] at e0
  simp (disch := first | assumption | omega) only [S0, reduceIte, reduceCtorEq, reduceAdd, reduceEqDiff, Int.reduceBEq, reduceLT, reduceLE, e0, S_nil]
 ·rw [h] at e0
  simp only [if_true] at e0
  obtain ⟨h1, h2⟩ := asksOk_spec h
  obtain ⟨-, k0⟩ := playN_len l l.length
  have z0 : (Prim.mk 7 0).run [] = some [rL ([] : List TAsk)] := rfl
  simp (disch := first | assumption | omega) only [S0, reduceIte, reduceCtorEq, reduceAdd, reduceEqDiff, Int.reduceBEq, reduceLT, reduceLE, e0, z0]
  rw [loopN l.length (fun i => [rL (onceN l (playN l l.length).codes i), i64 i]) (.yield 1, [rL (onceN l (playN l l.length).codes l.length)]) rfl (by simp)]
  ·simp (disch := first | assumption | omega) only [S0, reduceIte, reduceCtorEq, reduceAdd, reduceEqDiff, Int.reduceBEq, reduceLT, reduceLE]
  ·intro i hi hlt
   have hb : InB l (i : Int) := InB_nat.2 hi
   have hb2 : InB (playN l l.length).codes (i : Int) := InB_nat.2 (by omega)
   have e : onceN l (playN l l.length).codes (i + 1) = if atI (playN l l.length).codes (i : Int) == 0 then onceN l (playN l l.length).codes i ++ [atI l (i : Int)] else onceN l (playN l l.length).codes i := rfl
   have k1 := onceN_len l (playN l l.length).codes i
   have z1 : (onceN l (playN l l.length).codes i).length + ([atI l (i : Int)] : List TAsk).length ≤ 100000000000 := by simp only [List.length_cons, List.length_nil]; omega
   have z2 : (Prim.mk 7 1).run [i64 (atI l (i : Int)).client, i64 (atI l (i : Int)).no, i64 (atI l (i : Int)).cmd.kind, i64 (atI l (i : Int)).cmd.id, i64 (atI l (i : Int)).cmd.src, i64 (atI l (i : Int)).cmd.dst, i64 (atI l (i : Int)).cmd.amt] = some [rL [atI l (i : Int)]] := rfl
   cases hc : atI (playN l l.length).codes (i : Int) == 0
   ·simp (disch := first | assumption | omega) only [S0, reduceIte, reduceCtorEq, reduceAdd, reduceEqDiff, Int.reduceBEq, reduceLT, reduceLE, S_row, S_app, hlt, e, hc, z2, Bool.false_eq_true]
   ·simp (disch := first | assumption | omega) only [S0, reduceIte, reduceCtorEq, reduceAdd, reduceEqDiff, Int.reduceBEq, reduceLT, reduceLE, S_row, S_app, hlt, e, hc, z2]
  ·intro hlt
   simp (disch := first | assumption | omega) only [S0, reduceIte, reduceCtorEq, reduceAdd, reduceEqDiff, Int.reduceBEq, reduceLT, reduceLE, hlt]
theorem cur_next (code : D) (hc : isBytes code) (a s : Int) (h0 : 0 ≤ a) (h1 : a ≤ 4611686018427387904) : ∃ v s', Fun T 5 [code, i64 a, u64 s] = some [i64 v, code, i64 (a + 1), u64 s'] ∧ 0 ≤ v ∧ v ≤ 255 := by
 rw [Fun_k (t := tm5) rfl]; unfold tm5
 obtain ⟨l1, l2⟩ := bytes_len hc
 by_cases hlt : a < (bLen code : Nat)
 ·obtain ⟨b1, b, b2, b3, b4⟩ := bytes_at hc h0 hlt
  have c8 := u8_conv b3 b4
  have d : decide (a < ((bLen code : Nat) : Int)) = true := by simpa using hlt
  have e : decide (a + 1 ≤ ((bLen code : Nat) : Int)) = true := by simp; omega
  simp (disch := first | assumption | omega) only [S0, reduceIte, reduceCtorEq, reduceAdd, reduceEqDiff, Int.reduceBEq, reduceLT, reduceLE, l1, b1, b2, c8, d, e, S_u64]
  exact ⟨_, _, rfl, b3, b4⟩
 ·have d : decide (a < ((bLen code : Nat) : Int)) = false := by simpa using hlt
  have e : decide (a + 1 ≤ ((bLen code : Nat) : Int)) = false := by simp; omega
  simp (disch := first | assumption | omega) only [S0, reduceIte, reduceCtorEq, reduceAdd, reduceEqDiff, Int.reduceBEq, reduceLT, reduceLE, l1, d, e, S_u64]
  exact ⟨_, _, rfl, (lowV_rng _).1, (lowV_rng _).2⟩
theorem cur_pick (code : D) (hc : isBytes code) (n a s : Int) (h0 : 0 ≤ a) (h1 : a ≤ 2305843009213693952) : ∃ v a' s', Fun T 4 [i64 n, code, i64 a, u64 s] = some [i64 v, code, i64 a', u64 s'] ∧ 0 ≤ v ∧ (1 ≤ n → v < n) ∧ a ≤ a' ∧ a' ≤ a + 2 := by
 rw [Fun_k (t := tm4) rfl]; unfold tm4
 by_cases hn : n ≤ 1
 ·have d : decide (n ≤ 1) = true := by simpa using hn
  simp (disch := first | assumption | omega) only [S0, reduceIte, reduceCtorEq, reduceAdd, reduceEqDiff, Int.reduceBEq, reduceLT, reduceLE, d]
  exact ⟨_, _, _, rfl, by omega, by omega, by omega, by omega⟩
 ·have d : decide (n ≤ 1) = false := by simpa using hn
  obtain ⟨v, s', e, v1, v2⟩ := cur_next code hc a s h0 (by omega)
  by_cases hn2 : 200 < n
  ·have d2 : decide (200 < n) = true := by simpa using hn2
   obtain ⟨w, s2, e2, w1, w2⟩ := cur_next code hc (a + 1) s' (by omega) (by omega)
   have r1 : (Prim.bin .mul).run [i64 v, i64 256] = some [i64 (v * 256)] := run_mulI (by omega) (by omega)
   have r2 := run_rem' (a := v * 256 + w) (b := n) (by omega) (by omega)
   simp (disch := first | assumption | omega) only [S0, reduceIte, reduceCtorEq, reduceAdd, reduceEqDiff, Int.reduceBEq, reduceLT, reduceLE, d, d2, e, e2, r1, r2]
   exact ⟨_, _, _, rfl, Int.emod_nonneg _ (by omega), fun _ => Int.emod_lt_of_pos _ (by omega), by omega, by omega⟩
  ·have d2 : decide (200 < n) = false := by simpa using hn2
   have r2 := run_rem' (a := v) (b := n) (by omega) (by omega)
   simp (disch := first | assumption | omega) only [S0, reduceIte, reduceCtorEq, reduceAdd, reduceEqDiff, Int.reduceBEq, reduceLT, reduceLE, d, d2, e, r2]
   exact ⟨_, _, _, rfl, Int.emod_nonneg _ (by omega), fun _ => Int.emod_lt_of_pos _ (by omega), by omega, by omega⟩
theorem cur_one (code : D) (hc : isBytes code) (n a s : Int) (h0 : 0 ≤ a) (h1 : a ≤ 2305843009213693952) : ∃ v a' s', Fun T 6 [i64 n, code, i64 a, u64 s] = some [.bool v, code, i64 a', u64 s'] ∧ a ≤ a' ∧ a' ≤ a + 2 := by
 rw [Fun_k (t := tm6) rfl]; unfold tm6
 obtain ⟨v, a', s', e, v1, v2, v3, v4⟩ := cur_pick code hc n a s h0 h1
 simp (disch := first | assumption | omega) only [S0, reduceIte, reduceCtorEq, reduceAdd, reduceEqDiff, Int.reduceBEq, reduceLT, reduceLE, e]
 exact ⟨_, _, _, rfl, v3, v4⟩
theorem cur_among (code : D) (hc : isBytes code) (xs : List Int) (a s : Int) (hx : 0 < xs.length) (hx2 : xs.length ≤ 10000000000) (h0 : 0 ≤ a) (h1 : a ≤ 2305843009213693952) : ∃ v a' s', Fun T 8 [rL xs, code, i64 a, u64 s] = some [i64 v, code, i64 a', u64 s'] ∧ v ∈ xs ∧ a ≤ a' ∧ a' ≤ a + 2 := by
 rw [Fun_k (t := tm8) rfl]; unfold tm8
 obtain ⟨v, a', s', e, v1, v2, v3, v4⟩ := cur_pick code hc xs.length a s h0 h1
 have hb : InB xs v := by unfold InB; omega
 simp (disch := first | assumption | omega) only [S0, reduceIte, reduceCtorEq, reduceAdd, reduceEqDiff, Int.reduceBEq, reduceLT, reduceLE, e, S_row]
 exact ⟨_, _, _, rfl, at_memI hb, v3, v4⟩
theorem cur_cmd (code : D) (hc : isBytes code) (a s : Int) (h0 : 0 ≤ a) (h1 : a ≤ 1152921504606846976) : ∃ (c : TCmd) (a' s' : Int), Fun T 7 [code, i64 a, u64 s] = some [i64 c.kind, i64 c.id, i64 c.src, i64 c.dst, i64 c.amt, code, i64 a', u64 s'] ∧ (1 ≤ c.amt → c.kind = 1) ∧ (0 ≤ c.amt ∧ c.amt ≤ 30) ∧ a ≤ a' ∧ a' ≤ a + 10 := by
 rw [Fun_k (t := tm7) rfl]; unfold tm7
 obtain ⟨v1, a1, s1, e1, p1, q1, g1, k1⟩ := cur_pick code hc 9 a s h0 (by omega)
 obtain ⟨v2, a2, s2, e2, p2, q2, g2, k2⟩ := cur_pick code hc 4 a1 s1 (by omega) (by omega)
 obtain ⟨v3, a3, s3, e3, p3, q3, g3, k3⟩ := cur_pick code hc 30 a2 s2 (by omega) (by omega)
 obtain ⟨v4, a4, s4, e4, p4, q4, g4, k4⟩ := cur_pick code hc 3 a3 s3 (by omega) (by omega)
 obtain ⟨v5, a5, s5, e5, g5, k5⟩ := cur_one code hc 4 a4 s4 (by omega) (by omega)
 have r2 := run_rem' (a := v2 + 1 + v4) (b := 4) (by omega) (by omega)
 have q1' := q1 (by omega)
 have q2' := q2 (by omega)
 have q3' := q3 (by omega)
 have q4' := q4 (by omega)
 cases v5
 ·simp (disch := first | assumption | omega) only [S0, reduceIte, reduceCtorEq, reduceAdd, reduceEqDiff, Int.reduceBEq, reduceLT, reduceLE, e1, e2, e3, e4, e5, r2]
  exact ⟨⟨_, _, _, _, _⟩, _, _, rfl, fun _ => rfl, by simp only; omega, by omega, by omega⟩
 ·simp (disch := first | assumption | omega) only [S0, reduceIte, reduceCtorEq, reduceAdd, reduceEqDiff, Int.reduceBEq, reduceLT, reduceLE, e1, e2, e3, e4, e5, r2]
  exact ⟨⟨_, _, _, _, _⟩, _, _, rfl, by simp only; omega, by simp only; omega, by omega, by omega⟩
theorem cur_asks (code : D) (hc : isBytes code) (a s : Int) (h0 : 0 ≤ a) (h1 : a ≤ 288230376151711744) : ∃ (l : List TAsk) (a' s' : Int), Fun T 3 [code, i64 a, u64 s] = some [rL l, code, i64 a', u64 s'] ∧ l.length ≤ 12 ∧ a ≤ a' ∧ a' ≤ a + 1000 := by
 rw [Fun_k (t := tm3) rfl]; unfold tm3
 obtain ⟨v1, a1, s1, e1, p1, q1, g1, k1⟩ := cur_pick code hc 12 a s h0 (by omega)
 have q1' := q1 (by omega)
 have z4 : (Prim.make 8 [(.int .i64 0)]).run [i64 4] = some [rL ([0, 0, 0, 0] : List Int)] := rfl
 simp (disch := first | assumption | omega) only [S0, reduceIte, reduceCtorEq, reduceAdd, reduceEqDiff, Int.reduceBEq, reduceLT, reduceLE, e1, z4]
 generalize hE : Er T (Tm.loop _ _) _ = E
 have key : ∃ q, E = some q ∧ ∃ (l : List TAsk) (a' s' : Int), q = (.yield 1, [rL l, code, i64 a', u64 s']) ∧ l.length ≤ 12 ∧ a ≤ a' ∧ a' ≤ a + 900 := by
  rw [← hE]
  refine loopEx (γ := Nat × Int × Int × List Int × List TAsk) (fun c => c.1) (fun c => c.1 ≤ 12 ∧ c.2.2.2.2.length + c.1 ≤ 12 ∧ c.2.2.2.1.length = 4 ∧ (∀ x ∈ c.2.2.2.1, 0 ≤ x ∧ x + c.1 ≤ 12) ∧ a1 ≤ c.2.1 ∧ c.2.1 + 50 * c.1 ≤ a1 + 600)
   (fun c => [rL c.2.2.2.2, rL c.2.2.2.1, i64 c.1, code, i64 c.2.1, u64 c.2.2.1]) _ (v1.toNat, a1, s1, [0, 0, 0, 0], []) ?_ ⟨by simp only; omega, by simp only [List.length_nil]; omega, rfl, by intro x hx; simp at hx; omega, by simp only; omega, by simp only; omega⟩ ?_
  ·show [_, _, i64 v1, code, i64 a1, u64 s1] = [_, _, i64 ((v1.toNat : Nat) : Int), code, i64 a1, u64 s1]
   rw [show ((v1.toNat : Nat) : Int) = v1 by omega]
   rfl
  rintro ⟨m, a2, s2, last, l⟩ ⟨h2, h3, h4, h5, h6, h7⟩
  simp only at h2 h3 h4 h5 h6 h7
  by_cases hm : 0 < m
  ·have d : decide (0 < (m : Int)) = true := by simpa using hm
   obtain ⟨k, a3, s3, e3, p3, q3, g3, k3⟩ := cur_pick code hc 4 a2 s2 (by omega) (by omega)
   have q3' := q3 (by omega)
   have hbk : InB last k := by unfold InB; omega
   left
   have fin : ∀ (x : TAsk) (last' : List Int) (a7 s7 : Int) (t : Option (Kind × List D)), last'.length = 4 → (∀ y ∈ last', 0 ≤ y ∧ y + (m - 1 : Nat) ≤ 12) → a3 ≤ a7 → a7 ≤ a3 + 40 → t = some (.cont, [rL (l ++ [x]), rL last', i64 ((m : Int) - 1), code, i64 a7, u64 s7]) → ∃ c' : Nat × Int × Int × List Int × List TAsk, t = some (.cont, [rL c'.2.2.2.2, rL c'.2.2.2.1, i64 c'.1, code, i64 c'.2.1, u64 c'.2.2.1]) ∧
     (c'.1 ≤ 12 ∧ c'.2.2.2.2.length + c'.1 ≤ 12 ∧ c'.2.2.2.1.length = 4 ∧ (∀ x ∈ c'.2.2.2.1, 0 ≤ x ∧ x + c'.1 ≤ 12) ∧ a1 ≤ c'.2.1 ∧ c'.2.1 + 50 * c'.1 ≤ a1 + 600) ∧ c'.1 < m := by
    intro x last' a7 s7 t hl hx g7 k7 ht
    refine ⟨(m - 1, a7, s7, last', l ++ [x]), by rw [ht]; simp only; rw [show ((m - 1 : Nat) : Int) = (m : Int) - 1 by omega], ⟨by simp only; omega, by simp; omega, hl, hx, by simp only; omega, by simp only; omega⟩, by simp only; omega⟩
   have zl : ∀ x : TAsk, l.length + ([x] : List TAsk).length ≤ 100000000000 := by intro x; simp only [List.length_cons, List.length_nil]; omega
   have z2 : ∀ x : TAsk, (Prim.mk 7 1).run [i64 x.client, i64 x.no, i64 x.cmd.kind, i64 x.cmd.id, i64 x.cmd.src, i64 x.cmd.dst, i64 x.cmd.amt] = some [rL [x]] := fun x => rfl
   have h5k := h5 _ (at_memI hbk)
   have eset : atI (setI last k (atI last k + 1)) k = atI last k + 1 := S_upd.1 hbk
   have hset : ∀ y ∈ setI last k (atI last k + 1), 0 ≤ y ∧ y + (m - 1 : Nat) ≤ 12 := by
    intro y hy
    rcases mem_setI hy with hy | rfl
    ·have := h5 y hy; omega
    ·omega
   have hbk2 : InB (setI last k (atI last k + 1)) k := by unfold InB; rw [setI_len]; omega
   have hnew : ∀ (a5 s5 : Int), a3 ≤ a5 → a5 ≤ a3 + 10 → ∃ (x : TAsk) (a7 s7 : Int), a3 ≤ a7 ∧ a7 ≤ a3 + 40 ∧ ∃ (c : TCmd) (a8 s8 : Int) (b : Bool) (a9 s9 v a10 s10 : Int), Fun T 7 [code, i64 a5, u64 s5] = some [i64 c.kind, i64 c.id, i64 c.src, i64 c.dst, i64 c.amt, code, i64 a8, u64 s8] ∧
     Fun T 6 [i64 12, code, i64 a8, u64 s8] = some [.bool b, code, i64 a9, u64 s9] ∧ Fun T 4 [i64 3, code, i64 a9, u64 s9] = some [i64 v, code, i64 a10, u64 s10] ∧ (0 ≤ v ∧ v < 3) ∧
     ((b = true ∧ x = ⟨k, atI last k + 1 + v, c⟩ ∧ a7 = a10 ∧ s7 = s10) ∨ (b = false ∧ x = ⟨k, atI last k + 1, c⟩ ∧ a7 = a9 ∧ s7 = s9)) := by
    intro a5 s5 g5 k5
    obtain ⟨c, a8, s8, e8, -, -, g8, k8⟩ := cur_cmd code hc a5 s5 (by omega) (by omega)
    obtain ⟨b, a9, s9, e9, g9, k9⟩ := cur_one code hc 12 a8 s8 (by omega) (by omega)
    obtain ⟨v, a10, s10, e10, p10, q10, g10, k10⟩ := cur_pick code hc 3 a9 s9 (by omega) (by omega)
    have q10' := q10 (by omega)
    cases b
    ·exact ⟨⟨k, atI last k + 1, c⟩, a9, s9, by omega, by omega, c, a8, s8, false, a9, s9, v, a10, s10, e8, e9, e10, ⟨p10, q10'⟩, .inr ⟨rfl, rfl, rfl, rfl⟩⟩
    ·exact ⟨⟨k, atI last k + 1 + v, c⟩, a10, s10, by omega, by omega, c, a8, s8, true, a9, s9, v, a10, s10, e8, e9, e10, ⟨p10, q10'⟩, .inl ⟨rfl, rfl, rfl, rfl⟩⟩
   by_cases hs : 0 < l.length
   ·have d2 : decide (0 < (l.length : Int)) = true := by simpa using hs
    obtain ⟨w4, a4, s4, e4, g4, k4⟩ := cur_one code hc 4 a3 s3 (by omega) (by omega)
    cases w4
    ·obtain ⟨x, a7, s7, g7, k7, c, a8, s8, b, a9, s9, v, a10, s10, e8, e9, e10, ⟨hv0, hv1⟩, hx⟩ := hnew a4 s4 (by omega) (by omega)
     refine fin x (setI last k (atI last k + 1)) a7 s7 _ (by rw [setI_len]; exact h4) hset g7 k7 ?_
     have zx := zl x
     have zz := z2 x
     rcases hx with ⟨rfl, rfl, rfl, rfl⟩ | ⟨rfl, rfl, rfl, rfl⟩
     ·simp only at zz
      simp (disch := first | assumption | omega) only [S0, reduceIte, reduceCtorEq, reduceAdd, reduceEqDiff, Int.reduceBEq, reduceLT, reduceLE, d, e3, d2, e4, S_row, S_set, eset, e8, e9, e10, zz, S_app]
     ·simp only at zz
      simp (disch := first | assumption | omega) only [S0, reduceIte, reduceCtorEq, reduceAdd, reduceEqDiff, Int.reduceBEq, reduceLT, reduceLE, d, e3, d2, e4, S_row, S_set, eset, e8, e9, zz, S_app]
    ·obtain ⟨v5, a5, s5, e5, p5, q5, g5, k5⟩ := cur_pick code hc l.length a4 s4 (by omega) (by omega)
     have q5' := q5 (by omega)
     have hb5 : InB l v5 := by unfold InB; omega
     refine fin (atI l v5) last a5 s5 _ h4 (fun y hy => by have := h5 y hy; omega) (by omega) (by omega) ?_
     have zx := zl (atI l v5)
     have zz := z2 (atI l v5)
     simp (disch := first | assumption | omega) only [S0, reduceIte, reduceCtorEq, reduceAdd, reduceEqDiff, Int.reduceBEq, reduceLT, reduceLE, d, e3, d2, e4, e5, S_row, zz, S_app]
   ·have d2 : decide (0 < (l.length : Int)) = false := by simpa using hs
    obtain ⟨x, a7, s7, g7, k7, c, a8, s8, b, a9, s9, v, a10, s10, e8, e9, e10, ⟨hv0, hv1⟩, hx⟩ := hnew a3 s3 (by omega) (by omega)
    refine fin x (setI last k (atI last k + 1)) a7 s7 _ (by rw [setI_len]; exact h4) hset g7 k7 ?_
    have zx := zl x
    have zz := z2 x
    rcases hx with ⟨rfl, rfl, rfl, rfl⟩ | ⟨rfl, rfl, rfl, rfl⟩
    ·simp only at zz
     simp (disch := first | assumption | omega) only [S0, reduceIte, reduceCtorEq, reduceAdd, reduceEqDiff, Int.reduceBEq, reduceLT, reduceLE, d, e3, d2, S_row, S_set, eset, e8, e9, e10, zz, S_app]
    ·simp only at zz
     simp (disch := first | assumption | omega) only [S0, reduceIte, reduceCtorEq, reduceAdd, reduceEqDiff, Int.reduceBEq, reduceLT, reduceLE, d, e3, d2, S_row, S_set, eset, e8, e9, zz, S_app]
  ·have d : decide (0 < (m : Int)) = false := by simpa using hm
   refine .inr ⟨(.yield 1, [rL l, code, i64 a2, u64 s2]), ?_, by simp, l, a2, s2, rfl, by omega, by omega, by omega⟩
   simp (disch := first | assumption | omega) only [S0, reduceIte, reduceCtorEq, reduceAdd, reduceEqDiff, Int.reduceBEq, reduceLT, reduceLE, d]
 obtain ⟨q, rfl, l, a2, s2, rfl, h2, h3, h4⟩ := key
 by_cases hs : 0 < l.length
 ·have d2 : decide (0 < (l.length : Int)) = true := by simpa using hs
  have hb : InB l 0 := by unfold InB; omega
  obtain ⟨w4, a4, s4, e4, g4, k4⟩ := cur_one code hc 30 a2 s2 (by omega) (by omega)
  cases w4
  ·simp (disch := first | assumption | omega) only [S0, reduceIte, reduceCtorEq, reduceAdd, reduceEqDiff, Int.reduceBEq, reduceLT, reduceLE, d2, e4]
   exact ⟨_, _, _, rfl, h2, by omega, by omega⟩
  ·obtain ⟨v5, a5, s5, e5, p5, g5, k5⟩ := cur_among code hc [-1, 4] a4 s4 (by simp) (by simp) (by omega) (by omega)
   simp (disch := first | assumption | omega) only [S0, reduceIte, reduceCtorEq, reduceAdd, reduceEqDiff, Int.reduceBEq, reduceLT, reduceLE, d2, e4, S_mk, e5, S_set]
   refine ⟨_, _, _, rfl, ?_, by omega, by omega⟩
   rw [setI_len]
   exact h2
 ·have d2 : decide (0 < (l.length : Int)) = false := by simpa using hs
  simp (disch := first | assumption | omega) only [S0, reduceIte, reduceCtorEq, reduceAdd, reduceEqDiff, Int.reduceBEq, reduceLT, reduceLE, d2]
  exact ⟨_, _, _, rfl, h2, by omega, by omega⟩
theorem drawPlayAsks (code : D) (hc : isBytes code) : ∃ (l : List TAsk), Fun T 2 [code] = some [rL l] ∧ l.length ≤ 12 := by
 rw [Fun_k (t := tm2) rfl]; unfold tm2
 obtain ⟨l, a1, s1, e1, p1, g1, k1⟩ := cur_asks code hc 0 0 (by omega) (by omega)
 have u0 : D.int .u64 0 = u64 0 := rfl
 simp (disch := first | assumption | omega) only [S0, reduceIte, reduceCtorEq, reduceAdd, reduceEqDiff, Int.reduceBEq, reduceLT, reduceLE, e1, u0]
 exact ⟨_, rfl, p1⟩
theorem cur_clerk (code : D) (hc : isBytes code) (a s : Int) (h0 : 0 ≤ a) (h1 : a ≤ 144115188075855872) : ∃ (c : TClerk) (a' s' : Int), Fun T 64 [code, i64 a, u64 s] = some [rL c.sums, rL c.last, rL c.told, code, i64 a', u64 s'] ∧ c.sums.length ≤ 4 ∧ c.last.length ≤ 4 ∧ c.told.length ≤ 4 ∧ (∀ x ∈ c.last, -1 ≤ x ∧ x ≤ 1000) ∧ a ≤ a' ∧ a' ≤ a + 2000 := by
 rw [Fun_k (t := tm64) rfl]; unfold tm64
 obtain ⟨l, a1, s1, e1, p1, g1, k1⟩ := cur_asks code hc a s h0 (by omega)
 have hl : l.length ≤ 10000000000 := by omega
 have e2 := spec_PlayAsks l hl
 cases hok : asksOk l
 ·have e3 : playR l = (⟨⟨[], [], []⟩, [], []⟩, false) := by unfold playR; rw [hok]; rfl
  rw [e3] at e2
  simp only at e2
  simp (disch := first | assumption | omega) only [S0, reduceIte, reduceCtorEq, reduceAdd, reduceEqDiff, Int.reduceBEq, reduceLT, reduceLE, e1, e2]
  exact ⟨⟨[], [], []⟩, _, _, rfl, by simp, by simp, by simp, by simp, by omega, by omega⟩
 ·obtain ⟨x1, x2⟩ := asksOk_spec hok
  have e3 : playR l = (playN l l.length, true) := by unfold playR; rw [hok]; rfl
  obtain ⟨i1, i2, i3, i4, i5⟩ := playN_inv x1 l.length (Nat.le_refl _)
  rw [e3] at e2
  simp only at e2
  generalize (playN l l.length).c = c at e2 i1 i2 i3 i4 i5
  obtain ⟨v3, a3, s3, e4, p4, q4, g4, k4⟩ := cur_pick code hc 20 a1 s1 (by omega) (by omega)
  have i5' : ∀ x ∈ c.last, -1 ≤ x ∧ x ≤ 1000 := fun x hx => by have := i5 x hx; omega
  have hb1 : InB c.last 0 := by unfold InB; omega
  have hb2 : InB c.told 0 := by unfold InB; omega
  cases c1 : v3 == 0
  ·cases c2 : v3 == 1
   ·simp (disch := first | assumption | omega) only [S0, reduceIte, reduceCtorEq, reduceAdd, reduceEqDiff, Int.reduceBEq, reduceLT, reduceLE, e1, e2, e4, c1, c2]
    exact ⟨⟨_, _, _⟩, _, _, rfl, by simp only; omega, by simp only; omega, by simp only; omega, i5', by omega, by omega⟩
   ·obtain ⟨v5, a5, s5, e5, p5, q5, g5, k5⟩ := cur_pick code hc 5 a3 s3 (by omega) (by omega)
    obtain ⟨v6, a6, s6, e6, p6, q6, g6, k6⟩ := cur_pick code hc 2 a5 s5 (by omega) (by omega)
    simp (disch := first | assumption | omega) only [S0, reduceIte, reduceCtorEq, reduceAdd, reduceEqDiff, Int.reduceBEq, reduceLT, reduceLE, e1, e2, e4, c1, c2, e5, e6, S_set]
    exact ⟨⟨c.sums, c.last, setI c.told 0 ⟨v5, v6⟩⟩, a6, s6, rfl, by show c.sums.length ≤ 4; omega, by show c.last.length ≤ 4; omega, by show (setI c.told 0 _).length ≤ 4; rw [setI_len]; omega, i5', by omega, by omega⟩
  ·obtain ⟨v5, a5, s5, e5, p5, g5, k5⟩ := cur_among code hc [-1, 999, 1000] a3 s3 (by simp) (by simp) (by omega) (by omega)
   simp (disch := first | assumption | omega) only [S0, reduceIte, reduceCtorEq, reduceAdd, reduceEqDiff, Int.reduceBEq, reduceLT, reduceLE, e1, e2, e4, c1, e5, S_mk, S_set]
   refine ⟨⟨c.sums, setI c.last 0 v5, c.told⟩, a5, s5, rfl, by show c.sums.length ≤ 4; omega, by show (setI c.last 0 _).length ≤ 4; rw [setI_len]; omega, by show c.told.length ≤ 4; omega, ?_, by omega, by omega⟩
   intro x hx
   rcases mem_setI hx with hx | rfl
   ·exact i5' x hx
   ·simp at p5; omega
theorem cur_anyCmd (code : D) (hc : isBytes code) (a s : Int) (h0 : 0 ≤ a) (h1 : a ≤ 288230376151711744) : ∃ (c : TCmd) (a' s' : Int), Fun T 65 [code, i64 a, u64 s] = some [i64 c.kind, i64 c.id, i64 c.src, i64 c.dst, i64 c.amt, code, i64 a', u64 s'] ∧ a ≤ a' ∧ a' ≤ a + 20 := by
 rw [Fun_k (t := tm65) rfl]; unfold tm65
 obtain ⟨c, a1, s1, e1, -, -, g1, k1⟩ := cur_cmd code hc a s h0 (by omega)
 obtain ⟨v2, a2, s2, e2, p2, q2, g2, k2⟩ := cur_pick code hc 20 a1 s1 (by omega) (by omega)
 cases c0 : v2 == 0
 rotate_left
 ·simp (disch := first | assumption | omega) only [S0, reduceIte, reduceCtorEq, reduceAdd, reduceEqDiff, Int.reduceBEq, reduceLT, reduceLE, e1, e2, c0]
  exact ⟨⟨0, 0, 0, 0, 0⟩, _, _, rfl, by omega, by omega⟩
 cases c1 : v2 == 1
 rotate_left
 ·simp (disch := first | assumption | omega) only [S0, reduceIte, reduceCtorEq, reduceAdd, reduceEqDiff, Int.reduceBEq, reduceLT, reduceLE, e1, e2, c0, c1]
  exact ⟨⟨c.kind, c.id, c.src, c.src, c.amt⟩, a2, s2, rfl, by omega, by omega⟩
 cases c2 : v2 == 2
 rotate_left
 ·obtain ⟨v3, a3, s3, e3, p3, g3, k3⟩ := cur_among code hc [0, 999, 1000] a2 s2 (by simp) (by simp) (by omega) (by omega)
  simp (disch := first | assumption | omega) only [S0, reduceIte, reduceCtorEq, reduceAdd, reduceEqDiff, Int.reduceBEq, reduceLT, reduceLE, e1, e2, c0, c1, c2, S_mk, e3]
  exact ⟨⟨c.kind, v3, c.src, c.dst, c.amt⟩, a3, s3, rfl, by omega, by omega⟩
 cases c3 : v2 == 3
 rotate_left
 ·obtain ⟨v3, a3, s3, e3, p3, g3, k3⟩ := cur_among code hc [0, 1000, 1001] a2 s2 (by simp) (by simp) (by omega) (by omega)
  simp (disch := first | assumption | omega) only [S0, reduceIte, reduceCtorEq, reduceAdd, reduceEqDiff, Int.reduceBEq, reduceLT, reduceLE, e1, e2, c0, c1, c2, c3, S_mk, e3]
  exact ⟨⟨c.kind, c.id, c.src, c.dst, v3⟩, a3, s3, rfl, by omega, by omega⟩
 cases c4 : v2 == 4
 rotate_left
 ·obtain ⟨v3, a3, s3, e3, p3, g3, k3⟩ := cur_among code hc [-1, 4] a2 s2 (by simp) (by simp) (by omega) (by omega)
  simp (disch := first | assumption | omega) only [S0, reduceIte, reduceCtorEq, reduceAdd, reduceEqDiff, Int.reduceBEq, reduceLT, reduceLE, e1, e2, c0, c1, c2, c3, c4, S_mk, e3]
  exact ⟨⟨c.kind, c.id, v3, c.dst, c.amt⟩, a3, s3, rfl, by omega, by omega⟩
 cases c5 : v2 == 5
 ·simp (disch := first | assumption | omega) only [S0, reduceIte, reduceCtorEq, reduceAdd, reduceEqDiff, Int.reduceBEq, reduceLT, reduceLE, e1, e2, c0, c1, c2, c3, c4, c5]
  exact ⟨c, a2, s2, rfl, by omega, by omega⟩
 ·obtain ⟨v3, a3, s3, e3, p3, q3, g3, k3⟩ := cur_pick code hc 4 a2 s2 (by omega) (by omega)
  simp (disch := first | assumption | omega) only [S0, reduceIte, reduceCtorEq, reduceAdd, reduceEqDiff, Int.reduceBEq, reduceLT, reduceLE, e1, e2, c0, c1, c2, c3, c4, c5, e3]
  exact ⟨⟨v3, c.id, c.src, c.dst, c.amt⟩, a3, s3, rfl, by omega, by omega⟩
theorem drawServeAsk (code : D) (hc : isBytes code) : ∃ (c : TClerk) (q : TAsk), Fun T 63 [code] = some [rL c.sums, rL c.last, rL c.told, i64 q.client, i64 q.no, i64 q.cmd.kind, i64 q.cmd.id, i64 q.cmd.src, i64 q.cmd.dst, i64 q.cmd.amt] ∧ c.sums.length ≤ 4 ∧ c.last.length ≤ 4 ∧ c.told.length ≤ 4 := by
 rw [Fun_k (t := tm63) rfl]; unfold tm63
 obtain ⟨c, a1, s1, e1, p1, p2, p3, p4, g1, k1⟩ := cur_clerk code hc 0 0 (by omega) (by omega)
 obtain ⟨v2, a2, s2, e2, w2, q2, g2, k2⟩ := cur_pick code hc 4 a1 s1 (by omega) (by omega)
 obtain ⟨v3, a3, s3, e3, w3, q3, g3, k3⟩ := cur_pick code hc 3 a2 s2 (by omega) (by omega)
 obtain ⟨x, a4, s4, e4, g4, k4⟩ := cur_anyCmd code hc a3 s3 (by omega) (by omega)
 have q2' := q2 (by omega)
 have q3' := q3 (by omega)
 have u0 : D.int .u64 0 = u64 0 := rfl
 cases hl : (c.last.length : Int) == 4
 ·simp (disch := first | assumption | omega) only [S0, reduceIte, reduceCtorEq, reduceAdd, reduceEqDiff, Int.reduceBEq, reduceLT, reduceLE, e1, e2, e3, e4, u0, hl]
  exact ⟨c, ⟨v2, 1 + v3, x⟩, rfl, p1, p2, p3⟩
 ·have hl' : (c.last.length : Int) = 4 := by simpa using hl
  have hb : InB c.last v2 := by unfold InB; omega
  have hv := p4 _ (at_memI hb)
  obtain ⟨b, a5, s5, e5, g5, k5⟩ := cur_one code hc 2 a4 s4 (by omega) (by omega)
  cases b
  ·simp (disch := first | assumption | omega) only [S0, reduceIte, reduceCtorEq, reduceAdd, reduceEqDiff, Int.reduceBEq, reduceLT, reduceLE, e1, e2, e3, e4, u0, hl, e5]
   exact ⟨c, ⟨v2, 1 + v3, x⟩, rfl, p1, p2, p3⟩
  ·simp (disch := first | assumption | omega) only [S0, reduceIte, reduceCtorEq, reduceAdd, reduceEqDiff, Int.reduceBEq, reduceLT, reduceLE, e1, e2, e3, e4, u0, hl, e5, S_row]
   exact ⟨c, ⟨v2, atI c.last v2 + 1, x⟩, rfl, p1, p2, p3⟩
theorem drawSameClerk (code : D) (hc : isBytes code) : ∃ (c d : TClerk), Fun T 71 [code] = some [rL c.sums, rL c.last, rL c.told, rL d.sums, rL d.last, rL d.told] ∧ (c.sums.length ≤ 4 ∧ c.last.length ≤ 4 ∧ c.told.length ≤ 4) := by
 rw [Fun_k (t := tm71) rfl]; unfold tm71
 obtain ⟨c, a1, s1, e1, p1, p2, p3, p4, g1, k1⟩ := cur_clerk code hc 0 0 (by omega) (by omega)
 obtain ⟨b, a2, s2, e2, g2, k2⟩ := cur_one code hc 2 a1 s1 (by omega) (by omega)
 have u0 : D.int .u64 0 = u64 0 := rfl
 have l1 : c.sums.length ≤ 10000000000 := by omega
 have l2 : c.last.length ≤ 10000000000 := by omega
 have l3 : c.told.length ≤ 10000000000 := by omega
 cases b
 ·obtain ⟨d, a3, s3, e3, -, -, -, -, g3, k3⟩ := cur_clerk code hc a2 s2 (by omega) (by omega)
  simp (disch := first | assumption | omega) only [S0, reduceIte, reduceCtorEq, reduceAdd, reduceEqDiff, Int.reduceBEq, reduceLT, reduceLE, e1, e2, e3, u0]
  exact ⟨_, _, rfl, p1, p2, p3⟩
 ·simp (disch := first | assumption | omega) only [S0, reduceIte, reduceCtorEq, reduceAdd, reduceEqDiff, Int.reduceBEq, reduceLT, reduceLE, e1, e2, spec_l15Own, u0]
  exact ⟨c, c, rfl, p1, p2, p3⟩
theorem laws_big (code more : D) (hc : isBytes code) (hm : isBytes more) : ∃ b, Fun T 1 [code, more] = some [.bool b] := by
 rw [Fun_k (t := tm1) rfl]; unfold tm1
 obtain ⟨l1, l2⟩ := bytes_len hc
 obtain ⟨l3, l4⟩ := bytes_len hm
 cases d : decide (1048576 < ((bLen code : Nat) : Int))
 ·simp (disch := first | assumption | omega) only [S0, reduceIte, reduceCtorEq, reduceAdd, reduceEqDiff, Int.reduceBEq, reduceLT, reduceLE, l1, l3, d]
  exact ⟨_, rfl⟩
 ·simp (disch := first | assumption | omega) only [S0, reduceIte, reduceCtorEq, reduceAdd, reduceEqDiff, Int.reduceBEq, reduceLT, reduceLE, l1, l3, d]
  exact ⟨_, rfl⟩
theorem same_ints (xs ys : List Int) (hx : xs.length ≤ 1099511627776) : Fun T 41 [rL xs, rL ys] = some [.bool (decide (xs = ys))] := by
 rw [Fun_k (t := tm41) rfl]; unfold tm41
 by_cases hl : ys.length = xs.length
 ·have e1 : ((xs.length : Int) == ys.length) = true := by simp [hl]
  simp (disch := first | assumption | omega) only [S0, reduceIte, reduceCtorEq, reduceAdd, reduceEqDiff, Int.reduceBEq, reduceLT, reduceLE, e1]
  rw [scanF 1 xs.length (fun i => decide (atI xs (i : Int) = atI ys (i : Int))) [.bool false], allB_eq hl.symm]
  ·cases decide (xs = ys) <;> simp (disch := first | assumption | omega) only [S0, reduceIte, reduceCtorEq, reduceAdd, reduceEqDiff, Int.reduceBEq, reduceLT, reduceLE]
  ·intro i hi hlt
   have hb : InB xs (i : Int) := InB_nat.2 hi
   have hb2 : InB ys (i : Int) := InB_nat.2 (by omega)
   have e : (!(atI xs (i : Int) == atI ys (i : Int))) = !decide (atI xs (i : Int) = atI ys (i : Int)) := by rw [Bool.beq_eq_decide_eq]
   (refine fork_in ?_; repeat' (refine fork_eq (fun _ => ?_) (fun _ => ?_) <;> try simp (disch := first | assumption | omega) only [S0, reduceIte, reduceCtorEq, reduceAdd, reduceEqDiff, Int.reduceBEq, reduceLT, reduceLE, S_row, hlt, e, *]))
  ·intro hlt
   simp (disch := first | assumption | omega) only [S0, reduceIte, reduceCtorEq, reduceAdd, reduceEqDiff, Int.reduceBEq, reduceLT, reduceLE, hlt]
 ·have e1 : ((xs.length : Int) == ys.length) = false := by simp; omega
  rw [eq_len (fun e => hl e.symm)]
  simp (disch := first | assumption | omega) only [S0, reduceIte, reduceCtorEq, reduceAdd, reduceEqDiff, Int.reduceBEq, reduceLT, reduceLE, e1]
theorem same_tolds (xs ys : List TTold) (hx : xs.length ≤ 1099511627776) : Fun T 42 [rL xs, rL ys] = some [.bool (decide (xs = ys))] := by
 rw [Fun_k (t := tm42) rfl]; unfold tm42
 by_cases hl : ys.length = xs.length
 ·have e1 : ((xs.length : Int) == ys.length) = true := by simp [hl]
  simp (disch := first | assumption | omega) only [S0, reduceIte, reduceCtorEq, reduceAdd, reduceEqDiff, Int.reduceBEq, reduceLT, reduceLE, e1]
  rw [scanF 1 xs.length (fun i => decide (atI xs (i : Int) = atI ys (i : Int))) [.bool false], allB_eq hl.symm]
  ·cases decide (xs = ys) <;> simp (disch := first | assumption | omega) only [S0, reduceIte, reduceCtorEq, reduceAdd, reduceEqDiff, Int.reduceBEq, reduceLT, reduceLE]
  ·intro i hi hlt
   have hb : InB xs (i : Int) := InB_nat.2 hi
   have hb2 : InB ys (i : Int) := InB_nat.2 (by omega)
   have z : (Prim.eqs [0, 0]).run [i64 (atI xs (i : Int)).code, i64 (atI xs (i : Int)).sum, i64 (atI ys (i : Int)).code, i64 (atI ys (i : Int)).sum] = some [.bool (decide (atI xs (i : Int) = atI ys (i : Int)))] := eqs_told _ _
   (refine fork_in ?_; repeat' (refine fork_eq (fun _ => ?_) (fun _ => ?_) <;> try simp (disch := first | assumption | omega) only [S0, reduceIte, reduceCtorEq, reduceAdd, reduceEqDiff, Int.reduceBEq, reduceLT, reduceLE, S_row, z, hlt, *]))
  ·intro hlt
   simp (disch := first | assumption | omega) only [S0, reduceIte, reduceCtorEq, reduceAdd, reduceEqDiff, Int.reduceBEq, reduceLT, reduceLE, hlt]
 ·have e1 : ((xs.length : Int) == ys.length) = false := by simp; omega
  rw [eq_len (fun e => hl e.symm)]
  simp (disch := first | assumption | omega) only [S0, reduceIte, reduceCtorEq, reduceAdd, reduceEqDiff, Int.reduceBEq, reduceLT, reduceLE, e1]
theorem same_clerk (x_sums x_last : (List Int)) (x_told : (List TTold)) (y_sums y_last : (List Int)) (y_told : (List TTold)) (h1 : x_sums.length ≤ 1099511627776) (h2 : x_last.length ≤ 1099511627776) (h3 : x_told.length ≤ 1099511627776) : Fun T 40 [rL x_sums, rL x_last, rL x_told, rL y_sums, rL y_last, rL y_told] = some [.bool (decide ((⟨x_sums, x_last, x_told⟩ : TClerk) = ⟨y_sums, y_last, y_told⟩))] := by
 rw [Fun_k (t := tm40) rfl]; unfold tm40
 have e : decide ((⟨x_sums, x_last, x_told⟩ : TClerk) = ⟨y_sums, y_last, y_told⟩) = (decide (x_sums = y_sums) && (decide (x_last = y_last) && decide (x_told = y_told))) := by simp only [TClerk.mk.injEq, Bool.decide_and]
 rw [e]
 cases k1 : decide (x_sums = y_sums)
 ·simp (disch := first | assumption | omega) only [S0, reduceIte, reduceCtorEq, reduceAdd, reduceEqDiff, Int.reduceBEq, reduceLT, reduceLE, same_ints, k1]
 cases k2 : decide (x_last = y_last)
 ·simp (disch := first | assumption | omega) only [S0, reduceIte, reduceCtorEq, reduceAdd, reduceEqDiff, Int.reduceBEq, reduceLT, reduceLE, same_ints, k1, k2]
 ·simp (disch := first | assumption | omega) only [S0, reduceIte, reduceCtorEq, reduceAdd, reduceEqDiff, Int.reduceBEq, reduceLT, reduceLE, same_ints, same_tolds, k1, k2]
theorem slices_Equal_Told (xs ys : List TTold) (hx : xs.length ≤ 1099511627776) : Fun T 45 [rL xs, rL ys] = some [.bool (decide (xs = ys))] := by
 rw [Fun_k (t := tm45) rfl]; unfold tm45
 by_cases hl : ys.length = xs.length
 ·have e1 : ((xs.length : Int) == ys.length) = true := by simp [hl]
  simp (disch := first | assumption | omega) only [S0, reduceIte, reduceCtorEq, reduceAdd, reduceEqDiff, Int.reduceBEq, reduceLT, reduceLE, e1]
  rw [scanF 1 xs.length (fun i => decide (atI xs (i : Int) = atI ys (i : Int))) [.bool false], allB_eq hl.symm]
  ·cases decide (xs = ys) <;> simp (disch := first | assumption | omega) only [S0, reduceIte, reduceCtorEq, reduceAdd, reduceEqDiff, Int.reduceBEq, reduceLT, reduceLE]
  ·intro i hi hlt
   have hb : InB xs (i : Int) := InB_nat.2 hi
   have hb2 : InB ys (i : Int) := InB_nat.2 (by omega)
   have z : (Prim.eqs [0, 0]).run [i64 (atI xs (i : Int)).code, i64 (atI xs (i : Int)).sum, i64 (atI ys (i : Int)).code, i64 (atI ys (i : Int)).sum] = some [.bool (decide (atI xs (i : Int) = atI ys (i : Int)))] := eqs_told _ _
   (refine fork_in ?_; repeat' (refine fork_eq (fun _ => ?_) (fun _ => ?_) <;> try simp (disch := first | assumption | omega) only [S0, reduceIte, reduceCtorEq, reduceAdd, reduceEqDiff, Int.reduceBEq, reduceLT, reduceLE, S_row, z, hlt, *]))
  ·intro hlt
   simp (disch := first | assumption | omega) only [S0, reduceIte, reduceCtorEq, reduceAdd, reduceEqDiff, Int.reduceBEq, reduceLT, reduceLE, hlt]
 ·have e1 : ((xs.length : Int) == ys.length) = false := by simp; omega
  rw [eq_len (fun e => hl e.symm)]
  simp (disch := first | assumption | omega) only [S0, reduceIte, reduceCtorEq, reduceAdd, reduceEqDiff, Int.reduceBEq, reduceLT, reduceLE, e1]
theorem impl_SameClerk' (x_sums x_last : (List Int)) (x_told : (List TTold)) (y_sums y_last : (List Int)) (y_told : (List TTold)) (h1 : x_sums.length ≤ 1099511627776) (h2 : x_last.length ≤ 1099511627776) (h3 : x_told.length ≤ 1099511627776) : Fun T 43 [rL x_sums, rL x_last, rL x_told, rL y_sums, rL y_last, rL y_told] = some [.bool (decide ((⟨x_sums, x_last, x_told⟩ : TClerk) = ⟨y_sums, y_last, y_told⟩))] := by
 rw [Fun_k (t := tm43) rfl]; unfold tm43
 have e : decide ((⟨x_sums, x_last, x_told⟩ : TClerk) = ⟨y_sums, y_last, y_told⟩) = (decide (x_sums = y_sums) && (decide (x_last = y_last) && decide (x_told = y_told))) := by simp only [TClerk.mk.injEq, Bool.decide_and]
 rw [e]
 cases k1 : decide (x_sums = y_sums)
 ·simp (disch := first | assumption | omega) only [S0, reduceIte, reduceCtorEq, reduceAdd, reduceEqDiff, Int.reduceBEq, reduceLT, reduceLE, slices_Equal_int, k1]
 cases k2 : decide (x_last = y_last)
 ·simp (disch := first | assumption | omega) only [S0, reduceIte, reduceCtorEq, reduceAdd, reduceEqDiff, Int.reduceBEq, reduceLT, reduceLE, slices_Equal_int, k1, k2]
 ·simp (disch := first | assumption | omega) only [S0, reduceIte, reduceCtorEq, reduceAdd, reduceEqDiff, Int.reduceBEq, reduceLT, reduceLE, slices_Equal_int, slices_Equal_Told, k1, k2]
theorem spec_SameClerk' (x_sums x_last : (List Int)) (x_told : (List TTold)) (y_sums y_last : (List Int)) (y_told : (List TTold)) (h1 : x_sums.length ≤ 1099511627776) (h2 : x_last.length ≤ 1099511627776) (h3 : x_told.length ≤ 1099511627776) : Fun T 72 [rL x_sums, rL x_last, rL x_told, rL y_sums, rL y_last, rL y_told] = some [.bool (decide ((⟨x_sums, x_last, x_told⟩ : TClerk) = ⟨y_sums, y_last, y_told⟩))] := by
 rw [Fun_k (t := tm72) rfl]; unfold tm72
 have e : decide ((⟨x_sums, x_last, x_told⟩ : TClerk) = ⟨y_sums, y_last, y_told⟩) = (decide (x_sums = y_sums) && (decide (x_last = y_last) && decide (x_told = y_told))) := by simp only [TClerk.mk.injEq, Bool.decide_and]
 rw [e]
 cases k1 : decide (x_sums = y_sums)
 ·simp (disch := first | assumption | omega) only [S0, reduceIte, reduceCtorEq, reduceAdd, reduceEqDiff, Int.reduceBEq, reduceLT, reduceLE, spec_l1Same, k1]
 cases k2 : decide (x_last = y_last)
 ·simp (disch := first | assumption | omega) only [S0, reduceIte, reduceCtorEq, reduceAdd, reduceEqDiff, Int.reduceBEq, reduceLT, reduceLE, spec_l1Same, k1, k2]
 by_cases hl : y_told.length = x_told.length
 ·have e1 : ((x_told.length : Int) == y_told.length) = true := by simp [hl]
  simp (disch := first | assumption | omega) only [S0, reduceIte, reduceCtorEq, reduceAdd, reduceEqDiff, Int.reduceBEq, reduceLT, reduceLE, spec_l1Same, k1, k2, e1]
  rw [scanF 1 x_told.length (fun i => decide (atI x_told (i : Int) = atI y_told (i : Int))) [.bool false], allB_eq hl.symm]
  ·cases decide (x_told = y_told) <;> simp (disch := first | assumption | omega) only [S0, reduceIte, reduceCtorEq, reduceAdd, reduceEqDiff, Int.reduceBEq, reduceLT, reduceLE]
  ·intro i hi hlt
   have hb : InB x_told (i : Int) := InB_nat.2 hi
   have hb2 : InB y_told (i : Int) := InB_nat.2 (by omega)
   have z : (Prim.eqs [0, 0]).run [i64 (atI x_told (i : Int)).code, i64 (atI x_told (i : Int)).sum, i64 (atI y_told (i : Int)).code, i64 (atI y_told (i : Int)).sum] = some [.bool (decide (atI x_told (i : Int) = atI y_told (i : Int)))] := eqs_told _ _
   (refine fork_in ?_; repeat' (refine fork_eq (fun _ => ?_) (fun _ => ?_) <;> try simp (disch := first | assumption | omega) only [S0, reduceIte, reduceCtorEq, reduceAdd, reduceEqDiff, Int.reduceBEq, reduceLT, reduceLE, S_row, z, hlt, *]))
  ·intro hlt
   simp (disch := first | assumption | omega) only [S0, reduceIte, reduceCtorEq, reduceAdd, reduceEqDiff, Int.reduceBEq, reduceLT, reduceLE, hlt]
 ·have e1 : ((x_told.length : Int) == y_told.length) = false := by simp; omega
  rw [eq_len (fun e => hl e.symm)]
  simp (disch := first | assumption | omega) only [S0, reduceIte, reduceCtorEq, reduceAdd, reduceEqDiff, Int.reduceBEq, reduceLT, reduceLE, spec_l1Same, k1, k2, e1]
theorem impl_goodCmds_1 (c_kind c_id c_src c_dst c_amt : Int) : Fun T 57 [i64 c_kind, i64 c_id, i64 c_src, i64 c_dst, i64 c_amt] = some [.bool (!cmdOk ⟨c_kind, c_id, c_src, c_dst, c_amt⟩)] := by
 rw [Fun_k (t := tm57) rfl]; unfold tm57
 (refine fork_in ?_; repeat' (refine fork_eq (fun _ => ?_) (fun _ => ?_) <;> try simp (disch := first | assumption | omega) only [S0, reduceIte, reduceCtorEq, reduceAdd, reduceEqDiff, Int.reduceBEq, reduceLT, reduceLE, impl_GoodCmd, *]))
theorem ix_goodCmds_1  (xs : List TCmd) (hx : xs.length ≤ 1099511627776) : Fun T 56 [rL xs] = some [i64 (ixF (fun x => !cmdOk x) xs)] := by
 rw [Fun_k (t := tm56) rfl]; unfold tm56
 simp (disch := first | assumption | omega) only [S0, reduceIte, reduceCtorEq, reduceAdd, reduceEqDiff, Int.reduceBEq, reduceLT, reduceLE, S_row, *]
 rw [findX 1 xs (fun x => !cmdOk x) (fun i => [i64 i])]
 ·cases h : xs.any (fun x => !cmdOk x)
  ·have e : ixF (fun x => !cmdOk x) xs = -1 := by
    have h2 := ixF_any (fun x => !cmdOk x) xs
    rw [h] at h2
    unfold ixF at h2 ⊢
    split at h2 <;> simp_all
   rw [e]; simp (disch := first | assumption | omega) only [S0, reduceIte, reduceCtorEq, reduceAdd, reduceEqDiff, Int.reduceBEq, reduceLT, reduceLE]
  ·simp (disch := first | assumption | omega) only [S0, reduceIte, reduceCtorEq, reduceAdd, reduceEqDiff, Int.reduceBEq, reduceLT, reduceLE]
 ·intro i hi hb hl hp
  (refine fork_in ?_; repeat' (refine fork_eq (fun _ => ?_) (fun _ => ?_) <;> try simp (disch := first | assumption | omega) only [S0, reduceIte, reduceCtorEq, reduceAdd, reduceEqDiff, Int.reduceBEq, reduceLT, reduceLE, S_row, impl_goodCmds_1, *]))
 ·intro i hi hb hl hp
  (refine fork_in ?_; repeat' (refine fork_eq (fun _ => ?_) (fun _ => ?_) <;> try simp (disch := first | assumption | omega) only [S0, reduceIte, reduceCtorEq, reduceAdd, reduceEqDiff, Int.reduceBEq, reduceLT, reduceLE, S_row, impl_goodCmds_1, *]))
 ·intro hl
  (refine fork_in ?_; repeat' (refine fork_eq (fun _ => ?_) (fun _ => ?_) <;> try simp (disch := first | assumption | omega) only [S0, reduceIte, reduceCtorEq, reduceAdd, reduceEqDiff, Int.reduceBEq, reduceLT, reduceLE, *]))
theorem ct_goodCmds_1  (xs : List TCmd) (hx : xs.length ≤ 1099511627776) : Fun T 55 [rL xs] = some [.bool (xs.any (fun x => !cmdOk x))] := by
 rw [Fun_k (t := tm55) rfl]; unfold tm55
 (refine fork_in ?_; repeat' (refine fork_eq (fun _ => ?_) (fun _ => ?_) <;> try simp (disch := first | assumption | omega) only [S0, reduceIte, reduceCtorEq, reduceAdd, reduceEqDiff, Int.reduceBEq, reduceLT, reduceLE, ix_goodCmds_1, ixF_any, *]))
theorem impl_NewSums : Fun T 18 [] = some [rL ([100, 100, 100, 100] : List Int)] := Fun_some.2 ⟨12, by kernel_rfl⟩
theorem impl_playCmds (l : List TCmd) (hq : ∀ c ∈ l, cmdOk c = true) (hl : l.length ≤ 60) : Fun T 58 [rL l] = some [rL (playC l l.length).1, rL (playC l l.length).2] := by
 rw [Fun_k (t := tm58) rfl]; unfold tm58
 have z0 : (Prim.mk 2 0).run [] = some [rL ([] : List TTold)] := rfl
 simp (disch := first | assumption | omega) only [S0, reduceIte, reduceCtorEq, reduceAdd, reduceEqDiff, Int.reduceBEq, reduceLT, reduceLE, impl_NewSums, z0]
 rw [loopN l.length (fun i => [rL (playC l i).1, rL (playC l i).2, i64 i]) (.yield 1, [rL (playC l l.length).1, rL (playC l l.length).2]) rfl (by simp)]
 ·simp (disch := first | assumption | omega) only [S0, reduceIte, reduceCtorEq, reduceAdd, reduceEqDiff, Int.reduceBEq, reduceLT, reduceLE]
 ·intro i hi hlt
  have hb : InB l (i : Int) := InB_nat.2 hi
  have hc := hq _ (at_mem hi)
  obtain ⟨p1, p2⟩ := playC_sums hq i (by omega)
  have p2' : ∀ x ∈ (playC l i).1, 0 ≤ x ∧ x ≤ 100000000 := fun x hx => by have := p2 x hx; omega
  obtain ⟨k1, k2⟩ := playC_len l i
  have e : playC l (i + 1) = ((applyM (playC l i).1 (atI l (i : Int))).1, (playC l i).2 ++ [(applyM (playC l i).1 (atI l (i : Int))).2]) := rfl
  have z1 : (playC l i).2.length + ([(applyM (playC l i).1 (atI l (i : Int))).2] : List TTold).length ≤ 100000000000 := by simp only [List.length_cons, List.length_nil]; omega
  simp (disch := first | assumption | omega) only [S0, reduceIte, reduceCtorEq, reduceAdd, reduceEqDiff, Int.reduceBEq, reduceLT, reduceLE, S_row, impl_apply, S_mk, S_app, hlt, e]
 ·intro hlt
  simp (disch := first | assumption | omega) only [S0, reduceIte, reduceCtorEq, reduceAdd, reduceEqDiff, Int.reduceBEq, reduceLT, reduceLE, hlt]
theorem impl_PlayCmds (l : List TCmd) (hq : ∀ c ∈ l, cmdOk c = true) (hl : l.length ≤ 60) : Fun T 53 [rL l] = some [rL (playC l l.length).1, rL (playC l l.length).2, .bool true] := by
 rw [Fun_k (t := tm53) rfl]; unfold tm53
 have hg : Fun T 54 [rL l] = some [.bool true] := by
  rw [Fun_k (t := tm54) rfl]; unfold tm54
  have d : decide ((l.length : Int) ≤ 60) = true := by simp; omega
  have hx : l.length ≤ 1099511627776 := by omega
  have e : l.any (fun x => !cmdOk x) = false := by
   rw [List.any_eq_false]
   intro x hx
   simp [hq x hx]
  simp (disch := first | assumption | omega) only [S0, reduceIte, reduceCtorEq, reduceAdd, reduceEqDiff, Int.reduceBEq, reduceLT, reduceLE, d, ct_goodCmds_1, e]
 simp (disch := first | assumption | omega) only [S0, reduceIte, reduceCtorEq, reduceAdd, reduceEqDiff, Int.reduceBEq, reduceLT, reduceLE, hg, impl_playCmds]
theorem law (code more : D) (hc : isBytes code) (hm : isBytes more) : Fun T 0 [code, more] = some [.bool true] := by
 rw [Fun_k (t := tm0) rfl]; unfold tm0
 obtain ⟨b, eb⟩ := laws_big code more hc hm
 cases b
 rotate_left
 ·simp (disch := first | assumption | omega) only [S0, reduceIte, reduceCtorEq, reduceAdd, reduceEqDiff, Int.reduceBEq, reduceLT, reduceLE, eb]
 obtain ⟨l, e1, hl⟩ := drawPlayAsks code hc
 have hl2 : l.length ≤ 10000000000 := by omega
 obtain ⟨sc, sq, f1, c1, c2, c3⟩ := drawServeAsk more hm
 obtain ⟨p, q, f2, d1, d2, d3⟩ := drawSameClerk more hm
 have c1' : sc.sums.length ≤ 10000000000 := by omega
 have c2' : sc.last.length ≤ 10000000000 := by omega
 have c3' : sc.told.length ≤ 10000000000 := by omega
 have d1' : p.sums.length ≤ 1099511627776 := by omega
 have d2' : p.last.length ≤ 1099511627776 := by omega
 have d3' : p.told.length ≤ 1099511627776 := by omega
 have sv1 := impl_ServeAsk sc.sums sc.last sc.told sq.client sq.no sq.cmd.kind sq.cmd.id sq.cmd.src sq.cmd.dst sq.cmd.amt c1' c2' c3'
 have sv2 := spec_ServeAsk sc.sums sc.last sc.told sq.client sq.no sq.cmd.kind sq.cmd.id sq.cmd.src sq.cmd.dst sq.cmd.amt c1' c2' c3'
 have etc : ∀ x : TClerk, (⟨x.sums, x.last, x.told⟩ : TClerk) = x := fun _ => rfl
 have eta : ∀ x : TAsk, (⟨x.client, x.no, ⟨x.cmd.kind, x.cmd.id, x.cmd.src, x.cmd.dst, x.cmd.amt⟩⟩ : TAsk) = x := fun _ => rfl
 simp only [etc, eta] at sv1 sv2
 obtain ⟨r1, r2, r3⟩ := serveR_len sc sq
 have r1' : (serveR sc sq).1.sums.length ≤ 1099511627776 := by omega
 have r2' : (serveR sc sq).1.last.length ≤ 1099511627776 := by omega
 have r3' : (serveR sc sq).1.told.length ≤ 1099511627776 := by omega
 have gc1 := impl_GoodClerk p.sums p.last p.told d1' d2' d3'
 have gc2 := spec_GoodClerk p.sums p.last p.told d1' d2' d3'
 simp only [etc] at gc1 gc2
 have z4 : (Prim.eqs [0, 0]).run [i64 (serveR sc sq).2.1.code, i64 (serveR sc sq).2.1.sum, i64 (serveR sc sq).2.1.code, i64 (serveR sc sq).2.1.sum] = some [.bool true] := by rw [eqs_told]; simp
 have n0 : clerk0.sums.length ≤ 1099511627776 := by decide
 have n1 : clerk0.last.length ≤ 1099511627776 := by decide
 have n2 : clerk0.told.length ≤ 1099511627776 := by decide
 have p1 := impl_PlayAsks l hl2
 have p2 := spec_PlayAsks l hl2
 have o1 := impl_OnceOf l hl2
 have o2 := spec_OnceOf l hl2
 cases hok : asksOk l
 ·have e3 : playR l = (⟨⟨[], [], []⟩, [], []⟩, false) := by unfold playR; rw [hok]; rfl
  have e4 : onceR l = ([], false) := by unfold onceR; rw [hok]; rfl
  rw [e3] at p1 p2
  rw [e4] at o1 o2
  simp only at p1 p2 o1 o2
  have y1 : ([] : List Int).length ≤ 1099511627776 := by simp
  have y2 : ([] : List TTold).length ≤ 1099511627776 := by simp
  simp (disch := first | assumption | omega) only [S0, reduceIte, reduceCtorEq, reduceAdd, reduceEqDiff, Int.reduceBEq, reduceLT, reduceLE, eb, e1, p1, p2, o1, o2, same_clerk, same_tolds, same_ints, f1, f2, sv1, sv2, impl_SameClerk', spec_SameClerk', gc1, gc2, z4, impl_NewClerk, spec_NewClerk]
 ·obtain ⟨x1, x2⟩ := asksOk_spec hok
  have e3 : playR l = (playN l l.length, true) := by unfold playR; rw [hok]; rfl
  have e4 : onceR l = (onceN l (playN l l.length).codes l.length, true) := by unfold onceR; rw [hok]; rfl
  rw [e3] at p1 p2
  rw [e4] at o1 o2
  simp only at p1 p2 o1 o2
  have hcd := playN_codes l l.length
  obtain ⟨oc, od, om⟩ := once_play (cs := (playN l l.length).codes) (fun i hi => (hcd i hi).1) l.length (Nat.le_refl _)
  have ol := onceN_len l (playN l l.length).codes l.length
  obtain ⟨i1, i2, i3, i4, i5⟩ := playN_inv x1 l.length (Nat.le_refl _)
  have hok2 := playN_ok x1 l.length (Nat.le_refl _)
  obtain ⟨pl1, pl2⟩ := playN_len l l.length
  generalize ho : onceN l (playN l l.length).codes l.length = o at o1 o2 oc od om ol
  have ook : ∀ a ∈ o, askOk a = true := fun a ha => x1 a (om a ha)
  have asko : asksOk o = true := by
   simp only [asksOk, Bool.and_eq_true, List.all_eq_true, decide_eq_true_eq]
   exact ⟨ook, by omega⟩
  have e5 : playR o = (playN o o.length, true) := by unfold playR; rw [asko]; rfl
  have ol2 : o.length ≤ 10000000000 := by omega
  have p3 := impl_PlayAsks o ol2
  rw [e5] at p3
  simp only at p3
  rw [oc] at p3
  have pc := playC_once od o.length (Nat.le_refl _)
  rw [oc] at pc
  obtain ⟨po1, po2⟩ := playN_len o o.length
  have hcmds : ∀ c ∈ o.map (·.cmd), cmdOk c = true := by
   intro c hcm
   obtain ⟨a, ha, rfl⟩ := List.mem_map.1 hcm
   exact (askOk_spec (ook a ha)).2.2
  have ml : (o.map (·.cmd)).length = o.length := List.length_map ..
  have p4 := impl_PlayCmds (o.map (·.cmd)) hcmds (by omega)
  rw [ml, pc] at p4
  simp only at p4
  have hce := playN_codes o o.length
  have hfew : ∀ i : Nat, i < o.length → atI (playN o o.length).codes (i : Int) = 0 := fun i hi => by rw [(hce i hi).1]; exact od i hi
  generalize hC : (playN l l.length).c = C at p1 p2 p3 p4 i1 i2 i3 i4 i5 hok2
  have gcC := impl_GoodClerk C.sums C.last C.told (by omega) (by omega) (by omega)
  simp only [etc, hok2] at gcC
  have s1 : C.sums.length ≤ 1099511627776 := by omega
  have s2 : C.last.length ≤ 1099511627776 := by omega
  have s3 : C.told.length ≤ 1099511627776 := by omega
  have s1' : C.sums.length ≤ 10000000000 := by omega
  have s2' : C.last.length ≤ 10000000000 := by omega
  have s3' : C.told.length ≤ 10000000000 := by omega
  have t1 : (playN l l.length).told.length ≤ 1099511627776 := by omega
  have t2 : (playN l l.length).codes.length ≤ 1099511627776 := by omega
  have t3 : (playN o o.length).told.length ≤ 1099511627776 := by omega
  have w1 : ((playN o o.length).told.length : Int) = o.length := by omega
  have w2 : ((playN o o.length).codes.length : Int) = o.length := by omega
  simp (disch := first | assumption | omega) only [S0, reduceIte, reduceCtorEq, reduceAdd, reduceEqDiff, Int.reduceBEq, reduceLT, reduceLE, eb, e1, p1, p2, o1, o2, same_clerk, same_tolds, same_ints, p3, impl_SameClerk', w1, w2, gcC]
  rw [loopN o.length (fun i => [rL ((o.map (·.cmd)).take i), i64 i]) (.yield 1, [rL (o.map (·.cmd))]) rfl (by simp)]
  rotate_left
  ·intro i hi hlt
   have hb : InB o (i : Int) := InB_nat.2 hi
   have hb2 : InB (playN o o.length).codes (i : Int) := InB_nat.2 (by omega)
   have hf := hfew i hi
   have zz : (Prim.eqs [0, 0, 0, 0, 0, 0, 0]).run [i64 (atI o (i : Int)).client, i64 (atI o (i : Int)).no, i64 (atI o (i : Int)).cmd.kind, i64 (atI o (i : Int)).cmd.id, i64 (atI o (i : Int)).cmd.src, i64 (atI o (i : Int)).cmd.dst, i64 (atI o (i : Int)).cmd.amt, i64 (atI o (i : Int)).client, i64 (atI o (i : Int)).no, i64 (atI o (i : Int)).cmd.kind, i64 (atI o (i : Int)).cmd.id, i64 (atI o (i : Int)).cmd.src, i64 (atI o (i : Int)).cmd.dst, i64 (atI o (i : Int)).cmd.amt] = some [.bool true] := by
    simp [Prim.run, eqsD, eqD, i64]
   have et : (o.map (·.cmd)).take (i + 1) = (o.map (·.cmd)).take i ++ [(atI o (i : Int)).cmd] := by
    rw [← atI_map hi]
    exact (take_at (by omega)).symm
   have zl : ((o.map (·.cmd)).take i).length + ([(atI o (i : Int)).cmd] : List TCmd).length ≤ 100000000000 := by rw [List.length_take]; simp only [List.length_cons, List.length_nil]; omega
   simp (disch := first | assumption | omega) only [S0, reduceIte, reduceCtorEq, reduceAdd, reduceEqDiff, Int.reduceBEq, reduceLT, reduceLE, S_row, hlt, hf, zz, S_mk, S_app, et]
  ·intro hlt
   rw [List.take_of_length_le (by omega)]
   simp (disch := first | assumption | omega) only [S0, reduceIte, reduceCtorEq, reduceAdd, reduceEqDiff, Int.reduceBEq, reduceLT, reduceLE, hlt]
  simp (disch := first | assumption | omega) only [S0, reduceIte, reduceCtorEq, reduceAdd, reduceEqDiff, Int.reduceBEq, reduceLT, reduceLE, p4, same_ints, same_tolds]
  rw [loopN l.length (fun i => [i64 i]) (.yield 3, []) rfl (by simp)]
  rotate_left
  ·intro i hi hlt
   have hb : InB l (i : Int) := InB_nat.2 hi
   have hb2 : InB (playN l l.length).codes (i : Int) := InB_nat.2 (by omega)
   have hb3 : InB (playN l l.length).told (i : Int) := InB_nat.2 (by omega)
   have ha := x1 _ (at_mem hi)
   have sa := impl_ServeAsk C.sums C.last C.told (atI l (i : Int)).client (atI l (i : Int)).no (atI l (i : Int)).cmd.kind (atI l (i : Int)).cmd.id (atI l (i : Int)).cmd.src (atI l (i : Int)).cmd.dst (atI l (i : Int)).cmd.amt s1' s2' s3'
   simp only [etc, eta] at sa
   have esr : serveR C (atI l (i : Int)) = ((serveM C (atI l (i : Int))).1, (serveM C (atI l (i : Int))).2.1, (serveM C (atI l (i : Int))).2.2, true) := by unfold serveR; rw [hok2, ha]; rfl
   rw [esr] at sa
   simp only at sa
   obtain ⟨g1, g2, g3⟩ := serveM_len C (atI l (i : Int))
   have g1' : (serveM C (atI l (i : Int))).1.sums.length ≤ 1099511627776 := by omega
   have g2' : (serveM C (atI l (i : Int))).1.last.length ≤ 1099511627776 := by omega
   have g3' : (serveM C (atI l (i : Int))).1.told.length ≤ 1099511627776 := by omega
   obtain ⟨hk1, hk2⟩ := hcd i hi
   by_cases h3 : atI (playN l l.length).codes (i : Int) = 3
   ·have b3 : (atI (playN l l.length).codes (i : Int) == 3) = true := by simpa using h3
    rcases serveM_code C (atI l (i : Int)) with ⟨hcd1, -, hx, -⟩ | ⟨hcd1, -, hx⟩ | ⟨hcd1, -, hx⟩ | ⟨hcd1, -, hx, -⟩
    ·rw [hx, hcd1] at sa
     simp (maxSteps := 4000000) (disch := first | assumption | omega) only [S0, reduceIte, reduceCtorEq, reduceAdd, reduceEqDiff, Int.reduceBEq, reduceLT, reduceLE, S_row, hlt, sa, b3, same_clerk]
    ·rw [hx, hcd1] at sa
     simp (maxSteps := 4000000) (disch := first | assumption | omega) only [S0, reduceIte, reduceCtorEq, reduceAdd, reduceEqDiff, Int.reduceBEq, reduceLT, reduceLE, S_row, hlt, sa, b3, same_clerk]
    ·rw [hx, hcd1] at sa
     simp (maxSteps := 4000000) (disch := first | assumption | omega) only [S0, reduceIte, reduceCtorEq, reduceAdd, reduceEqDiff, Int.reduceBEq, reduceLT, reduceLE, S_row, hlt, sa, b3, same_clerk]
    ·rw [hcd1] at sa
     simp (maxSteps := 4000000) (disch := first | assumption | omega) only [S0, reduceIte, reduceCtorEq, reduceAdd, reduceEqDiff, Int.reduceBEq, reduceLT, reduceLE, S_row, hlt, sa, b3]
   ·have b3 : (atI (playN l l.length).codes (i : Int) == 3) = false := by simpa using h3
    obtain ⟨lt1, lt2⟩ := late x1 hi (by rw [← hk1]; exact h3) l.length hi (Nat.le_refl _)
    rw [hC] at lt1 lt2
    rcases serveM_code C (atI l (i : Int)) with ⟨hcd1, hno, hx, ht⟩ | ⟨hcd1, -, hx⟩ | ⟨hcd1, hno, -⟩ | ⟨hcd1, hno, -⟩
    ·have et : (serveM C (atI l (i : Int))).2.1 = atI (playN l l.length).told (i : Int) := by rw [ht, hk2]; exact lt2 hno.symm
     rw [hx, hcd1, et] at sa
     have zt : (Prim.eqs [0, 0]).run [i64 (atI (playN l l.length).told (i : Int)).code, i64 (atI (playN l l.length).told (i : Int)).sum, i64 (atI (playN l l.length).told (i : Int)).code, i64 (atI (playN l l.length).told (i : Int)).sum] = some [.bool true] := by rw [eqs_told]; simp
     simp (maxSteps := 4000000) (disch := first | assumption | omega) only [S0, reduceIte, reduceCtorEq, reduceAdd, reduceEqDiff, Int.reduceBEq, reduceLT, reduceLE, S_row, hlt, sa, b3, zt, same_clerk]
    ·rw [hx, hcd1] at sa
     simp (maxSteps := 4000000) (disch := first | assumption | omega) only [S0, reduceIte, reduceCtorEq, reduceAdd, reduceEqDiff, Int.reduceBEq, reduceLT, reduceLE, S_row, hlt, sa, b3, same_clerk]
    ·omega
    ·omega
  ·intro hlt
   simp (disch := first | assumption | omega) only [S0, reduceIte, reduceCtorEq, reduceAdd, reduceEqDiff, Int.reduceBEq, reduceLT, reduceLE, hlt]
  simp (disch := first | assumption | omega) only [S0, reduceIte, reduceCtorEq, reduceAdd, reduceEqDiff, Int.reduceBEq, reduceLT, reduceLE, f1, f2, sv1, sv2, same_clerk, impl_SameClerk', spec_SameClerk', gc1, gc2, z4, impl_NewClerk, spec_NewClerk]
theorem hpure : ∀ ds, WTs [.sl 1 [.int .u8], .sl 1 [.int .u8]] ds → ∃ n, callN T n 0 ds = some [.bool true] := by
 intro ds h
 simp only [WTs] at h
 obtain ⟨d0, r0, rfl, w0, d1, r1, rfl, w1, rfl⟩ := h
 exact pure_of (law d0 d1 w0 w1)
end FnOnce
end Go.Proofs.Ytjoebpmeeampfaa
