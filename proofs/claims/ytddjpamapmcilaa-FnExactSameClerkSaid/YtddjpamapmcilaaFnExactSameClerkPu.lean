/- What the terms of FnExactSameClerk come to. -/
import Derived.Test.YtddjpamapmcilaaFnExactSameClerkTab
namespace Go.Proofs.Ytddjpamapmcilaa
namespace FnExactSameClerk
open Go Go.Proofs.Ytddjpamapmcilaa.Rf
set_option linter.unusedSimpArgs false
set_option linter.unusedVariables false
set_option linter.unnecessarySimpa false
theorem sz2 (xs : List Int) (l : Int) (h1 : 0 ≤ l) (h2 : l ≤ 1048576) (h3 : xs.length * 8 ≤ reachBytes) : ∃ v, Fun T 2 [rI xs, i64 l] = some [i64 v] ∧ -1 ≤ v ∧ v ≤ l := by
  rw [Fun_r (t := tm2) rfl]
  unfold tm2
  unfold reachBytes at h3
  have hr := @run_sub l xs.length (by omega) (by omega)
  by_cases h : l - (xs.length : Int) < 0
  · have h' : decide (l - (xs.length : Int) < 0) = true := by simpa using h
    exact ⟨-1, by simp only [hr, h', Er_lt0, Er_ltg, Er_call0, Er_callg, Er_ite, Er_leaf, stepT_0, stepT_1, stepT_2, stepT_3, stepT_4, stepT_5, stepT_6, iteT_true, iteT_false, ltT_tt, ltT_ff, ltT_tf, ltT_ft, callT_tt, callT_ff, callT_tf, callT_ft, rI_len, rP_len, run_neq, run_eql, run_lss, run_not, run_pick, run_eqb, run_eqs2, Atom.val, List.map, List.getD_cons_zero, List.getD_cons_succ, Option.bind_some, List.length_cons, List.length_nil, if_true, if_false, List.cons_append, List.nil_append, List.append_nil, Bool.not_true, Bool.not_false, Nat.zero_add, Nat.sub_zero, reduceIte, reduceCtorEq, retR_ret, List.reduceReplicate, Bool.and_true, Bool.true_and, Bool.and_false, Bool.false_and, beq_self_eq_true, Bool.false_eq_true], by omega, by omega⟩
  · have h' : decide (l - (xs.length : Int) < 0) = false := by simpa using h
    exact ⟨l - xs.length, by simp only [hr, h', Er_lt0, Er_ltg, Er_call0, Er_callg, Er_ite, Er_leaf, stepT_0, stepT_1, stepT_2, stepT_3, stepT_4, stepT_5, stepT_6, iteT_true, iteT_false, ltT_tt, ltT_ff, ltT_tf, ltT_ft, callT_tt, callT_ff, callT_tf, callT_ft, rI_len, rP_len, run_neq, run_eql, run_lss, run_not, run_pick, run_eqb, run_eqs2, Atom.val, List.map, List.getD_cons_zero, List.getD_cons_succ, Option.bind_some, List.length_cons, List.length_nil, if_true, if_false, List.cons_append, List.nil_append, List.append_nil, Bool.not_true, Bool.not_false, Nat.zero_add, Nat.sub_zero, reduceIte, reduceCtorEq, retR_ret, List.reduceReplicate, Bool.and_true, Bool.true_and, Bool.and_false, Bool.false_and, beq_self_eq_true, Bool.false_eq_true], by omega, by omega⟩
theorem sz3 (xs : List (Int × Int)) (l : Int) (h1 : 0 ≤ l) (h2 : l ≤ 1048576) (h3 : xs.length * 16 ≤ reachBytes) : ∃ v, Fun T 3 [rP xs, i64 l] = some [i64 v] ∧ -1 ≤ v ∧ v ≤ l := by
  rw [Fun_r (t := tm3) rfl]
  unfold tm3
  unfold reachBytes at h3
  have hr := @run_sub l xs.length (by omega) (by omega)
  by_cases h : l - (xs.length : Int) < 0
  · have h' : decide (l - (xs.length : Int) < 0) = true := by simpa using h
    exact ⟨-1, by simp only [hr, h', Er_lt0, Er_ltg, Er_call0, Er_callg, Er_ite, Er_leaf, stepT_0, stepT_1, stepT_2, stepT_3, stepT_4, stepT_5, stepT_6, iteT_true, iteT_false, ltT_tt, ltT_ff, ltT_tf, ltT_ft, callT_tt, callT_ff, callT_tf, callT_ft, rI_len, rP_len, run_neq, run_eql, run_lss, run_not, run_pick, run_eqb, run_eqs2, Atom.val, List.map, List.getD_cons_zero, List.getD_cons_succ, Option.bind_some, List.length_cons, List.length_nil, if_true, if_false, List.cons_append, List.nil_append, List.append_nil, Bool.not_true, Bool.not_false, Nat.zero_add, Nat.sub_zero, reduceIte, reduceCtorEq, retR_ret, List.reduceReplicate, Bool.and_true, Bool.true_and, Bool.and_false, Bool.false_and, beq_self_eq_true, Bool.false_eq_true], by omega, by omega⟩
  · have h' : decide (l - (xs.length : Int) < 0) = false := by simpa using h
    exact ⟨l - xs.length, by simp only [hr, h', Er_lt0, Er_ltg, Er_call0, Er_callg, Er_ite, Er_leaf, stepT_0, stepT_1, stepT_2, stepT_3, stepT_4, stepT_5, stepT_6, iteT_true, iteT_false, ltT_tt, ltT_ff, ltT_tf, ltT_ft, callT_tt, callT_ff, callT_tf, callT_ft, rI_len, rP_len, run_neq, run_eql, run_lss, run_not, run_pick, run_eqb, run_eqs2, Atom.val, List.map, List.getD_cons_zero, List.getD_cons_succ, Option.bind_some, List.length_cons, List.length_nil, if_true, if_false, List.cons_append, List.nil_append, List.append_nil, Bool.not_true, Bool.not_false, Nat.zero_add, Nat.sub_zero, reduceIte, reduceCtorEq, retR_ret, List.reduceReplicate, Bool.and_true, Bool.true_and, Bool.and_false, Bool.false_and, beq_self_eq_true, Bool.false_eq_true], by omega, by omega⟩
theorem eq16 (a b c d : Int) : Fun T 16 [i64 a, i64 b, i64 c, i64 d] = some [.bool (a == c && b == d)] := by
  rw [Fun_r (t := tm16) rfl]
  unfold tm16
  cases h1 : a == c <;> cases h2 : b == d <;> simp only [h1, h2, Er_lt0, Er_ltg, Er_call0, Er_callg, Er_ite, Er_leaf, stepT_0, stepT_1, stepT_2, stepT_3, stepT_4, stepT_5, stepT_6, iteT_true, iteT_false, ltT_tt, ltT_ff, ltT_tf, ltT_ft, callT_tt, callT_ff, callT_tf, callT_ft, rI_len, rP_len, run_neq, run_eql, run_lss, run_not, run_pick, run_eqb, run_eqs2, Atom.val, List.map, List.getD_cons_zero, List.getD_cons_succ, Option.bind_some, List.length_cons, List.length_nil, if_true, if_false, List.cons_append, List.nil_append, List.append_nil, Bool.not_true, Bool.not_false, Nat.zero_add, Nat.sub_zero, reduceIte, reduceCtorEq, retR_ret, List.reduceReplicate, Bool.and_true, Bool.true_and, Bool.and_false, Bool.false_and, beq_self_eq_true, Bool.false_eq_true]
theorem id7 (a b : Int) : Fun T 7 [i64 a, i64 b] = some [i64 a, i64 b] := by
  rw [Fun_r (t := tm7) rfl]
  unfold tm7
  simp only [Er_lt0, Er_ltg, Er_call0, Er_callg, Er_ite, Er_leaf, stepT_0, stepT_1, stepT_2, stepT_3, stepT_4, stepT_5, stepT_6, iteT_true, iteT_false, ltT_tt, ltT_ff, ltT_tf, ltT_ft, callT_tt, callT_ff, callT_tf, callT_ft, rI_len, rP_len, run_neq, run_eql, run_lss, run_not, run_pick, run_eqb, run_eqs2, Atom.val, List.map, List.getD_cons_zero, List.getD_cons_succ, Option.bind_some, List.length_cons, List.length_nil, if_true, if_false, List.cons_append, List.nil_append, List.append_nil, Bool.not_true, Bool.not_false, Nat.zero_add, Nat.sub_zero, reduceIte, reduceCtorEq, retR_ret, List.reduceReplicate, Bool.and_true, Bool.true_and, Bool.and_false, Bool.false_and, beq_self_eq_true, Bool.false_eq_true]
theorem eq9 (xs ys : List Int) (hx : xs.length * 8 ≤ reachBytes) (hy : ys.length * 8 ≤ reachBytes) : Fun T 9 [rI xs, rI ys] = some [.bool (xs == ys)] := by
  rw [Fun_r (t := tm9) rfl]
  unfold tm9
  unfold reachBytes at hx hy
  by_cases hl : xs.length = ys.length
  · have hl' : ((xs.length : Int) == (ys.length : Int)) = true := by simp [hl]
    simp only [hl', Er_lt0, Er_ltg, Er_call0, Er_callg, Er_ite, Er_leaf, stepT_0, stepT_1, stepT_2, stepT_3, stepT_4, stepT_5, stepT_6, iteT_true, iteT_false, ltT_tt, ltT_ff, ltT_tf, ltT_ft, callT_tt, callT_ff, callT_tf, callT_ft, rI_len, rP_len, run_neq, run_eql, run_lss, run_not, run_pick, run_eqb, run_eqs2, Atom.val, List.map, List.getD_cons_zero, List.getD_cons_succ, Option.bind_some, List.length_cons, List.length_nil, if_true, if_false, List.cons_append, List.nil_append, List.append_nil, Bool.not_true, Bool.not_false, Nat.zero_add, Nat.sub_zero, reduceIte, reduceCtorEq, retR_ret, List.reduceReplicate, Bool.and_true, Bool.true_and, Bool.and_false, Bool.false_and, beq_self_eq_true, Bool.false_eq_true]
    rw [scanR (n := xs.length) (ok := fun i => xs[i]? == ys[i]?) (r := [.bool false])]
    · rw [scan_eq hl]
      simp only [Er_leaf]
      cases xs == ys <;> rfl
    · intro i hi hok
      have hi' : i < ys.length := by omega
      have ex := List.getElem?_eq_getElem hi
      have ey := List.getElem?_eq_getElem hi'
      rw [ex, ey] at hok
      have hlt : decide ((i : Int) < xs.length) = true := by simp; omega
      have hadd := @run_add (i : Int) 1 (by omega) (by omega)
      have hok1 : (xs[i] == ys[i]) = true := by simpa using hok
      have hok' := hok1
      simp only [rI_inb hi, rI_inb hi', rI_row ex, rI_row ey, hlt, hadd, hok', Er_lt0, Er_ltg, Er_call0, Er_callg, Er_ite, Er_leaf, stepT_0, stepT_1, stepT_2, stepT_3, stepT_4, stepT_5, stepT_6, iteT_true, iteT_false, ltT_tt, ltT_ff, ltT_tf, ltT_ft, callT_tt, callT_ff, callT_tf, callT_ft, rI_len, rP_len, run_neq, run_eql, run_lss, run_not, run_pick, run_eqb, run_eqs2, Atom.val, List.map, List.getD_cons_zero, List.getD_cons_succ, Option.bind_some, List.length_cons, List.length_nil, if_true, if_false, List.cons_append, List.nil_append, List.append_nil, Bool.not_true, Bool.not_false, Nat.zero_add, Nat.sub_zero, reduceIte, reduceCtorEq, retR_ret, List.reduceReplicate, Bool.and_true, Bool.true_and, Bool.and_false, Bool.false_and, beq_self_eq_true, Bool.false_eq_true]
    · intro i hi hok
      have hi' : i < ys.length := by omega
      have ex := List.getElem?_eq_getElem hi
      have ey := List.getElem?_eq_getElem hi'
      rw [ex, ey] at hok
      have hlt : decide ((i : Int) < xs.length) = true := by simp; omega
      have hadd := @run_add (i : Int) 1 (by omega) (by omega)
      have hok1 : (xs[i] == ys[i]) = false := by simpa using hok
      have hok' := hok1
      simp only [rI_inb hi, rI_inb hi', rI_row ex, rI_row ey, hlt, hadd, hok', Er_lt0, Er_ltg, Er_call0, Er_callg, Er_ite, Er_leaf, stepT_0, stepT_1, stepT_2, stepT_3, stepT_4, stepT_5, stepT_6, iteT_true, iteT_false, ltT_tt, ltT_ff, ltT_tf, ltT_ft, callT_tt, callT_ff, callT_tf, callT_ft, rI_len, rP_len, run_neq, run_eql, run_lss, run_not, run_pick, run_eqb, run_eqs2, Atom.val, List.map, List.getD_cons_zero, List.getD_cons_succ, Option.bind_some, List.length_cons, List.length_nil, if_true, if_false, List.cons_append, List.nil_append, List.append_nil, Bool.not_true, Bool.not_false, Nat.zero_add, Nat.sub_zero, reduceIte, reduceCtorEq, retR_ret, List.reduceReplicate, Bool.and_true, Bool.true_and, Bool.and_false, Bool.false_and, beq_self_eq_true, Bool.false_eq_true]
    · have hlt : decide ((xs.length : Int) < xs.length) = false := by simp
      simp only [hlt, Er_lt0, Er_ltg, Er_call0, Er_callg, Er_ite, Er_leaf, stepT_0, stepT_1, stepT_2, stepT_3, stepT_4, stepT_5, stepT_6, iteT_true, iteT_false, ltT_tt, ltT_ff, ltT_tf, ltT_ft, callT_tt, callT_ff, callT_tf, callT_ft, rI_len, rP_len, run_neq, run_eql, run_lss, run_not, run_pick, run_eqb, run_eqs2, Atom.val, List.map, List.getD_cons_zero, List.getD_cons_succ, Option.bind_some, List.length_cons, List.length_nil, if_true, if_false, List.cons_append, List.nil_append, List.append_nil, Bool.not_true, Bool.not_false, Nat.zero_add, Nat.sub_zero, reduceIte, reduceCtorEq, retR_ret, List.reduceReplicate, Bool.and_true, Bool.true_and, Bool.and_false, Bool.false_and, beq_self_eq_true, Bool.false_eq_true]
  · have hl' : ((xs.length : Int) == (ys.length : Int)) = false := by simp; omega
    have e : (xs == ys) = false := beq_len hl
    simp only [e, hl', Er_lt0, Er_ltg, Er_call0, Er_callg, Er_ite, Er_leaf, stepT_0, stepT_1, stepT_2, stepT_3, stepT_4, stepT_5, stepT_6, iteT_true, iteT_false, ltT_tt, ltT_ff, ltT_tf, ltT_ft, callT_tt, callT_ff, callT_tf, callT_ft, rI_len, rP_len, run_neq, run_eql, run_lss, run_not, run_pick, run_eqb, run_eqs2, Atom.val, List.map, List.getD_cons_zero, List.getD_cons_succ, Option.bind_some, List.length_cons, List.length_nil, if_true, if_false, List.cons_append, List.nil_append, List.append_nil, Bool.not_true, Bool.not_false, Nat.zero_add, Nat.sub_zero, reduceIte, reduceCtorEq, retR_ret, List.reduceReplicate, Bool.and_true, Bool.true_and, Bool.and_false, Bool.false_and, beq_self_eq_true, Bool.false_eq_true]
theorem eq11 (xs ys : List Int) (hx : xs.length * 8 ≤ reachBytes) (hy : ys.length * 8 ≤ reachBytes) : Fun T 11 [rI xs, rI ys] = some [.bool (xs == ys)] := by
  rw [Fun_r (t := tm11) rfl]
  unfold tm11
  unfold reachBytes at hx hy
  by_cases hl : xs.length = ys.length
  · have hl' : ((xs.length : Int) == (ys.length : Int)) = true := by simp [hl]
    simp only [hl', Er_lt0, Er_ltg, Er_call0, Er_callg, Er_ite, Er_leaf, stepT_0, stepT_1, stepT_2, stepT_3, stepT_4, stepT_5, stepT_6, iteT_true, iteT_false, ltT_tt, ltT_ff, ltT_tf, ltT_ft, callT_tt, callT_ff, callT_tf, callT_ft, rI_len, rP_len, run_neq, run_eql, run_lss, run_not, run_pick, run_eqb, run_eqs2, Atom.val, List.map, List.getD_cons_zero, List.getD_cons_succ, Option.bind_some, List.length_cons, List.length_nil, if_true, if_false, List.cons_append, List.nil_append, List.append_nil, Bool.not_true, Bool.not_false, Nat.zero_add, Nat.sub_zero, reduceIte, reduceCtorEq, retR_ret, List.reduceReplicate, Bool.and_true, Bool.true_and, Bool.and_false, Bool.false_and, beq_self_eq_true, Bool.false_eq_true]
    rw [scanR (n := xs.length) (ok := fun i => xs[i]? == ys[i]?) (r := [.bool false])]
    · rw [scan_eq hl]
      simp only [Er_leaf]
      cases xs == ys <;> rfl
    · intro i hi hok
      have hi' : i < ys.length := by omega
      have ex := List.getElem?_eq_getElem hi
      have ey := List.getElem?_eq_getElem hi'
      rw [ex, ey] at hok
      have hlt : decide ((i : Int) < xs.length) = true := by simp; omega
      have hadd := @run_add (i : Int) 1 (by omega) (by omega)
      have hok1 : (xs[i] == ys[i]) = true := by simpa using hok
      have hok' := hok1
      simp only [rI_inb hi, rI_inb hi', rI_row ex, rI_row ey, hlt, hadd, hok', Er_lt0, Er_ltg, Er_call0, Er_callg, Er_ite, Er_leaf, stepT_0, stepT_1, stepT_2, stepT_3, stepT_4, stepT_5, stepT_6, iteT_true, iteT_false, ltT_tt, ltT_ff, ltT_tf, ltT_ft, callT_tt, callT_ff, callT_tf, callT_ft, rI_len, rP_len, run_neq, run_eql, run_lss, run_not, run_pick, run_eqb, run_eqs2, Atom.val, List.map, List.getD_cons_zero, List.getD_cons_succ, Option.bind_some, List.length_cons, List.length_nil, if_true, if_false, List.cons_append, List.nil_append, List.append_nil, Bool.not_true, Bool.not_false, Nat.zero_add, Nat.sub_zero, reduceIte, reduceCtorEq, retR_ret, List.reduceReplicate, Bool.and_true, Bool.true_and, Bool.and_false, Bool.false_and, beq_self_eq_true, Bool.false_eq_true]
    · intro i hi hok
      have hi' : i < ys.length := by omega
      have ex := List.getElem?_eq_getElem hi
      have ey := List.getElem?_eq_getElem hi'
      rw [ex, ey] at hok
      have hlt : decide ((i : Int) < xs.length) = true := by simp; omega
      have hadd := @run_add (i : Int) 1 (by omega) (by omega)
      have hok1 : (xs[i] == ys[i]) = false := by simpa using hok
      have hok' := hok1
      simp only [rI_inb hi, rI_inb hi', rI_row ex, rI_row ey, hlt, hadd, hok', Er_lt0, Er_ltg, Er_call0, Er_callg, Er_ite, Er_leaf, stepT_0, stepT_1, stepT_2, stepT_3, stepT_4, stepT_5, stepT_6, iteT_true, iteT_false, ltT_tt, ltT_ff, ltT_tf, ltT_ft, callT_tt, callT_ff, callT_tf, callT_ft, rI_len, rP_len, run_neq, run_eql, run_lss, run_not, run_pick, run_eqb, run_eqs2, Atom.val, List.map, List.getD_cons_zero, List.getD_cons_succ, Option.bind_some, List.length_cons, List.length_nil, if_true, if_false, List.cons_append, List.nil_append, List.append_nil, Bool.not_true, Bool.not_false, Nat.zero_add, Nat.sub_zero, reduceIte, reduceCtorEq, retR_ret, List.reduceReplicate, Bool.and_true, Bool.true_and, Bool.and_false, Bool.false_and, beq_self_eq_true, Bool.false_eq_true]
    · have hlt : decide ((xs.length : Int) < xs.length) = false := by simp
      simp only [hlt, Er_lt0, Er_ltg, Er_call0, Er_callg, Er_ite, Er_leaf, stepT_0, stepT_1, stepT_2, stepT_3, stepT_4, stepT_5, stepT_6, iteT_true, iteT_false, ltT_tt, ltT_ff, ltT_tf, ltT_ft, callT_tt, callT_ff, callT_tf, callT_ft, rI_len, rP_len, run_neq, run_eql, run_lss, run_not, run_pick, run_eqb, run_eqs2, Atom.val, List.map, List.getD_cons_zero, List.getD_cons_succ, Option.bind_some, List.length_cons, List.length_nil, if_true, if_false, List.cons_append, List.nil_append, List.append_nil, Bool.not_true, Bool.not_false, Nat.zero_add, Nat.sub_zero, reduceIte, reduceCtorEq, retR_ret, List.reduceReplicate, Bool.and_true, Bool.true_and, Bool.and_false, Bool.false_and, beq_self_eq_true, Bool.false_eq_true]
  · have hl' : ((xs.length : Int) == (ys.length : Int)) = false := by simp; omega
    have e : (xs == ys) = false := beq_len hl
    simp only [e, hl', Er_lt0, Er_ltg, Er_call0, Er_callg, Er_ite, Er_leaf, stepT_0, stepT_1, stepT_2, stepT_3, stepT_4, stepT_5, stepT_6, iteT_true, iteT_false, ltT_tt, ltT_ff, ltT_tf, ltT_ft, callT_tt, callT_ff, callT_tf, callT_ft, rI_len, rP_len, run_neq, run_eql, run_lss, run_not, run_pick, run_eqb, run_eqs2, Atom.val, List.map, List.getD_cons_zero, List.getD_cons_succ, Option.bind_some, List.length_cons, List.length_nil, if_true, if_false, List.cons_append, List.nil_append, List.append_nil, Bool.not_true, Bool.not_false, Nat.zero_add, Nat.sub_zero, reduceIte, reduceCtorEq, retR_ret, List.reduceReplicate, Bool.and_true, Bool.true_and, Bool.and_false, Bool.false_and, beq_self_eq_true, Bool.false_eq_true]
theorem eq12 (xs ys : List (Int × Int)) (hx : xs.length * 16 ≤ reachBytes) (hy : ys.length * 16 ≤ reachBytes) : Fun T 12 [rP xs, rP ys] = some [.bool (xs == ys)] := by
  rw [Fun_r (t := tm12) rfl]
  unfold tm12
  unfold reachBytes at hx hy
  by_cases hl : xs.length = ys.length
  · have hl' : ((xs.length : Int) == (ys.length : Int)) = true := by simp [hl]
    simp only [hl', Er_lt0, Er_ltg, Er_call0, Er_callg, Er_ite, Er_leaf, stepT_0, stepT_1, stepT_2, stepT_3, stepT_4, stepT_5, stepT_6, iteT_true, iteT_false, ltT_tt, ltT_ff, ltT_tf, ltT_ft, callT_tt, callT_ff, callT_tf, callT_ft, rI_len, rP_len, run_neq, run_eql, run_lss, run_not, run_pick, run_eqb, run_eqs2, Atom.val, List.map, List.getD_cons_zero, List.getD_cons_succ, Option.bind_some, List.length_cons, List.length_nil, if_true, if_false, List.cons_append, List.nil_append, List.append_nil, Bool.not_true, Bool.not_false, Nat.zero_add, Nat.sub_zero, reduceIte, reduceCtorEq, retR_ret, List.reduceReplicate, Bool.and_true, Bool.true_and, Bool.and_false, Bool.false_and, beq_self_eq_true, Bool.false_eq_true]
    rw [scanR (n := xs.length) (ok := fun i => xs[i]? == ys[i]?) (r := [.bool false])]
    · rw [scan_eq hl]
      simp only [Er_leaf]
      cases xs == ys <;> rfl
    · intro i hi hok
      have hi' : i < ys.length := by omega
      have ex := List.getElem?_eq_getElem hi
      have ey := List.getElem?_eq_getElem hi'
      rw [ex, ey] at hok
      have hlt : decide ((i : Int) < xs.length) = true := by simp; omega
      have hadd := @run_add (i : Int) 1 (by omega) (by omega)
      have hok1 : (xs[i] == ys[i]) = true := by simpa using hok
      have hok' : ((xs[i]).1 == (ys[i]).1 && (xs[i]).2 == (ys[i]).2) = true := by rw [← pair_beq]; exact hok1
      simp only [rP_inb hi, rP_inb hi', rP_row ex, rP_row ey, hlt, hadd, hok', Er_lt0, Er_ltg, Er_call0, Er_callg, Er_ite, Er_leaf, stepT_0, stepT_1, stepT_2, stepT_3, stepT_4, stepT_5, stepT_6, iteT_true, iteT_false, ltT_tt, ltT_ff, ltT_tf, ltT_ft, callT_tt, callT_ff, callT_tf, callT_ft, rI_len, rP_len, run_neq, run_eql, run_lss, run_not, run_pick, run_eqb, run_eqs2, Atom.val, List.map, List.getD_cons_zero, List.getD_cons_succ, Option.bind_some, List.length_cons, List.length_nil, if_true, if_false, List.cons_append, List.nil_append, List.append_nil, Bool.not_true, Bool.not_false, Nat.zero_add, Nat.sub_zero, reduceIte, reduceCtorEq, retR_ret, List.reduceReplicate, Bool.and_true, Bool.true_and, Bool.and_false, Bool.false_and, beq_self_eq_true, Bool.false_eq_true]
    · intro i hi hok
      have hi' : i < ys.length := by omega
      have ex := List.getElem?_eq_getElem hi
      have ey := List.getElem?_eq_getElem hi'
      rw [ex, ey] at hok
      have hlt : decide ((i : Int) < xs.length) = true := by simp; omega
      have hadd := @run_add (i : Int) 1 (by omega) (by omega)
      have hok1 : (xs[i] == ys[i]) = false := by simpa using hok
      have hok' : ((xs[i]).1 == (ys[i]).1 && (xs[i]).2 == (ys[i]).2) = false := by rw [← pair_beq]; exact hok1
      simp only [rP_inb hi, rP_inb hi', rP_row ex, rP_row ey, hlt, hadd, hok', Er_lt0, Er_ltg, Er_call0, Er_callg, Er_ite, Er_leaf, stepT_0, stepT_1, stepT_2, stepT_3, stepT_4, stepT_5, stepT_6, iteT_true, iteT_false, ltT_tt, ltT_ff, ltT_tf, ltT_ft, callT_tt, callT_ff, callT_tf, callT_ft, rI_len, rP_len, run_neq, run_eql, run_lss, run_not, run_pick, run_eqb, run_eqs2, Atom.val, List.map, List.getD_cons_zero, List.getD_cons_succ, Option.bind_some, List.length_cons, List.length_nil, if_true, if_false, List.cons_append, List.nil_append, List.append_nil, Bool.not_true, Bool.not_false, Nat.zero_add, Nat.sub_zero, reduceIte, reduceCtorEq, retR_ret, List.reduceReplicate, Bool.and_true, Bool.true_and, Bool.and_false, Bool.false_and, beq_self_eq_true, Bool.false_eq_true]
    · have hlt : decide ((xs.length : Int) < xs.length) = false := by simp
      simp only [hlt, Er_lt0, Er_ltg, Er_call0, Er_callg, Er_ite, Er_leaf, stepT_0, stepT_1, stepT_2, stepT_3, stepT_4, stepT_5, stepT_6, iteT_true, iteT_false, ltT_tt, ltT_ff, ltT_tf, ltT_ft, callT_tt, callT_ff, callT_tf, callT_ft, rI_len, rP_len, run_neq, run_eql, run_lss, run_not, run_pick, run_eqb, run_eqs2, Atom.val, List.map, List.getD_cons_zero, List.getD_cons_succ, Option.bind_some, List.length_cons, List.length_nil, if_true, if_false, List.cons_append, List.nil_append, List.append_nil, Bool.not_true, Bool.not_false, Nat.zero_add, Nat.sub_zero, reduceIte, reduceCtorEq, retR_ret, List.reduceReplicate, Bool.and_true, Bool.true_and, Bool.and_false, Bool.false_and, beq_self_eq_true, Bool.false_eq_true]
  · have hl' : ((xs.length : Int) == (ys.length : Int)) = false := by simp; omega
    have e : (xs == ys) = false := beq_len hl
    simp only [e, hl', Er_lt0, Er_ltg, Er_call0, Er_callg, Er_ite, Er_leaf, stepT_0, stepT_1, stepT_2, stepT_3, stepT_4, stepT_5, stepT_6, iteT_true, iteT_false, ltT_tt, ltT_ff, ltT_tf, ltT_ft, callT_tt, callT_ff, callT_tf, callT_ft, rI_len, rP_len, run_neq, run_eql, run_lss, run_not, run_pick, run_eqb, run_eqs2, Atom.val, List.map, List.getD_cons_zero, List.getD_cons_succ, Option.bind_some, List.length_cons, List.length_nil, if_true, if_false, List.cons_append, List.nil_append, List.append_nil, Bool.not_true, Bool.not_false, Nat.zero_add, Nat.sub_zero, reduceIte, reduceCtorEq, retR_ret, List.reduceReplicate, Bool.and_true, Bool.true_and, Bool.and_false, Bool.false_and, beq_self_eq_true, Bool.false_eq_true]
theorem eq14 (xs ys : List Int) (hx : xs.length * 8 ≤ reachBytes) (hy : ys.length * 8 ≤ reachBytes) : Fun T 14 [rI xs, rI ys] = some [.bool (xs == ys)] := by
  rw [Fun_r (t := tm14) rfl]
  unfold tm14
  unfold reachBytes at hx hy
  by_cases hl : xs.length = ys.length
  · have hl' : ((xs.length : Int) == (ys.length : Int)) = true := by simp [hl]
    simp only [hl', Er_lt0, Er_ltg, Er_call0, Er_callg, Er_ite, Er_leaf, stepT_0, stepT_1, stepT_2, stepT_3, stepT_4, stepT_5, stepT_6, iteT_true, iteT_false, ltT_tt, ltT_ff, ltT_tf, ltT_ft, callT_tt, callT_ff, callT_tf, callT_ft, rI_len, rP_len, run_neq, run_eql, run_lss, run_not, run_pick, run_eqb, run_eqs2, Atom.val, List.map, List.getD_cons_zero, List.getD_cons_succ, Option.bind_some, List.length_cons, List.length_nil, if_true, if_false, List.cons_append, List.nil_append, List.append_nil, Bool.not_true, Bool.not_false, Nat.zero_add, Nat.sub_zero, reduceIte, reduceCtorEq, retR_ret, List.reduceReplicate, Bool.and_true, Bool.true_and, Bool.and_false, Bool.false_and, beq_self_eq_true, Bool.false_eq_true]
    rw [scanR (n := xs.length) (ok := fun i => xs[i]? == ys[i]?) (r := [.bool false])]
    · rw [scan_eq hl]
      simp only [Er_leaf]
      cases xs == ys <;> rfl
    · intro i hi hok
      have hi' : i < ys.length := by omega
      have ex := List.getElem?_eq_getElem hi
      have ey := List.getElem?_eq_getElem hi'
      rw [ex, ey] at hok
      have hlt : decide ((i : Int) < xs.length) = true := by simp; omega
      have hadd := @run_add (i : Int) 1 (by omega) (by omega)
      have hok1 : (xs[i] == ys[i]) = true := by simpa using hok
      have hok' := hok1
      simp only [rI_inb hi, rI_inb hi', rI_row ex, rI_row ey, hlt, hadd, hok', Er_lt0, Er_ltg, Er_call0, Er_callg, Er_ite, Er_leaf, stepT_0, stepT_1, stepT_2, stepT_3, stepT_4, stepT_5, stepT_6, iteT_true, iteT_false, ltT_tt, ltT_ff, ltT_tf, ltT_ft, callT_tt, callT_ff, callT_tf, callT_ft, rI_len, rP_len, run_neq, run_eql, run_lss, run_not, run_pick, run_eqb, run_eqs2, Atom.val, List.map, List.getD_cons_zero, List.getD_cons_succ, Option.bind_some, List.length_cons, List.length_nil, if_true, if_false, List.cons_append, List.nil_append, List.append_nil, Bool.not_true, Bool.not_false, Nat.zero_add, Nat.sub_zero, reduceIte, reduceCtorEq, retR_ret, List.reduceReplicate, Bool.and_true, Bool.true_and, Bool.and_false, Bool.false_and, beq_self_eq_true, Bool.false_eq_true]
    · intro i hi hok
      have hi' : i < ys.length := by omega
      have ex := List.getElem?_eq_getElem hi
      have ey := List.getElem?_eq_getElem hi'
      rw [ex, ey] at hok
      have hlt : decide ((i : Int) < xs.length) = true := by simp; omega
      have hadd := @run_add (i : Int) 1 (by omega) (by omega)
      have hok1 : (xs[i] == ys[i]) = false := by simpa using hok
      have hok' := hok1
      simp only [rI_inb hi, rI_inb hi', rI_row ex, rI_row ey, hlt, hadd, hok', Er_lt0, Er_ltg, Er_call0, Er_callg, Er_ite, Er_leaf, stepT_0, stepT_1, stepT_2, stepT_3, stepT_4, stepT_5, stepT_6, iteT_true, iteT_false, ltT_tt, ltT_ff, ltT_tf, ltT_ft, callT_tt, callT_ff, callT_tf, callT_ft, rI_len, rP_len, run_neq, run_eql, run_lss, run_not, run_pick, run_eqb, run_eqs2, Atom.val, List.map, List.getD_cons_zero, List.getD_cons_succ, Option.bind_some, List.length_cons, List.length_nil, if_true, if_false, List.cons_append, List.nil_append, List.append_nil, Bool.not_true, Bool.not_false, Nat.zero_add, Nat.sub_zero, reduceIte, reduceCtorEq, retR_ret, List.reduceReplicate, Bool.and_true, Bool.true_and, Bool.and_false, Bool.false_and, beq_self_eq_true, Bool.false_eq_true]
    · have hlt : decide ((xs.length : Int) < xs.length) = false := by simp
      simp only [hlt, Er_lt0, Er_ltg, Er_call0, Er_callg, Er_ite, Er_leaf, stepT_0, stepT_1, stepT_2, stepT_3, stepT_4, stepT_5, stepT_6, iteT_true, iteT_false, ltT_tt, ltT_ff, ltT_tf, ltT_ft, callT_tt, callT_ff, callT_tf, callT_ft, rI_len, rP_len, run_neq, run_eql, run_lss, run_not, run_pick, run_eqb, run_eqs2, Atom.val, List.map, List.getD_cons_zero, List.getD_cons_succ, Option.bind_some, List.length_cons, List.length_nil, if_true, if_false, List.cons_append, List.nil_append, List.append_nil, Bool.not_true, Bool.not_false, Nat.zero_add, Nat.sub_zero, reduceIte, reduceCtorEq, retR_ret, List.reduceReplicate, Bool.and_true, Bool.true_and, Bool.and_false, Bool.false_and, beq_self_eq_true, Bool.false_eq_true]
  · have hl' : ((xs.length : Int) == (ys.length : Int)) = false := by simp; omega
    have e : (xs == ys) = false := beq_len hl
    simp only [e, hl', Er_lt0, Er_ltg, Er_call0, Er_callg, Er_ite, Er_leaf, stepT_0, stepT_1, stepT_2, stepT_3, stepT_4, stepT_5, stepT_6, iteT_true, iteT_false, ltT_tt, ltT_ff, ltT_tf, ltT_ft, callT_tt, callT_ff, callT_tf, callT_ft, rI_len, rP_len, run_neq, run_eql, run_lss, run_not, run_pick, run_eqb, run_eqs2, Atom.val, List.map, List.getD_cons_zero, List.getD_cons_succ, Option.bind_some, List.length_cons, List.length_nil, if_true, if_false, List.cons_append, List.nil_append, List.append_nil, Bool.not_true, Bool.not_false, Nat.zero_add, Nat.sub_zero, reduceIte, reduceCtorEq, retR_ret, List.reduceReplicate, Bool.and_true, Bool.true_and, Bool.and_false, Bool.false_and, beq_self_eq_true, Bool.false_eq_true]
theorem eq15 (xs ys : List (Int × Int)) (hx : xs.length * 16 ≤ reachBytes) (hy : ys.length * 16 ≤ reachBytes) : Fun T 15 [rP xs, rP ys] = some [.bool (xs == ys)] := by
  rw [Fun_r (t := tm15) rfl]
  unfold tm15
  unfold reachBytes at hx hy
  by_cases hl : xs.length = ys.length
  · have hl' : ((xs.length : Int) == (ys.length : Int)) = true := by simp [hl]
    simp only [hl', Er_lt0, Er_ltg, Er_call0, Er_callg, Er_ite, Er_leaf, stepT_0, stepT_1, stepT_2, stepT_3, stepT_4, stepT_5, stepT_6, iteT_true, iteT_false, ltT_tt, ltT_ff, ltT_tf, ltT_ft, callT_tt, callT_ff, callT_tf, callT_ft, rI_len, rP_len, run_neq, run_eql, run_lss, run_not, run_pick, run_eqb, run_eqs2, Atom.val, List.map, List.getD_cons_zero, List.getD_cons_succ, Option.bind_some, List.length_cons, List.length_nil, if_true, if_false, List.cons_append, List.nil_append, List.append_nil, Bool.not_true, Bool.not_false, Nat.zero_add, Nat.sub_zero, reduceIte, reduceCtorEq, retR_ret, List.reduceReplicate, Bool.and_true, Bool.true_and, Bool.and_false, Bool.false_and, beq_self_eq_true, Bool.false_eq_true]
    rw [scanR (n := xs.length) (ok := fun i => xs[i]? == ys[i]?) (r := [.bool false])]
    · rw [scan_eq hl]
      simp only [Er_leaf]
      cases xs == ys <;> rfl
    · intro i hi hok
      have hi' : i < ys.length := by omega
      have ex := List.getElem?_eq_getElem hi
      have ey := List.getElem?_eq_getElem hi'
      rw [ex, ey] at hok
      have hlt : decide ((i : Int) < xs.length) = true := by simp; omega
      have hadd := @run_add (i : Int) 1 (by omega) (by omega)
      have hok1 : (xs[i] == ys[i]) = true := by simpa using hok
      have hok' : ((xs[i]).1 == (ys[i]).1 && (xs[i]).2 == (ys[i]).2) = true := by rw [← pair_beq]; exact hok1
      simp only [rP_inb hi, rP_inb hi', rP_row ex, rP_row ey, hlt, hadd, hok', eq16, Er_lt0, Er_ltg, Er_call0, Er_callg, Er_ite, Er_leaf, stepT_0, stepT_1, stepT_2, stepT_3, stepT_4, stepT_5, stepT_6, iteT_true, iteT_false, ltT_tt, ltT_ff, ltT_tf, ltT_ft, callT_tt, callT_ff, callT_tf, callT_ft, rI_len, rP_len, run_neq, run_eql, run_lss, run_not, run_pick, run_eqb, run_eqs2, Atom.val, List.map, List.getD_cons_zero, List.getD_cons_succ, Option.bind_some, List.length_cons, List.length_nil, if_true, if_false, List.cons_append, List.nil_append, List.append_nil, Bool.not_true, Bool.not_false, Nat.zero_add, Nat.sub_zero, reduceIte, reduceCtorEq, retR_ret, List.reduceReplicate, Bool.and_true, Bool.true_and, Bool.and_false, Bool.false_and, beq_self_eq_true, Bool.false_eq_true]
    · intro i hi hok
      have hi' : i < ys.length := by omega
      have ex := List.getElem?_eq_getElem hi
      have ey := List.getElem?_eq_getElem hi'
      rw [ex, ey] at hok
      have hlt : decide ((i : Int) < xs.length) = true := by simp; omega
      have hadd := @run_add (i : Int) 1 (by omega) (by omega)
      have hok1 : (xs[i] == ys[i]) = false := by simpa using hok
      have hok' : ((xs[i]).1 == (ys[i]).1 && (xs[i]).2 == (ys[i]).2) = false := by rw [← pair_beq]; exact hok1
      simp only [rP_inb hi, rP_inb hi', rP_row ex, rP_row ey, hlt, hadd, hok', eq16, Er_lt0, Er_ltg, Er_call0, Er_callg, Er_ite, Er_leaf, stepT_0, stepT_1, stepT_2, stepT_3, stepT_4, stepT_5, stepT_6, iteT_true, iteT_false, ltT_tt, ltT_ff, ltT_tf, ltT_ft, callT_tt, callT_ff, callT_tf, callT_ft, rI_len, rP_len, run_neq, run_eql, run_lss, run_not, run_pick, run_eqb, run_eqs2, Atom.val, List.map, List.getD_cons_zero, List.getD_cons_succ, Option.bind_some, List.length_cons, List.length_nil, if_true, if_false, List.cons_append, List.nil_append, List.append_nil, Bool.not_true, Bool.not_false, Nat.zero_add, Nat.sub_zero, reduceIte, reduceCtorEq, retR_ret, List.reduceReplicate, Bool.and_true, Bool.true_and, Bool.and_false, Bool.false_and, beq_self_eq_true, Bool.false_eq_true]
    · have hlt : decide ((xs.length : Int) < xs.length) = false := by simp
      simp only [hlt, Er_lt0, Er_ltg, Er_call0, Er_callg, Er_ite, Er_leaf, stepT_0, stepT_1, stepT_2, stepT_3, stepT_4, stepT_5, stepT_6, iteT_true, iteT_false, ltT_tt, ltT_ff, ltT_tf, ltT_ft, callT_tt, callT_ff, callT_tf, callT_ft, rI_len, rP_len, run_neq, run_eql, run_lss, run_not, run_pick, run_eqb, run_eqs2, Atom.val, List.map, List.getD_cons_zero, List.getD_cons_succ, Option.bind_some, List.length_cons, List.length_nil, if_true, if_false, List.cons_append, List.nil_append, List.append_nil, Bool.not_true, Bool.not_false, Nat.zero_add, Nat.sub_zero, reduceIte, reduceCtorEq, retR_ret, List.reduceReplicate, Bool.and_true, Bool.true_and, Bool.and_false, Bool.false_and, beq_self_eq_true, Bool.false_eq_true]
  · have hl' : ((xs.length : Int) == (ys.length : Int)) = false := by simp; omega
    have e : (xs == ys) = false := beq_len hl
    simp only [e, hl', Er_lt0, Er_ltg, Er_call0, Er_callg, Er_ite, Er_leaf, stepT_0, stepT_1, stepT_2, stepT_3, stepT_4, stepT_5, stepT_6, iteT_true, iteT_false, ltT_tt, ltT_ff, ltT_tf, ltT_ft, callT_tt, callT_ff, callT_tf, callT_ft, rI_len, rP_len, run_neq, run_eql, run_lss, run_not, run_pick, run_eqb, run_eqs2, Atom.val, List.map, List.getD_cons_zero, List.getD_cons_succ, Option.bind_some, List.length_cons, List.length_nil, if_true, if_false, List.cons_append, List.nil_append, List.append_nil, Bool.not_true, Bool.not_false, Nat.zero_add, Nat.sub_zero, reduceIte, reduceCtorEq, retR_ret, List.reduceReplicate, Bool.and_true, Bool.true_and, Bool.and_false, Bool.false_and, beq_self_eq_true, Bool.false_eq_true]
theorem cp5 (xs : List Int) (hx : xs.length * 8 ≤ reachBytes) : Fun T 5 [rI xs] = some [rI xs] := by
  rw [Fun_r (t := tm5) rfl]
  unfold tm5
  have hm := @rI_make xs.length 8 (by unfold reachBytes at hx; unfold boundB; omega)
  unfold reachBytes at hx
  simp only [hm, Er_lt0, Er_ltg, Er_call0, Er_callg, Er_ite, Er_leaf, stepT_0, stepT_1, stepT_2, stepT_3, stepT_4, stepT_5, stepT_6, iteT_true, iteT_false, ltT_tt, ltT_ff, ltT_tf, ltT_ft, callT_tt, callT_ff, callT_tf, callT_ft, rI_len, rP_len, run_neq, run_eql, run_lss, run_not, run_pick, run_eqb, run_eqs2, Atom.val, List.map, List.getD_cons_zero, List.getD_cons_succ, Option.bind_some, List.length_cons, List.length_nil, if_true, if_false, List.cons_append, List.nil_append, List.append_nil, Bool.not_true, Bool.not_false, Nat.zero_add, Nat.sub_zero, reduceIte, reduceCtorEq, retR_ret, List.reduceReplicate, Bool.and_true, Bool.true_and, Bool.and_false, Bool.false_and, beq_self_eq_true, Bool.false_eq_true]
  rw [foldR (n := xs.length) (st := fun i => rI (upto 0 xs i))]
  · simp only [upto_all, Er_lt0, Er_ltg, Er_call0, Er_callg, Er_ite, Er_leaf, stepT_0, stepT_1, stepT_2, stepT_3, stepT_4, stepT_5, stepT_6, iteT_true, iteT_false, ltT_tt, ltT_ff, ltT_tf, ltT_ft, callT_tt, callT_ff, callT_tf, callT_ft, rI_len, rP_len, run_neq, run_eql, run_lss, run_not, run_pick, run_eqb, run_eqs2, Atom.val, List.map, List.getD_cons_zero, List.getD_cons_succ, Option.bind_some, List.length_cons, List.length_nil, if_true, if_false, List.cons_append, List.nil_append, List.append_nil, Bool.not_true, Bool.not_false, Nat.zero_add, Nat.sub_zero, reduceIte, reduceCtorEq, retR_ret, List.reduceReplicate, Bool.and_true, Bool.true_and, Bool.and_false, Bool.false_and, beq_self_eq_true, Bool.false_eq_true]
  · rw [upto_zero]; rfl
  · intro i hi
    have ex := List.getElem?_eq_getElem hi
    have hlt : decide ((i : Int) < xs.length) = true := by simp; omega
    have hadd := @run_add (i : Int) 1 (by omega) (by omega)
    have hlen := upto_len 0 xs (Nat.le_of_lt hi)
    have hu := upto_set 0 xs ex
    have hi2 : i < (upto 0 xs i).length := by omega
    simp only [rI_inb hi, rI_row ex, rI_inb hi2, rI_set hi2, hu, hlt, hadd, Prod.eta, Er_lt0, Er_ltg, Er_call0, Er_callg, Er_ite, Er_leaf, stepT_0, stepT_1, stepT_2, stepT_3, stepT_4, stepT_5, stepT_6, iteT_true, iteT_false, ltT_tt, ltT_ff, ltT_tf, ltT_ft, callT_tt, callT_ff, callT_tf, callT_ft, rI_len, rP_len, run_neq, run_eql, run_lss, run_not, run_pick, run_eqb, run_eqs2, Atom.val, List.map, List.getD_cons_zero, List.getD_cons_succ, Option.bind_some, List.length_cons, List.length_nil, if_true, if_false, List.cons_append, List.nil_append, List.append_nil, Bool.not_true, Bool.not_false, Nat.zero_add, Nat.sub_zero, reduceIte, reduceCtorEq, retR_ret, List.reduceReplicate, Bool.and_true, Bool.true_and, Bool.and_false, Bool.false_and, beq_self_eq_true, Bool.false_eq_true]
  · have hlt : decide ((xs.length : Int) < xs.length) = false := by simp
    simp only [hlt, upto_all, Er_lt0, Er_ltg, Er_call0, Er_callg, Er_ite, Er_leaf, stepT_0, stepT_1, stepT_2, stepT_3, stepT_4, stepT_5, stepT_6, iteT_true, iteT_false, ltT_tt, ltT_ff, ltT_tf, ltT_ft, callT_tt, callT_ff, callT_tf, callT_ft, rI_len, rP_len, run_neq, run_eql, run_lss, run_not, run_pick, run_eqb, run_eqs2, Atom.val, List.map, List.getD_cons_zero, List.getD_cons_succ, Option.bind_some, List.length_cons, List.length_nil, if_true, if_false, List.cons_append, List.nil_append, List.append_nil, Bool.not_true, Bool.not_false, Nat.zero_add, Nat.sub_zero, reduceIte, reduceCtorEq, retR_ret, List.reduceReplicate, Bool.and_true, Bool.true_and, Bool.and_false, Bool.false_and, beq_self_eq_true, Bool.false_eq_true]
theorem cp6 (xs : List (Int × Int)) (hx : xs.length * 16 ≤ reachBytes) : Fun T 6 [rP xs] = some [rP xs] := by
  rw [Fun_r (t := tm6) rfl]
  unfold tm6
  have hm := @rP_make xs.length 16 (by unfold reachBytes at hx; unfold boundB; omega)
  unfold reachBytes at hx
  simp only [hm, Er_lt0, Er_ltg, Er_call0, Er_callg, Er_ite, Er_leaf, stepT_0, stepT_1, stepT_2, stepT_3, stepT_4, stepT_5, stepT_6, iteT_true, iteT_false, ltT_tt, ltT_ff, ltT_tf, ltT_ft, callT_tt, callT_ff, callT_tf, callT_ft, rI_len, rP_len, run_neq, run_eql, run_lss, run_not, run_pick, run_eqb, run_eqs2, Atom.val, List.map, List.getD_cons_zero, List.getD_cons_succ, Option.bind_some, List.length_cons, List.length_nil, if_true, if_false, List.cons_append, List.nil_append, List.append_nil, Bool.not_true, Bool.not_false, Nat.zero_add, Nat.sub_zero, reduceIte, reduceCtorEq, retR_ret, List.reduceReplicate, Bool.and_true, Bool.true_and, Bool.and_false, Bool.false_and, beq_self_eq_true, Bool.false_eq_true]
  rw [foldR (n := xs.length) (st := fun i => rP (upto (0, 0) xs i))]
  · simp only [upto_all, Er_lt0, Er_ltg, Er_call0, Er_callg, Er_ite, Er_leaf, stepT_0, stepT_1, stepT_2, stepT_3, stepT_4, stepT_5, stepT_6, iteT_true, iteT_false, ltT_tt, ltT_ff, ltT_tf, ltT_ft, callT_tt, callT_ff, callT_tf, callT_ft, rI_len, rP_len, run_neq, run_eql, run_lss, run_not, run_pick, run_eqb, run_eqs2, Atom.val, List.map, List.getD_cons_zero, List.getD_cons_succ, Option.bind_some, List.length_cons, List.length_nil, if_true, if_false, List.cons_append, List.nil_append, List.append_nil, Bool.not_true, Bool.not_false, Nat.zero_add, Nat.sub_zero, reduceIte, reduceCtorEq, retR_ret, List.reduceReplicate, Bool.and_true, Bool.true_and, Bool.and_false, Bool.false_and, beq_self_eq_true, Bool.false_eq_true]
  · rw [upto_zero]; rfl
  · intro i hi
    have ex := List.getElem?_eq_getElem hi
    have hlt : decide ((i : Int) < xs.length) = true := by simp; omega
    have hadd := @run_add (i : Int) 1 (by omega) (by omega)
    have hlen := upto_len (0, 0) xs (Nat.le_of_lt hi)
    have hu := upto_set (0, 0) xs ex
    have hi2 : i < (upto (0, 0) xs i).length := by omega
    simp only [rP_inb hi, rP_row ex, rP_inb hi2, rP_set hi2, hu, hlt, hadd, id7, Prod.eta, Er_lt0, Er_ltg, Er_call0, Er_callg, Er_ite, Er_leaf, stepT_0, stepT_1, stepT_2, stepT_3, stepT_4, stepT_5, stepT_6, iteT_true, iteT_false, ltT_tt, ltT_ff, ltT_tf, ltT_ft, callT_tt, callT_ff, callT_tf, callT_ft, rI_len, rP_len, run_neq, run_eql, run_lss, run_not, run_pick, run_eqb, run_eqs2, Atom.val, List.map, List.getD_cons_zero, List.getD_cons_succ, Option.bind_some, List.length_cons, List.length_nil, if_true, if_false, List.cons_append, List.nil_append, List.append_nil, Bool.not_true, Bool.not_false, Nat.zero_add, Nat.sub_zero, reduceIte, reduceCtorEq, retR_ret, List.reduceReplicate, Bool.and_true, Bool.true_and, Bool.and_false, Bool.false_and, beq_self_eq_true, Bool.false_eq_true]
  · have hlt : decide ((xs.length : Int) < xs.length) = false := by simp
    simp only [hlt, upto_all, Er_lt0, Er_ltg, Er_call0, Er_callg, Er_ite, Er_leaf, stepT_0, stepT_1, stepT_2, stepT_3, stepT_4, stepT_5, stepT_6, iteT_true, iteT_false, ltT_tt, ltT_ff, ltT_tf, ltT_ft, callT_tt, callT_ff, callT_tf, callT_ft, rI_len, rP_len, run_neq, run_eql, run_lss, run_not, run_pick, run_eqb, run_eqs2, Atom.val, List.map, List.getD_cons_zero, List.getD_cons_succ, Option.bind_some, List.length_cons, List.length_nil, if_true, if_false, List.cons_append, List.nil_append, List.append_nil, Bool.not_true, Bool.not_false, Nat.zero_add, Nat.sub_zero, reduceIte, reduceCtorEq, retR_ret, List.reduceReplicate, Bool.and_true, Bool.true_and, Bool.and_false, Bool.false_and, beq_self_eq_true, Bool.false_eq_true]
theorem cp4 (a b : List Int) (c : List (Int × Int)) (ha : a.length * 8 ≤ reachBytes) (hb : b.length * 8 ≤ reachBytes) (hc : c.length * 16 ≤ reachBytes) : Fun T 4 [rI a, rI b, rP c] = some [rI a, rI b, rP c] := by
  rw [Fun_r (t := tm4) rfl]
  unfold tm4
  simp only [cp5 a ha, cp5 b hb, cp6 c hc, Er_lt0, Er_ltg, Er_call0, Er_callg, Er_ite, Er_leaf, stepT_0, stepT_1, stepT_2, stepT_3, stepT_4, stepT_5, stepT_6, iteT_true, iteT_false, ltT_tt, ltT_ff, ltT_tf, ltT_ft, callT_tt, callT_ff, callT_tf, callT_ft, rI_len, rP_len, run_neq, run_eql, run_lss, run_not, run_pick, run_eqb, run_eqs2, Atom.val, List.map, List.getD_cons_zero, List.getD_cons_succ, Option.bind_some, List.length_cons, List.length_nil, if_true, if_false, List.cons_append, List.nil_append, List.append_nil, Bool.not_true, Bool.not_false, Nat.zero_add, Nat.sub_zero, reduceIte, reduceCtorEq, retR_ret, List.reduceReplicate, Bool.and_true, Bool.true_and, Bool.and_false, Bool.false_and, beq_self_eq_true, Bool.false_eq_true]
theorem sz1 (a b : List Int) (c : List (Int × Int)) (l : Int) (h1 : 0 ≤ l) (h2 : l ≤ 1048576) (ha : a.length * 8 ≤ reachBytes) (hb : b.length * 8 ≤ reachBytes) (hc : c.length * 16 ≤ reachBytes) : ∃ v, Fun T 1 [rI a, rI b, rP c, i64 l] = some [i64 v] ∧ -1 ≤ v ∧ v ≤ l := by
  rw [Fun_r (t := tm1) rfl]
  unfold tm1
  obtain ⟨v1, e1, p1, q1⟩ := sz2 a l h1 h2 ha
  by_cases n1 : v1 < 0
  · have n1' : decide (v1 < 0) = true := by simpa using n1
    exact ⟨-1, by simp only [e1, n1', Er_lt0, Er_ltg, Er_call0, Er_callg, Er_ite, Er_leaf, stepT_0, stepT_1, stepT_2, stepT_3, stepT_4, stepT_5, stepT_6, iteT_true, iteT_false, ltT_tt, ltT_ff, ltT_tf, ltT_ft, callT_tt, callT_ff, callT_tf, callT_ft, rI_len, rP_len, run_neq, run_eql, run_lss, run_not, run_pick, run_eqb, run_eqs2, Atom.val, List.map, List.getD_cons_zero, List.getD_cons_succ, Option.bind_some, List.length_cons, List.length_nil, if_true, if_false, List.cons_append, List.nil_append, List.append_nil, Bool.not_true, Bool.not_false, Nat.zero_add, Nat.sub_zero, reduceIte, reduceCtorEq, retR_ret, List.reduceReplicate, Bool.and_true, Bool.true_and, Bool.and_false, Bool.false_and, beq_self_eq_true, Bool.false_eq_true], by omega, by omega⟩
  have n1' : decide (v1 < 0) = false := by simpa using n1
  obtain ⟨v2, e2, p2, q2⟩ := sz2 b v1 (by omega) (by omega) hb
  by_cases n2 : v2 < 0
  · have n2' : decide (v2 < 0) = true := by simpa using n2
    exact ⟨-1, by simp only [e1, n1', e2, n2', Er_lt0, Er_ltg, Er_call0, Er_callg, Er_ite, Er_leaf, stepT_0, stepT_1, stepT_2, stepT_3, stepT_4, stepT_5, stepT_6, iteT_true, iteT_false, ltT_tt, ltT_ff, ltT_tf, ltT_ft, callT_tt, callT_ff, callT_tf, callT_ft, rI_len, rP_len, run_neq, run_eql, run_lss, run_not, run_pick, run_eqb, run_eqs2, Atom.val, List.map, List.getD_cons_zero, List.getD_cons_succ, Option.bind_some, List.length_cons, List.length_nil, if_true, if_false, List.cons_append, List.nil_append, List.append_nil, Bool.not_true, Bool.not_false, Nat.zero_add, Nat.sub_zero, reduceIte, reduceCtorEq, retR_ret, List.reduceReplicate, Bool.and_true, Bool.true_and, Bool.and_false, Bool.false_and, beq_self_eq_true, Bool.false_eq_true], by omega, by omega⟩
  have n2' : decide (v2 < 0) = false := by simpa using n2
  obtain ⟨v3, e3, p3, q3⟩ := sz3 c v2 (by omega) (by omega) hc
  by_cases n3 : v3 < 0
  · have n3' : decide (v3 < 0) = true := by simpa using n3
    exact ⟨-1, by simp only [e1, n1', e2, n2', e3, n3', Er_lt0, Er_ltg, Er_call0, Er_callg, Er_ite, Er_leaf, stepT_0, stepT_1, stepT_2, stepT_3, stepT_4, stepT_5, stepT_6, iteT_true, iteT_false, ltT_tt, ltT_ff, ltT_tf, ltT_ft, callT_tt, callT_ff, callT_tf, callT_ft, rI_len, rP_len, run_neq, run_eql, run_lss, run_not, run_pick, run_eqb, run_eqs2, Atom.val, List.map, List.getD_cons_zero, List.getD_cons_succ, Option.bind_some, List.length_cons, List.length_nil, if_true, if_false, List.cons_append, List.nil_append, List.append_nil, Bool.not_true, Bool.not_false, Nat.zero_add, Nat.sub_zero, reduceIte, reduceCtorEq, retR_ret, List.reduceReplicate, Bool.and_true, Bool.true_and, Bool.and_false, Bool.false_and, beq_self_eq_true, Bool.false_eq_true], by omega, by omega⟩
  have n3' : decide (v3 < 0) = false := by simpa using n3
  exact ⟨v3, by simp only [e1, n1', e2, n2', e3, n3', Er_lt0, Er_ltg, Er_call0, Er_callg, Er_ite, Er_leaf, stepT_0, stepT_1, stepT_2, stepT_3, stepT_4, stepT_5, stepT_6, iteT_true, iteT_false, ltT_tt, ltT_ff, ltT_tf, ltT_ft, callT_tt, callT_ff, callT_tf, callT_ft, rI_len, rP_len, run_neq, run_eql, run_lss, run_not, run_pick, run_eqb, run_eqs2, Atom.val, List.map, List.getD_cons_zero, List.getD_cons_succ, Option.bind_some, List.length_cons, List.length_nil, if_true, if_false, List.cons_append, List.nil_append, List.append_nil, Bool.not_true, Bool.not_false, Nat.zero_add, Nat.sub_zero, reduceIte, reduceCtorEq, retR_ret, List.reduceReplicate, Bool.and_true, Bool.true_and, Bool.and_false, Bool.false_and, beq_self_eq_true, Bool.false_eq_true], by omega, by omega⟩
theorem eq13 (a a' b b' : List Int) (c c' : List (Int × Int)) (ha : a.length * 8 ≤ reachBytes) (hb : b.length * 8 ≤ reachBytes) (hc : c.length * 16 ≤ reachBytes) (ha' : a'.length * 8 ≤ reachBytes) (hb' : b'.length * 8 ≤ reachBytes) (hc' : c'.length * 16 ≤ reachBytes) :
    Fun T 13 [rI a, rI b, rP c, rI a', rI b', rP c'] = some [.bool (a == a' && b == b' && c == c')] := by
  rw [Fun_r (t := tm13) rfl]
  unfold tm13
  have e1 := eq14 a a' ha ha'
  have e2 := eq14 b b' hb hb'
  have e3 := eq15 c c' hc hc'
  cases h1 : a == a'
  · simp only [e1, h1, Er_lt0, Er_ltg, Er_call0, Er_callg, Er_ite, Er_leaf, stepT_0, stepT_1, stepT_2, stepT_3, stepT_4, stepT_5, stepT_6, iteT_true, iteT_false, ltT_tt, ltT_ff, ltT_tf, ltT_ft, callT_tt, callT_ff, callT_tf, callT_ft, rI_len, rP_len, run_neq, run_eql, run_lss, run_not, run_pick, run_eqb, run_eqs2, Atom.val, List.map, List.getD_cons_zero, List.getD_cons_succ, Option.bind_some, List.length_cons, List.length_nil, if_true, if_false, List.cons_append, List.nil_append, List.append_nil, Bool.not_true, Bool.not_false, Nat.zero_add, Nat.sub_zero, reduceIte, reduceCtorEq, retR_ret, List.reduceReplicate, Bool.and_true, Bool.true_and, Bool.and_false, Bool.false_and, beq_self_eq_true, Bool.false_eq_true]
  cases h2 : b == b'
  · simp only [e1, h1, e2, h2, Er_lt0, Er_ltg, Er_call0, Er_callg, Er_ite, Er_leaf, stepT_0, stepT_1, stepT_2, stepT_3, stepT_4, stepT_5, stepT_6, iteT_true, iteT_false, ltT_tt, ltT_ff, ltT_tf, ltT_ft, callT_tt, callT_ff, callT_tf, callT_ft, rI_len, rP_len, run_neq, run_eql, run_lss, run_not, run_pick, run_eqb, run_eqs2, Atom.val, List.map, List.getD_cons_zero, List.getD_cons_succ, Option.bind_some, List.length_cons, List.length_nil, if_true, if_false, List.cons_append, List.nil_append, List.append_nil, Bool.not_true, Bool.not_false, Nat.zero_add, Nat.sub_zero, reduceIte, reduceCtorEq, retR_ret, List.reduceReplicate, Bool.and_true, Bool.true_and, Bool.and_false, Bool.false_and, beq_self_eq_true, Bool.false_eq_true]
  cases h3 : c == c' <;> simp only [e1, h1, e2, h2, e3, h3, Er_lt0, Er_ltg, Er_call0, Er_callg, Er_ite, Er_leaf, stepT_0, stepT_1, stepT_2, stepT_3, stepT_4, stepT_5, stepT_6, iteT_true, iteT_false, ltT_tt, ltT_ff, ltT_tf, ltT_ft, callT_tt, callT_ff, callT_tf, callT_ft, rI_len, rP_len, run_neq, run_eql, run_lss, run_not, run_pick, run_eqb, run_eqs2, Atom.val, List.map, List.getD_cons_zero, List.getD_cons_succ, Option.bind_some, List.length_cons, List.length_nil, if_true, if_false, List.cons_append, List.nil_append, List.append_nil, Bool.not_true, Bool.not_false, Nat.zero_add, Nat.sub_zero, reduceIte, reduceCtorEq, retR_ret, List.reduceReplicate, Bool.and_true, Bool.true_and, Bool.and_false, Bool.false_and, beq_self_eq_true, Bool.false_eq_true]
theorem eq10 (a a' b b' : List Int) (c c' : List (Int × Int)) (ha : a.length * 8 ≤ reachBytes) (hb : b.length * 8 ≤ reachBytes) (hc : c.length * 16 ≤ reachBytes) (ha' : a'.length * 8 ≤ reachBytes) (hb' : b'.length * 8 ≤ reachBytes) (hc' : c'.length * 16 ≤ reachBytes) :
    Fun T 10 [rI a, rI b, rP c, rI a', rI b', rP c'] = some [.bool (a == a' && b == b' && c == c')] := by
  rw [Fun_r (t := tm10) rfl]
  unfold tm10
  have e1 := eq11 a a' ha ha'
  have e2 := eq11 b b' hb hb'
  have e3 := eq12 c c' hc hc'
  cases h1 : a == a'
  · simp only [e1, h1, Er_lt0, Er_ltg, Er_call0, Er_callg, Er_ite, Er_leaf, stepT_0, stepT_1, stepT_2, stepT_3, stepT_4, stepT_5, stepT_6, iteT_true, iteT_false, ltT_tt, ltT_ff, ltT_tf, ltT_ft, callT_tt, callT_ff, callT_tf, callT_ft, rI_len, rP_len, run_neq, run_eql, run_lss, run_not, run_pick, run_eqb, run_eqs2, Atom.val, List.map, List.getD_cons_zero, List.getD_cons_succ, Option.bind_some, List.length_cons, List.length_nil, if_true, if_false, List.cons_append, List.nil_append, List.append_nil, Bool.not_true, Bool.not_false, Nat.zero_add, Nat.sub_zero, reduceIte, reduceCtorEq, retR_ret, List.reduceReplicate, Bool.and_true, Bool.true_and, Bool.and_false, Bool.false_and, beq_self_eq_true, Bool.false_eq_true]
  cases h2 : b == b'
  · simp only [e1, h1, e2, h2, Er_lt0, Er_ltg, Er_call0, Er_callg, Er_ite, Er_leaf, stepT_0, stepT_1, stepT_2, stepT_3, stepT_4, stepT_5, stepT_6, iteT_true, iteT_false, ltT_tt, ltT_ff, ltT_tf, ltT_ft, callT_tt, callT_ff, callT_tf, callT_ft, rI_len, rP_len, run_neq, run_eql, run_lss, run_not, run_pick, run_eqb, run_eqs2, Atom.val, List.map, List.getD_cons_zero, List.getD_cons_succ, Option.bind_some, List.length_cons, List.length_nil, if_true, if_false, List.cons_append, List.nil_append, List.append_nil, Bool.not_true, Bool.not_false, Nat.zero_add, Nat.sub_zero, reduceIte, reduceCtorEq, retR_ret, List.reduceReplicate, Bool.and_true, Bool.true_and, Bool.and_false, Bool.false_and, beq_self_eq_true, Bool.false_eq_true]
  cases h3 : c == c' <;> simp only [e1, h1, e2, h2, e3, h3, Er_lt0, Er_ltg, Er_call0, Er_callg, Er_ite, Er_leaf, stepT_0, stepT_1, stepT_2, stepT_3, stepT_4, stepT_5, stepT_6, iteT_true, iteT_false, ltT_tt, ltT_ff, ltT_tf, ltT_ft, callT_tt, callT_ff, callT_tf, callT_ft, rI_len, rP_len, run_neq, run_eql, run_lss, run_not, run_pick, run_eqb, run_eqs2, Atom.val, List.map, List.getD_cons_zero, List.getD_cons_succ, Option.bind_some, List.length_cons, List.length_nil, if_true, if_false, List.cons_append, List.nil_append, List.append_nil, Bool.not_true, Bool.not_false, Nat.zero_add, Nat.sub_zero, reduceIte, reduceCtorEq, retR_ret, List.reduceReplicate, Bool.and_true, Bool.true_and, Bool.and_false, Bool.false_and, beq_self_eq_true, Bool.false_eq_true]
theorem eq8 (a a' b b' : List Int) (c c' : List (Int × Int)) (ha : a.length * 8 ≤ reachBytes) (hb : b.length * 8 ≤ reachBytes) (hc : c.length * 16 ≤ reachBytes) (ha' : a'.length * 8 ≤ reachBytes) (hb' : b'.length * 8 ≤ reachBytes) (hc' : c'.length * 16 ≤ reachBytes) :
    Fun T 8 [rI a, rI b, rP c, rI a', rI b', rP c'] = some [.bool (a == a' && b == b' && c == c')] := by
  rw [Fun_r (t := tm8) rfl]
  unfold tm8
  have e1 := eq9 a a' ha ha'
  have e2 := eq9 b b' hb hb'
  unfold reachBytes at hc hc'
  cases h1 : a == a'
  · simp only [e1, h1, Er_lt0, Er_ltg, Er_call0, Er_callg, Er_ite, Er_leaf, stepT_0, stepT_1, stepT_2, stepT_3, stepT_4, stepT_5, stepT_6, iteT_true, iteT_false, ltT_tt, ltT_ff, ltT_tf, ltT_ft, callT_tt, callT_ff, callT_tf, callT_ft, rI_len, rP_len, run_neq, run_eql, run_lss, run_not, run_pick, run_eqb, run_eqs2, Atom.val, List.map, List.getD_cons_zero, List.getD_cons_succ, Option.bind_some, List.length_cons, List.length_nil, if_true, if_false, List.cons_append, List.nil_append, List.append_nil, Bool.not_true, Bool.not_false, Nat.zero_add, Nat.sub_zero, reduceIte, reduceCtorEq, retR_ret, List.reduceReplicate, Bool.and_true, Bool.true_and, Bool.and_false, Bool.false_and, beq_self_eq_true, Bool.false_eq_true]
  cases h2 : b == b'
  · simp only [e1, h1, e2, h2, Er_lt0, Er_ltg, Er_call0, Er_callg, Er_ite, Er_leaf, stepT_0, stepT_1, stepT_2, stepT_3, stepT_4, stepT_5, stepT_6, iteT_true, iteT_false, ltT_tt, ltT_ff, ltT_tf, ltT_ft, callT_tt, callT_ff, callT_tf, callT_ft, rI_len, rP_len, run_neq, run_eql, run_lss, run_not, run_pick, run_eqb, run_eqs2, Atom.val, List.map, List.getD_cons_zero, List.getD_cons_succ, Option.bind_some, List.length_cons, List.length_nil, if_true, if_false, List.cons_append, List.nil_append, List.append_nil, Bool.not_true, Bool.not_false, Nat.zero_add, Nat.sub_zero, reduceIte, reduceCtorEq, retR_ret, List.reduceReplicate, Bool.and_true, Bool.true_and, Bool.and_false, Bool.false_and, beq_self_eq_true, Bool.false_eq_true]
  by_cases hl : c.length = c'.length
  · have hl' : ((c.length : Int) == (c'.length : Int)) = true := by simp [hl]
    simp only [e1, h1, e2, h2, hl', Er_lt0, Er_ltg, Er_call0, Er_callg, Er_ite, Er_leaf, stepT_0, stepT_1, stepT_2, stepT_3, stepT_4, stepT_5, stepT_6, iteT_true, iteT_false, ltT_tt, ltT_ff, ltT_tf, ltT_ft, callT_tt, callT_ff, callT_tf, callT_ft, rI_len, rP_len, run_neq, run_eql, run_lss, run_not, run_pick, run_eqb, run_eqs2, Atom.val, List.map, List.getD_cons_zero, List.getD_cons_succ, Option.bind_some, List.length_cons, List.length_nil, if_true, if_false, List.cons_append, List.nil_append, List.append_nil, Bool.not_true, Bool.not_false, Nat.zero_add, Nat.sub_zero, reduceIte, reduceCtorEq, retR_ret, List.reduceReplicate, Bool.and_true, Bool.true_and, Bool.and_false, Bool.false_and, beq_self_eq_true, Bool.false_eq_true]
    rw [scanR (n := c.length) (ok := fun i => c[i]? == c'[i]?) (r := [.bool false])]
    · rw [scan_eq hl]
      simp only [Er_leaf]
      cases c == c' <;> rfl
    · intro i hi hok
      have hi' : i < c'.length := by omega
      have ex := List.getElem?_eq_getElem hi
      have ey := List.getElem?_eq_getElem hi'
      rw [ex, ey] at hok
      have hlt : decide ((i : Int) < c.length) = true := by simp; omega
      have hadd := @run_add (i : Int) 1 (by omega) (by omega)
      have hok1 : (c[i] == c'[i]) = true := by simpa using hok
      have hok' : ((c[i]).1 == (c'[i]).1 && (c[i]).2 == (c'[i]).2) = true := by rw [← pair_beq]; exact hok1
      simp only [rP_inb hi, rP_inb hi', rP_row ex, rP_row ey, hlt, hadd, hok', Er_lt0, Er_ltg, Er_call0, Er_callg, Er_ite, Er_leaf, stepT_0, stepT_1, stepT_2, stepT_3, stepT_4, stepT_5, stepT_6, iteT_true, iteT_false, ltT_tt, ltT_ff, ltT_tf, ltT_ft, callT_tt, callT_ff, callT_tf, callT_ft, rI_len, rP_len, run_neq, run_eql, run_lss, run_not, run_pick, run_eqb, run_eqs2, Atom.val, List.map, List.getD_cons_zero, List.getD_cons_succ, Option.bind_some, List.length_cons, List.length_nil, if_true, if_false, List.cons_append, List.nil_append, List.append_nil, Bool.not_true, Bool.not_false, Nat.zero_add, Nat.sub_zero, reduceIte, reduceCtorEq, retR_ret, List.reduceReplicate, Bool.and_true, Bool.true_and, Bool.and_false, Bool.false_and, beq_self_eq_true, Bool.false_eq_true]
    · intro i hi hok
      have hi' : i < c'.length := by omega
      have ex := List.getElem?_eq_getElem hi
      have ey := List.getElem?_eq_getElem hi'
      rw [ex, ey] at hok
      have hlt : decide ((i : Int) < c.length) = true := by simp; omega
      have hadd := @run_add (i : Int) 1 (by omega) (by omega)
      have hok1 : (c[i] == c'[i]) = false := by simpa using hok
      have hok' : ((c[i]).1 == (c'[i]).1 && (c[i]).2 == (c'[i]).2) = false := by rw [← pair_beq]; exact hok1
      simp only [rP_inb hi, rP_inb hi', rP_row ex, rP_row ey, hlt, hadd, hok', Er_lt0, Er_ltg, Er_call0, Er_callg, Er_ite, Er_leaf, stepT_0, stepT_1, stepT_2, stepT_3, stepT_4, stepT_5, stepT_6, iteT_true, iteT_false, ltT_tt, ltT_ff, ltT_tf, ltT_ft, callT_tt, callT_ff, callT_tf, callT_ft, rI_len, rP_len, run_neq, run_eql, run_lss, run_not, run_pick, run_eqb, run_eqs2, Atom.val, List.map, List.getD_cons_zero, List.getD_cons_succ, Option.bind_some, List.length_cons, List.length_nil, if_true, if_false, List.cons_append, List.nil_append, List.append_nil, Bool.not_true, Bool.not_false, Nat.zero_add, Nat.sub_zero, reduceIte, reduceCtorEq, retR_ret, List.reduceReplicate, Bool.and_true, Bool.true_and, Bool.and_false, Bool.false_and, beq_self_eq_true, Bool.false_eq_true]
    · have hlt : decide ((c.length : Int) < c.length) = false := by simp
      simp only [hlt, Er_lt0, Er_ltg, Er_call0, Er_callg, Er_ite, Er_leaf, stepT_0, stepT_1, stepT_2, stepT_3, stepT_4, stepT_5, stepT_6, iteT_true, iteT_false, ltT_tt, ltT_ff, ltT_tf, ltT_ft, callT_tt, callT_ff, callT_tf, callT_ft, rI_len, rP_len, run_neq, run_eql, run_lss, run_not, run_pick, run_eqb, run_eqs2, Atom.val, List.map, List.getD_cons_zero, List.getD_cons_succ, Option.bind_some, List.length_cons, List.length_nil, if_true, if_false, List.cons_append, List.nil_append, List.append_nil, Bool.not_true, Bool.not_false, Nat.zero_add, Nat.sub_zero, reduceIte, reduceCtorEq, retR_ret, List.reduceReplicate, Bool.and_true, Bool.true_and, Bool.and_false, Bool.false_and, beq_self_eq_true, Bool.false_eq_true]
  · have hl' : ((c.length : Int) == (c'.length : Int)) = false := by simp; omega
    have h3 : (c == c') = false := beq_len hl
    simp only [e1, h1, e2, h2, h3, hl', Er_lt0, Er_ltg, Er_call0, Er_callg, Er_ite, Er_leaf, stepT_0, stepT_1, stepT_2, stepT_3, stepT_4, stepT_5, stepT_6, iteT_true, iteT_false, ltT_tt, ltT_ff, ltT_tf, ltT_ft, callT_tt, callT_ff, callT_tf, callT_ft, rI_len, rP_len, run_neq, run_eql, run_lss, run_not, run_pick, run_eqb, run_eqs2, Atom.val, List.map, List.getD_cons_zero, List.getD_cons_succ, Option.bind_some, List.length_cons, List.length_nil, if_true, if_false, List.cons_append, List.nil_append, List.append_nil, Bool.not_true, Bool.not_false, Nat.zero_add, Nat.sub_zero, reduceIte, reduceCtorEq, retR_ret, List.reduceReplicate, Bool.and_true, Bool.true_and, Bool.and_false, Bool.false_and, beq_self_eq_true, Bool.false_eq_true]
theorem law (a a' b b' : List Int) (c c' : List (Int × Int)) (ha : a.length * 8 ≤ reachBytes) (hb : b.length * 8 ≤ reachBytes) (hc : c.length * 16 ≤ reachBytes) (ha' : a'.length * 8 ≤ reachBytes) (hb' : b'.length * 8 ≤ reachBytes) (hc' : c'.length * 16 ≤ reachBytes) :
    Fun T 0 [rI a, rI b, rP c, rI a', rI b', rP c'] = some [.bool true] := by
  rw [Fun_r (t := tm0) rfl]
  unfold tm0
  obtain ⟨v1, e1, p1, q1⟩ := sz1 a b c 1048576 (by omega) (by omega) ha hb hc
  by_cases n1 : v1 < 0
  · have n1' : decide (v1 < 0) = true := by simpa using n1
    simp only [e1, n1', Er_lt0, Er_ltg, Er_call0, Er_callg, Er_ite, Er_leaf, stepT_0, stepT_1, stepT_2, stepT_3, stepT_4, stepT_5, stepT_6, iteT_true, iteT_false, ltT_tt, ltT_ff, ltT_tf, ltT_ft, callT_tt, callT_ff, callT_tf, callT_ft, rI_len, rP_len, run_neq, run_eql, run_lss, run_not, run_pick, run_eqb, run_eqs2, Atom.val, List.map, List.getD_cons_zero, List.getD_cons_succ, Option.bind_some, List.length_cons, List.length_nil, if_true, if_false, List.cons_append, List.nil_append, List.append_nil, Bool.not_true, Bool.not_false, Nat.zero_add, Nat.sub_zero, reduceIte, reduceCtorEq, retR_ret, List.reduceReplicate, Bool.and_true, Bool.true_and, Bool.and_false, Bool.false_and, beq_self_eq_true, Bool.false_eq_true]
  have n1' : decide (v1 < 0) = false := by simpa using n1
  obtain ⟨v2, e2, p2, q2⟩ := sz1 a' b' c' v1 (by omega) (by omega) ha' hb' hc'
  by_cases n2 : v2 < 0
  · have n2' : decide (v2 < 0) = true := by simpa using n2
    simp only [e1, n1', e2, n2', Er_lt0, Er_ltg, Er_call0, Er_callg, Er_ite, Er_leaf, stepT_0, stepT_1, stepT_2, stepT_3, stepT_4, stepT_5, stepT_6, iteT_true, iteT_false, ltT_tt, ltT_ff, ltT_tf, ltT_ft, callT_tt, callT_ff, callT_tf, callT_ft, rI_len, rP_len, run_neq, run_eql, run_lss, run_not, run_pick, run_eqb, run_eqs2, Atom.val, List.map, List.getD_cons_zero, List.getD_cons_succ, Option.bind_some, List.length_cons, List.length_nil, if_true, if_false, List.cons_append, List.nil_append, List.append_nil, Bool.not_true, Bool.not_false, Nat.zero_add, Nat.sub_zero, reduceIte, reduceCtorEq, retR_ret, List.reduceReplicate, Bool.and_true, Bool.true_and, Bool.and_false, Bool.false_and, beq_self_eq_true, Bool.false_eq_true]
  have n2' : decide (v2 < 0) = false := by simpa using n2
  have k1 := cp4 a b c ha hb hc
  have k2 := cp4 a' b' c' ha' hb' hc'
  have k3 := eq8 a a' b b' c c' ha hb hc ha' hb' hc'
  have k4 := eq10 a a' b b' c c' ha hb hc ha' hb' hc'
  have k5 := eq13 a a b b c c ha hb hc ha hb hc
  have k6 := eq13 a' a' b' b' c' c' ha' hb' hc' ha' hb' hc'
  simp only [e1, n1', e2, n2', k1, k2, k3, k4, k5, k6, Er_lt0, Er_ltg, Er_call0, Er_callg, Er_ite, Er_leaf, stepT_0, stepT_1, stepT_2, stepT_3, stepT_4, stepT_5, stepT_6, iteT_true, iteT_false, ltT_tt, ltT_ff, ltT_tf, ltT_ft, callT_tt, callT_ff, callT_tf, callT_ft, rI_len, rP_len, run_neq, run_eql, run_lss, run_not, run_pick, run_eqb, run_eqs2, Atom.val, List.map, List.getD_cons_zero, List.getD_cons_succ, Option.bind_some, List.length_cons, List.length_nil, if_true, if_false, List.cons_append, List.nil_append, List.append_nil, Bool.not_true, Bool.not_false, Nat.zero_add, Nat.sub_zero, reduceIte, reduceCtorEq, retR_ret, List.reduceReplicate, Bool.and_true, Bool.true_and, Bool.and_false, Bool.false_and, beq_self_eq_true, Bool.false_eq_true]
theorem hpure : ∀ ds, WTs [.sl 8 [.int .i64], .sl 8 [.int .i64], .sl 16 [.int .i64, .int .i64], .sl 8 [.int .i64], .sl 8 [.int .i64], .sl 16 [.int .i64, .int .i64]] ds → ∃ n, callN T n 0 ds = some [.bool true] := by
  intro ds h
  simp only [WTs] at h
  obtain ⟨d1, r1, rfl, w1, d2, r2, rfl, w2, d3, r3, rfl, w3, d4, r4, rfl, w4, d5, r5, rfl, w5, d6, r6, rfl, w6, rfl⟩ := h
  obtain ⟨a, rfl, h1⟩ := WT_ints w1
  obtain ⟨b, rfl, h2⟩ := WT_ints w2
  obtain ⟨c, rfl, h3⟩ := WT_pairs w3
  obtain ⟨a', rfl, h4⟩ := WT_ints w4
  obtain ⟨b', rfl, h5⟩ := WT_ints w5
  obtain ⟨c', rfl, h6⟩ := WT_pairs w6
  exact pure_of (law a a' b b' c c' h1 h2 h3 h4 h5 h6)
end FnExactSameClerk
end Go.Proofs.Ytddjpamapmcilaa
