/- What the terms of FnExactGoodClerk come to. -/
import Derived.Test.YtddjpamapmcilaaFnExactGoodClerkTab
namespace Go.Proofs.Ytddjpamapmcilaa
namespace FnExactGoodClerk
open Go Go.Proofs.Ytddjpamapmcilaa.Rf
set_option linter.unusedSimpArgs false
set_option linter.unusedVariables false
set_option linter.unnecessarySimpa false
theorem szI (xs : List Int) (l : Int) (h1 : 0 ≤ l) (h2 : l ≤ 1048576) (h3 : xs.length * 8 ≤ reachBytes) : ∃ v, Fun T 2 [rI xs, i64 l] = some [i64 v] ∧ -1 ≤ v ∧ v ≤ l := by
  rw [Fun_r (t := tm2) rfl]
  unfold tm2
  unfold reachBytes at h3
  have hr := @run_sub l xs.length (by omega) (by omega)
  by_cases h : l - (xs.length : Int) < 0
  · have h' : decide (l - (xs.length : Int) < 0) = true := by simpa using h
    exact ⟨-1, by simp only [hr, h', run_id, run_ge, run_leq, run_gtr, Er_lt0, Er_ltg, Er_call0, Er_callg, Er_ite, Er_leaf, stepT_0, stepT_1, stepT_2, stepT_3, stepT_4, stepT_5, stepT_6, iteT_true, iteT_false, ltT_tt, ltT_ff, ltT_tf, ltT_ft, callT_tt, callT_ff, callT_tf, callT_ft, ltT_u, callT_u, rI_len, rP_len, run_neq, run_eql, run_lss, run_not, run_pick, run_eqb, run_eqs2, Atom.val, List.map, List.getD_cons_zero, List.getD_cons_succ, Option.bind_some, List.length_cons, List.length_nil, if_true, if_false, List.cons_append, List.nil_append, List.append_nil, Bool.not_true, Bool.not_false, Nat.zero_add, Nat.sub_zero, reduceIte, reduceCtorEq, retR_ret, List.reduceReplicate, Bool.and_true, Bool.true_and, Bool.and_false, Bool.false_and, beq_self_eq_true, Bool.false_eq_true], by omega, by omega⟩
  · have h' : decide (l - (xs.length : Int) < 0) = false := by simpa using h
    exact ⟨l - xs.length, by simp only [hr, h', run_id, run_ge, run_leq, run_gtr, Er_lt0, Er_ltg, Er_call0, Er_callg, Er_ite, Er_leaf, stepT_0, stepT_1, stepT_2, stepT_3, stepT_4, stepT_5, stepT_6, iteT_true, iteT_false, ltT_tt, ltT_ff, ltT_tf, ltT_ft, callT_tt, callT_ff, callT_tf, callT_ft, ltT_u, callT_u, rI_len, rP_len, run_neq, run_eql, run_lss, run_not, run_pick, run_eqb, run_eqs2, Atom.val, List.map, List.getD_cons_zero, List.getD_cons_succ, Option.bind_some, List.length_cons, List.length_nil, if_true, if_false, List.cons_append, List.nil_append, List.append_nil, Bool.not_true, Bool.not_false, Nat.zero_add, Nat.sub_zero, reduceIte, reduceCtorEq, retR_ret, List.reduceReplicate, Bool.and_true, Bool.true_and, Bool.and_false, Bool.false_and, beq_self_eq_true, Bool.false_eq_true], by omega, by omega⟩
theorem szP (xs : List (Int × Int)) (l : Int) (h1 : 0 ≤ l) (h2 : l ≤ 1048576) (h3 : xs.length * 16 ≤ reachBytes) : ∃ v, Fun T 3 [rP xs, i64 l] = some [i64 v] ∧ -1 ≤ v ∧ v ≤ l := by
  rw [Fun_r (t := tm3) rfl]
  unfold tm3
  unfold reachBytes at h3
  have hr := @run_sub l xs.length (by omega) (by omega)
  by_cases h : l - (xs.length : Int) < 0
  · have h' : decide (l - (xs.length : Int) < 0) = true := by simpa using h
    exact ⟨-1, by simp only [hr, h', run_id, run_ge, run_leq, run_gtr, Er_lt0, Er_ltg, Er_call0, Er_callg, Er_ite, Er_leaf, stepT_0, stepT_1, stepT_2, stepT_3, stepT_4, stepT_5, stepT_6, iteT_true, iteT_false, ltT_tt, ltT_ff, ltT_tf, ltT_ft, callT_tt, callT_ff, callT_tf, callT_ft, ltT_u, callT_u, rI_len, rP_len, run_neq, run_eql, run_lss, run_not, run_pick, run_eqb, run_eqs2, Atom.val, List.map, List.getD_cons_zero, List.getD_cons_succ, Option.bind_some, List.length_cons, List.length_nil, if_true, if_false, List.cons_append, List.nil_append, List.append_nil, Bool.not_true, Bool.not_false, Nat.zero_add, Nat.sub_zero, reduceIte, reduceCtorEq, retR_ret, List.reduceReplicate, Bool.and_true, Bool.true_and, Bool.and_false, Bool.false_and, beq_self_eq_true, Bool.false_eq_true], by omega, by omega⟩
  · have h' : decide (l - (xs.length : Int) < 0) = false := by simpa using h
    exact ⟨l - xs.length, by simp only [hr, h', run_id, run_ge, run_leq, run_gtr, Er_lt0, Er_ltg, Er_call0, Er_callg, Er_ite, Er_leaf, stepT_0, stepT_1, stepT_2, stepT_3, stepT_4, stepT_5, stepT_6, iteT_true, iteT_false, ltT_tt, ltT_ff, ltT_tf, ltT_ft, callT_tt, callT_ff, callT_tf, callT_ft, ltT_u, callT_u, rI_len, rP_len, run_neq, run_eql, run_lss, run_not, run_pick, run_eqb, run_eqs2, Atom.val, List.map, List.getD_cons_zero, List.getD_cons_succ, Option.bind_some, List.length_cons, List.length_nil, if_true, if_false, List.cons_append, List.nil_append, List.append_nil, Bool.not_true, Bool.not_false, Nat.zero_add, Nat.sub_zero, reduceIte, reduceCtorEq, retR_ret, List.reduceReplicate, Bool.and_true, Bool.true_and, Bool.and_false, Bool.false_and, beq_self_eq_true, Bool.false_eq_true], by omega, by omega⟩
theorem cp7 (a b : Int) : Fun T 7 [i64 a, i64 b] = some [i64 a, i64 b] := by
  rw [Fun_r (t := tm7) rfl]
  unfold tm7
  simp only [run_id, run_ge, run_leq, run_gtr, Er_lt0, Er_ltg, Er_call0, Er_callg, Er_ite, Er_leaf, stepT_0, stepT_1, stepT_2, stepT_3, stepT_4, stepT_5, stepT_6, iteT_true, iteT_false, ltT_tt, ltT_ff, ltT_tf, ltT_ft, callT_tt, callT_ff, callT_tf, callT_ft, ltT_u, callT_u, rI_len, rP_len, run_neq, run_eql, run_lss, run_not, run_pick, run_eqb, run_eqs2, Atom.val, List.map, List.getD_cons_zero, List.getD_cons_succ, Option.bind_some, List.length_cons, List.length_nil, if_true, if_false, List.cons_append, List.nil_append, List.append_nil, Bool.not_true, Bool.not_false, Nat.zero_add, Nat.sub_zero, reduceIte, reduceCtorEq, retR_ret, List.reduceReplicate, Bool.and_true, Bool.true_and, Bool.and_false, Bool.false_and, beq_self_eq_true, Bool.false_eq_true]
theorem cp5 (xs : List Int) (hx : xs.length * 8 ≤ reachBytes) : Fun T 5 [rI xs] = some [rI xs] := by
  rw [Fun_r (t := tm5) rfl]
  unfold tm5
  have hm := @rI_make xs.length 8 (by unfold reachBytes at hx; unfold boundB; omega)
  unfold reachBytes at hx
  simp only [hm, run_id, run_ge, run_leq, run_gtr, Er_lt0, Er_ltg, Er_call0, Er_callg, Er_ite, Er_leaf, stepT_0, stepT_1, stepT_2, stepT_3, stepT_4, stepT_5, stepT_6, iteT_true, iteT_false, ltT_tt, ltT_ff, ltT_tf, ltT_ft, callT_tt, callT_ff, callT_tf, callT_ft, ltT_u, callT_u, rI_len, rP_len, run_neq, run_eql, run_lss, run_not, run_pick, run_eqb, run_eqs2, Atom.val, List.map, List.getD_cons_zero, List.getD_cons_succ, Option.bind_some, List.length_cons, List.length_nil, if_true, if_false, List.cons_append, List.nil_append, List.append_nil, Bool.not_true, Bool.not_false, Nat.zero_add, Nat.sub_zero, reduceIte, reduceCtorEq, retR_ret, List.reduceReplicate, Bool.and_true, Bool.true_and, Bool.and_false, Bool.false_and, beq_self_eq_true, Bool.false_eq_true]
  rw [foldR (n := xs.length) (st := fun i => rI (upto 0 xs i))]
  · simp only [upto_all, run_id, run_ge, run_leq, run_gtr, Er_lt0, Er_ltg, Er_call0, Er_callg, Er_ite, Er_leaf, stepT_0, stepT_1, stepT_2, stepT_3, stepT_4, stepT_5, stepT_6, iteT_true, iteT_false, ltT_tt, ltT_ff, ltT_tf, ltT_ft, callT_tt, callT_ff, callT_tf, callT_ft, ltT_u, callT_u, rI_len, rP_len, run_neq, run_eql, run_lss, run_not, run_pick, run_eqb, run_eqs2, Atom.val, List.map, List.getD_cons_zero, List.getD_cons_succ, Option.bind_some, List.length_cons, List.length_nil, if_true, if_false, List.cons_append, List.nil_append, List.append_nil, Bool.not_true, Bool.not_false, Nat.zero_add, Nat.sub_zero, reduceIte, reduceCtorEq, retR_ret, List.reduceReplicate, Bool.and_true, Bool.true_and, Bool.and_false, Bool.false_and, beq_self_eq_true, Bool.false_eq_true]
  · rw [upto_zero]; rfl
  · intro i hi
    have ex := List.getElem?_eq_getElem hi
    have hlt : decide ((i : Int) < xs.length) = true := by simp; omega
    have hadd := @run_add (i : Int) 1 (by omega) (by omega)
    have hlen := upto_len 0 xs (Nat.le_of_lt hi)
    have hu := upto_set 0 xs ex
    have hi2 : i < (upto 0 xs i).length := by omega
    simp only [rI_inb hi, rI_row ex, rI_inb hi2, rI_set hi2, hu, hlt, hadd, Prod.eta, run_id, run_ge, run_leq, run_gtr, Er_lt0, Er_ltg, Er_call0, Er_callg, Er_ite, Er_leaf, stepT_0, stepT_1, stepT_2, stepT_3, stepT_4, stepT_5, stepT_6, iteT_true, iteT_false, ltT_tt, ltT_ff, ltT_tf, ltT_ft, callT_tt, callT_ff, callT_tf, callT_ft, ltT_u, callT_u, rI_len, rP_len, run_neq, run_eql, run_lss, run_not, run_pick, run_eqb, run_eqs2, Atom.val, List.map, List.getD_cons_zero, List.getD_cons_succ, Option.bind_some, List.length_cons, List.length_nil, if_true, if_false, List.cons_append, List.nil_append, List.append_nil, Bool.not_true, Bool.not_false, Nat.zero_add, Nat.sub_zero, reduceIte, reduceCtorEq, retR_ret, List.reduceReplicate, Bool.and_true, Bool.true_and, Bool.and_false, Bool.false_and, beq_self_eq_true, Bool.false_eq_true]
  · have hlt : decide ((xs.length : Int) < xs.length) = false := by simp
    simp only [hlt, upto_all, run_id, run_ge, run_leq, run_gtr, Er_lt0, Er_ltg, Er_call0, Er_callg, Er_ite, Er_leaf, stepT_0, stepT_1, stepT_2, stepT_3, stepT_4, stepT_5, stepT_6, iteT_true, iteT_false, ltT_tt, ltT_ff, ltT_tf, ltT_ft, callT_tt, callT_ff, callT_tf, callT_ft, ltT_u, callT_u, rI_len, rP_len, run_neq, run_eql, run_lss, run_not, run_pick, run_eqb, run_eqs2, Atom.val, List.map, List.getD_cons_zero, List.getD_cons_succ, Option.bind_some, List.length_cons, List.length_nil, if_true, if_false, List.cons_append, List.nil_append, List.append_nil, Bool.not_true, Bool.not_false, Nat.zero_add, Nat.sub_zero, reduceIte, reduceCtorEq, retR_ret, List.reduceReplicate, Bool.and_true, Bool.true_and, Bool.and_false, Bool.false_and, beq_self_eq_true, Bool.false_eq_true]
theorem cp6 (xs : List (Int × Int)) (hx : xs.length * 16 ≤ reachBytes) : Fun T 6 [rP xs] = some [rP xs] := by
  rw [Fun_r (t := tm6) rfl]
  unfold tm6
  have hm := @rP_make xs.length 16 (by unfold reachBytes at hx; unfold boundB; omega)
  unfold reachBytes at hx
  simp only [hm, run_id, run_ge, run_leq, run_gtr, Er_lt0, Er_ltg, Er_call0, Er_callg, Er_ite, Er_leaf, stepT_0, stepT_1, stepT_2, stepT_3, stepT_4, stepT_5, stepT_6, iteT_true, iteT_false, ltT_tt, ltT_ff, ltT_tf, ltT_ft, callT_tt, callT_ff, callT_tf, callT_ft, ltT_u, callT_u, rI_len, rP_len, run_neq, run_eql, run_lss, run_not, run_pick, run_eqb, run_eqs2, Atom.val, List.map, List.getD_cons_zero, List.getD_cons_succ, Option.bind_some, List.length_cons, List.length_nil, if_true, if_false, List.cons_append, List.nil_append, List.append_nil, Bool.not_true, Bool.not_false, Nat.zero_add, Nat.sub_zero, reduceIte, reduceCtorEq, retR_ret, List.reduceReplicate, Bool.and_true, Bool.true_and, Bool.and_false, Bool.false_and, beq_self_eq_true, Bool.false_eq_true]
  rw [foldR (n := xs.length) (st := fun i => rP (upto (0, 0) xs i))]
  · simp only [upto_all, run_id, run_ge, run_leq, run_gtr, Er_lt0, Er_ltg, Er_call0, Er_callg, Er_ite, Er_leaf, stepT_0, stepT_1, stepT_2, stepT_3, stepT_4, stepT_5, stepT_6, iteT_true, iteT_false, ltT_tt, ltT_ff, ltT_tf, ltT_ft, callT_tt, callT_ff, callT_tf, callT_ft, ltT_u, callT_u, rI_len, rP_len, run_neq, run_eql, run_lss, run_not, run_pick, run_eqb, run_eqs2, Atom.val, List.map, List.getD_cons_zero, List.getD_cons_succ, Option.bind_some, List.length_cons, List.length_nil, if_true, if_false, List.cons_append, List.nil_append, List.append_nil, Bool.not_true, Bool.not_false, Nat.zero_add, Nat.sub_zero, reduceIte, reduceCtorEq, retR_ret, List.reduceReplicate, Bool.and_true, Bool.true_and, Bool.and_false, Bool.false_and, beq_self_eq_true, Bool.false_eq_true]
  · rw [upto_zero]; rfl
  · intro i hi
    have ex := List.getElem?_eq_getElem hi
    have hlt : decide ((i : Int) < xs.length) = true := by simp; omega
    have hadd := @run_add (i : Int) 1 (by omega) (by omega)
    have hlen := upto_len (0, 0) xs (Nat.le_of_lt hi)
    have hu := upto_set (0, 0) xs ex
    have hi2 : i < (upto (0, 0) xs i).length := by omega
    simp only [rP_inb hi, rP_row ex, rP_inb hi2, rP_set hi2, hu, hlt, hadd, cp7, Prod.eta, run_id, run_ge, run_leq, run_gtr, Er_lt0, Er_ltg, Er_call0, Er_callg, Er_ite, Er_leaf, stepT_0, stepT_1, stepT_2, stepT_3, stepT_4, stepT_5, stepT_6, iteT_true, iteT_false, ltT_tt, ltT_ff, ltT_tf, ltT_ft, callT_tt, callT_ff, callT_tf, callT_ft, ltT_u, callT_u, rI_len, rP_len, run_neq, run_eql, run_lss, run_not, run_pick, run_eqb, run_eqs2, Atom.val, List.map, List.getD_cons_zero, List.getD_cons_succ, Option.bind_some, List.length_cons, List.length_nil, if_true, if_false, List.cons_append, List.nil_append, List.append_nil, Bool.not_true, Bool.not_false, Nat.zero_add, Nat.sub_zero, reduceIte, reduceCtorEq, retR_ret, List.reduceReplicate, Bool.and_true, Bool.true_and, Bool.and_false, Bool.false_and, beq_self_eq_true, Bool.false_eq_true]
  · have hlt : decide ((xs.length : Int) < xs.length) = false := by simp
    simp only [hlt, upto_all, run_id, run_ge, run_leq, run_gtr, Er_lt0, Er_ltg, Er_call0, Er_callg, Er_ite, Er_leaf, stepT_0, stepT_1, stepT_2, stepT_3, stepT_4, stepT_5, stepT_6, iteT_true, iteT_false, ltT_tt, ltT_ff, ltT_tf, ltT_ft, callT_tt, callT_ff, callT_tf, callT_ft, ltT_u, callT_u, rI_len, rP_len, run_neq, run_eql, run_lss, run_not, run_pick, run_eqb, run_eqs2, Atom.val, List.map, List.getD_cons_zero, List.getD_cons_succ, Option.bind_some, List.length_cons, List.length_nil, if_true, if_false, List.cons_append, List.nil_append, List.append_nil, Bool.not_true, Bool.not_false, Nat.zero_add, Nat.sub_zero, reduceIte, reduceCtorEq, retR_ret, List.reduceReplicate, Bool.and_true, Bool.true_and, Bool.and_false, Bool.false_and, beq_self_eq_true, Bool.false_eq_true]
theorem cp4 (a b : List Int) (c : List (Int × Int)) (ha : a.length * 8 ≤ reachBytes) (hb : b.length * 8 ≤ reachBytes) (hc : c.length * 16 ≤ reachBytes) : Fun T 4 [rI a, rI b, rP c] = some [rI a, rI b, rP c] := by
  rw [Fun_r (t := tm4) rfl]
  unfold tm4
  simp only [cp5 a ha, cp5 b hb, cp6 c hc, run_id, run_ge, run_leq, run_gtr, Er_lt0, Er_ltg, Er_call0, Er_callg, Er_ite, Er_leaf, stepT_0, stepT_1, stepT_2, stepT_3, stepT_4, stepT_5, stepT_6, iteT_true, iteT_false, ltT_tt, ltT_ff, ltT_tf, ltT_ft, callT_tt, callT_ff, callT_tf, callT_ft, ltT_u, callT_u, rI_len, rP_len, run_neq, run_eql, run_lss, run_not, run_pick, run_eqb, run_eqs2, Atom.val, List.map, List.getD_cons_zero, List.getD_cons_succ, Option.bind_some, List.length_cons, List.length_nil, if_true, if_false, List.cons_append, List.nil_append, List.append_nil, Bool.not_true, Bool.not_false, Nat.zero_add, Nat.sub_zero, reduceIte, reduceCtorEq, retR_ret, List.reduceReplicate, Bool.and_true, Bool.true_and, Bool.and_false, Bool.false_and, beq_self_eq_true, Bool.false_eq_true]
theorem sz1 (a b : List Int) (c : List (Int × Int)) (l : Int) (h1 : 0 ≤ l) (h2 : l ≤ 1048576) (ha : a.length * 8 ≤ reachBytes) (hb : b.length * 8 ≤ reachBytes) (hc : c.length * 16 ≤ reachBytes) : ∃ v, Fun T 1 [rI a, rI b, rP c, i64 l] = some [i64 v] ∧ -1 ≤ v ∧ v ≤ l := by
  rw [Fun_r (t := tm1) rfl]
  unfold tm1
  obtain ⟨v1, e1, p1, q1⟩ := szI a l h1 h2 ha
  by_cases n1 : v1 < 0
  · have n1' : decide (v1 < 0) = true := by simpa using n1
    exact ⟨-1, by simp only [e1, n1', run_id, run_ge, run_leq, run_gtr, Er_lt0, Er_ltg, Er_call0, Er_callg, Er_ite, Er_leaf, stepT_0, stepT_1, stepT_2, stepT_3, stepT_4, stepT_5, stepT_6, iteT_true, iteT_false, ltT_tt, ltT_ff, ltT_tf, ltT_ft, callT_tt, callT_ff, callT_tf, callT_ft, ltT_u, callT_u, rI_len, rP_len, run_neq, run_eql, run_lss, run_not, run_pick, run_eqb, run_eqs2, Atom.val, List.map, List.getD_cons_zero, List.getD_cons_succ, Option.bind_some, List.length_cons, List.length_nil, if_true, if_false, List.cons_append, List.nil_append, List.append_nil, Bool.not_true, Bool.not_false, Nat.zero_add, Nat.sub_zero, reduceIte, reduceCtorEq, retR_ret, List.reduceReplicate, Bool.and_true, Bool.true_and, Bool.and_false, Bool.false_and, beq_self_eq_true, Bool.false_eq_true], by omega, by omega⟩
  have n1' : decide (v1 < 0) = false := by simpa using n1
  obtain ⟨v2, e2, p2, q2⟩ := szI b v1 (by omega) (by omega) hb
  by_cases n2 : v2 < 0
  · have n2' : decide (v2 < 0) = true := by simpa using n2
    exact ⟨-1, by simp only [e1, n1', e2, n2', run_id, run_ge, run_leq, run_gtr, Er_lt0, Er_ltg, Er_call0, Er_callg, Er_ite, Er_leaf, stepT_0, stepT_1, stepT_2, stepT_3, stepT_4, stepT_5, stepT_6, iteT_true, iteT_false, ltT_tt, ltT_ff, ltT_tf, ltT_ft, callT_tt, callT_ff, callT_tf, callT_ft, ltT_u, callT_u, rI_len, rP_len, run_neq, run_eql, run_lss, run_not, run_pick, run_eqb, run_eqs2, Atom.val, List.map, List.getD_cons_zero, List.getD_cons_succ, Option.bind_some, List.length_cons, List.length_nil, if_true, if_false, List.cons_append, List.nil_append, List.append_nil, Bool.not_true, Bool.not_false, Nat.zero_add, Nat.sub_zero, reduceIte, reduceCtorEq, retR_ret, List.reduceReplicate, Bool.and_true, Bool.true_and, Bool.and_false, Bool.false_and, beq_self_eq_true, Bool.false_eq_true], by omega, by omega⟩
  have n2' : decide (v2 < 0) = false := by simpa using n2
  obtain ⟨v3, e3, p3, q3⟩ := szP c v2 (by omega) (by omega) hc
  by_cases n3 : v3 < 0
  · have n3' : decide (v3 < 0) = true := by simpa using n3
    exact ⟨-1, by simp only [e1, n1', e2, n2', e3, n3', run_id, run_ge, run_leq, run_gtr, Er_lt0, Er_ltg, Er_call0, Er_callg, Er_ite, Er_leaf, stepT_0, stepT_1, stepT_2, stepT_3, stepT_4, stepT_5, stepT_6, iteT_true, iteT_false, ltT_tt, ltT_ff, ltT_tf, ltT_ft, callT_tt, callT_ff, callT_tf, callT_ft, ltT_u, callT_u, rI_len, rP_len, run_neq, run_eql, run_lss, run_not, run_pick, run_eqb, run_eqs2, Atom.val, List.map, List.getD_cons_zero, List.getD_cons_succ, Option.bind_some, List.length_cons, List.length_nil, if_true, if_false, List.cons_append, List.nil_append, List.append_nil, Bool.not_true, Bool.not_false, Nat.zero_add, Nat.sub_zero, reduceIte, reduceCtorEq, retR_ret, List.reduceReplicate, Bool.and_true, Bool.true_and, Bool.and_false, Bool.false_and, beq_self_eq_true, Bool.false_eq_true], by omega, by omega⟩
  have n3' : decide (v3 < 0) = false := by simpa using n3
  exact ⟨v3, by simp only [e1, n1', e2, n2', e3, n3', run_id, run_ge, run_leq, run_gtr, Er_lt0, Er_ltg, Er_call0, Er_callg, Er_ite, Er_leaf, stepT_0, stepT_1, stepT_2, stepT_3, stepT_4, stepT_5, stepT_6, iteT_true, iteT_false, ltT_tt, ltT_ff, ltT_tf, ltT_ft, callT_tt, callT_ff, callT_tf, callT_ft, ltT_u, callT_u, rI_len, rP_len, run_neq, run_eql, run_lss, run_not, run_pick, run_eqb, run_eqs2, Atom.val, List.map, List.getD_cons_zero, List.getD_cons_succ, Option.bind_some, List.length_cons, List.length_nil, if_true, if_false, List.cons_append, List.nil_append, List.append_nil, Bool.not_true, Bool.not_false, Nat.zero_add, Nat.sub_zero, reduceIte, reduceCtorEq, retR_ret, List.reduceReplicate, Bool.and_true, Bool.true_and, Bool.and_false, Bool.false_and, beq_self_eq_true, Bool.false_eq_true], by omega, by omega⟩
theorem eq24 (a b c d : Int) : Fun T 24 [i64 a, i64 b, i64 c, i64 d] = some [.bool (a == c && b == d)] := by
  rw [Fun_r (t := tm24) rfl]
  unfold tm24
  cases h1 : a == c <;> cases h2 : b == d <;> simp only [h1, h2, run_id, run_ge, run_leq, run_gtr, Er_lt0, Er_ltg, Er_call0, Er_callg, Er_ite, Er_leaf, stepT_0, stepT_1, stepT_2, stepT_3, stepT_4, stepT_5, stepT_6, iteT_true, iteT_false, ltT_tt, ltT_ff, ltT_tf, ltT_ft, callT_tt, callT_ff, callT_tf, callT_ft, ltT_u, callT_u, rI_len, rP_len, run_neq, run_eql, run_lss, run_not, run_pick, run_eqb, run_eqs2, Atom.val, List.map, List.getD_cons_zero, List.getD_cons_succ, Option.bind_some, List.length_cons, List.length_nil, if_true, if_false, List.cons_append, List.nil_append, List.append_nil, Bool.not_true, Bool.not_false, Nat.zero_add, Nat.sub_zero, reduceIte, reduceCtorEq, retR_ret, List.reduceReplicate, Bool.and_true, Bool.true_and, Bool.and_false, Bool.false_and, beq_self_eq_true, Bool.false_eq_true]
theorem eq22 (xs ys : List Int) (hx : xs.length * 8 ≤ reachBytes) (hy : ys.length * 8 ≤ reachBytes) : Fun T 22 [rI xs, rI ys] = some [.bool (xs == ys)] := by
  rw [Fun_r (t := tm22) rfl]
  unfold tm22
  unfold reachBytes at hx hy
  by_cases hl : xs.length = ys.length
  · have hl' : ((xs.length : Int) == (ys.length : Int)) = true := by simp [hl]
    simp only [hl', run_id, run_ge, run_leq, run_gtr, Er_lt0, Er_ltg, Er_call0, Er_callg, Er_ite, Er_leaf, stepT_0, stepT_1, stepT_2, stepT_3, stepT_4, stepT_5, stepT_6, iteT_true, iteT_false, ltT_tt, ltT_ff, ltT_tf, ltT_ft, callT_tt, callT_ff, callT_tf, callT_ft, ltT_u, callT_u, rI_len, rP_len, run_neq, run_eql, run_lss, run_not, run_pick, run_eqb, run_eqs2, Atom.val, List.map, List.getD_cons_zero, List.getD_cons_succ, Option.bind_some, List.length_cons, List.length_nil, if_true, if_false, List.cons_append, List.nil_append, List.append_nil, Bool.not_true, Bool.not_false, Nat.zero_add, Nat.sub_zero, reduceIte, reduceCtorEq, retR_ret, List.reduceReplicate, Bool.and_true, Bool.true_and, Bool.and_false, Bool.false_and, beq_self_eq_true, Bool.false_eq_true]
    rw [scanR (n := xs.length) (ok := fun i => xs[i]? == ys[i]?) (r := [.bool false])]
    · rw [scan_eq hl]
      simp only [Er_leaf]
      cases xs == ys <;> rfl
    · intro i hi hok
      have hi' : i < ys.length := by omega
      have ex := List.getElem?_eq_getElem hi
      have ey := List.getElem?_eq_getElem hi'
      rw [ex, ey] at hok
      have hlt : decide ((i : Int) < xs.length) = true := by simp; omega
      have hadd := @run_add (i : Int) 1 (by omega) (by omega)
      have hok1 : (xs[i] == ys[i]) = true := by simpa using hok
      have hok' := hok1
      simp only [rI_inb hi, rI_inb hi', rI_row ex, rI_row ey, hlt, hadd, hok', run_id, run_ge, run_leq, run_gtr, Er_lt0, Er_ltg, Er_call0, Er_callg, Er_ite, Er_leaf, stepT_0, stepT_1, stepT_2, stepT_3, stepT_4, stepT_5, stepT_6, iteT_true, iteT_false, ltT_tt, ltT_ff, ltT_tf, ltT_ft, callT_tt, callT_ff, callT_tf, callT_ft, ltT_u, callT_u, rI_len, rP_len, run_neq, run_eql, run_lss, run_not, run_pick, run_eqb, run_eqs2, Atom.val, List.map, List.getD_cons_zero, List.getD_cons_succ, Option.bind_some, List.length_cons, List.length_nil, if_true, if_false, List.cons_append, List.nil_append, List.append_nil, Bool.not_true, Bool.not_false, Nat.zero_add, Nat.sub_zero, reduceIte, reduceCtorEq, retR_ret, List.reduceReplicate, Bool.and_true, Bool.true_and, Bool.and_false, Bool.false_and, beq_self_eq_true, Bool.false_eq_true]
    · intro i hi hok
      have hi' : i < ys.length := by omega
      have ex := List.getElem?_eq_getElem hi
      have ey := List.getElem?_eq_getElem hi'
      rw [ex, ey] at hok
      have hlt : decide ((i : Int) < xs.length) = true := by simp; omega
      have hadd := @run_add (i : Int) 1 (by omega) (by omega)
      have hok1 : (xs[i] == ys[i]) = false := by simpa using hok
      have hok' := hok1
      simp only [rI_inb hi, rI_inb hi', rI_row ex, rI_row ey, hlt, hadd, hok', run_id, run_ge, run_leq, run_gtr, Er_lt0, Er_ltg, Er_call0, Er_callg, Er_ite, Er_leaf, stepT_0, stepT_1, stepT_2, stepT_3, stepT_4, stepT_5, stepT_6, iteT_true, iteT_false, ltT_tt, ltT_ff, ltT_tf, ltT_ft, callT_tt, callT_ff, callT_tf, callT_ft, ltT_u, callT_u, rI_len, rP_len, run_neq, run_eql, run_lss, run_not, run_pick, run_eqb, run_eqs2, Atom.val, List.map, List.getD_cons_zero, List.getD_cons_succ, Option.bind_some, List.length_cons, List.length_nil, if_true, if_false, List.cons_append, List.nil_append, List.append_nil, Bool.not_true, Bool.not_false, Nat.zero_add, Nat.sub_zero, reduceIte, reduceCtorEq, retR_ret, List.reduceReplicate, Bool.and_true, Bool.true_and, Bool.and_false, Bool.false_and, beq_self_eq_true, Bool.false_eq_true]
    · have hlt : decide ((xs.length : Int) < xs.length) = false := by simp
      simp only [hlt, run_id, run_ge, run_leq, run_gtr, Er_lt0, Er_ltg, Er_call0, Er_callg, Er_ite, Er_leaf, stepT_0, stepT_1, stepT_2, stepT_3, stepT_4, stepT_5, stepT_6, iteT_true, iteT_false, ltT_tt, ltT_ff, ltT_tf, ltT_ft, callT_tt, callT_ff, callT_tf, callT_ft, ltT_u, callT_u, rI_len, rP_len, run_neq, run_eql, run_lss, run_not, run_pick, run_eqb, run_eqs2, Atom.val, List.map, List.getD_cons_zero, List.getD_cons_succ, Option.bind_some, List.length_cons, List.length_nil, if_true, if_false, List.cons_append, List.nil_append, List.append_nil, Bool.not_true, Bool.not_false, Nat.zero_add, Nat.sub_zero, reduceIte, reduceCtorEq, retR_ret, List.reduceReplicate, Bool.and_true, Bool.true_and, Bool.and_false, Bool.false_and, beq_self_eq_true, Bool.false_eq_true]
  · have hl' : ((xs.length : Int) == (ys.length : Int)) = false := by simp; omega
    have e : (xs == ys) = false := beq_len hl
    simp only [e, hl', run_id, run_ge, run_leq, run_gtr, Er_lt0, Er_ltg, Er_call0, Er_callg, Er_ite, Er_leaf, stepT_0, stepT_1, stepT_2, stepT_3, stepT_4, stepT_5, stepT_6, iteT_true, iteT_false, ltT_tt, ltT_ff, ltT_tf, ltT_ft, callT_tt, callT_ff, callT_tf, callT_ft, ltT_u, callT_u, rI_len, rP_len, run_neq, run_eql, run_lss, run_not, run_pick, run_eqb, run_eqs2, Atom.val, List.map, List.getD_cons_zero, List.getD_cons_succ, Option.bind_some, List.length_cons, List.length_nil, if_true, if_false, List.cons_append, List.nil_append, List.append_nil, Bool.not_true, Bool.not_false, Nat.zero_add, Nat.sub_zero, reduceIte, reduceCtorEq, retR_ret, List.reduceReplicate, Bool.and_true, Bool.true_and, Bool.and_false, Bool.false_and, beq_self_eq_true, Bool.false_eq_true]
theorem eq23 (xs ys : List (Int × Int)) (hx : xs.length * 16 ≤ reachBytes) (hy : ys.length * 16 ≤ reachBytes) : Fun T 23 [rP xs, rP ys] = some [.bool (xs == ys)] := by
  rw [Fun_r (t := tm23) rfl]
  unfold tm23
  unfold reachBytes at hx hy
  by_cases hl : xs.length = ys.length
  · have hl' : ((xs.length : Int) == (ys.length : Int)) = true := by simp [hl]
    simp only [hl', run_id, run_ge, run_leq, run_gtr, Er_lt0, Er_ltg, Er_call0, Er_callg, Er_ite, Er_leaf, stepT_0, stepT_1, stepT_2, stepT_3, stepT_4, stepT_5, stepT_6, iteT_true, iteT_false, ltT_tt, ltT_ff, ltT_tf, ltT_ft, callT_tt, callT_ff, callT_tf, callT_ft, ltT_u, callT_u, rI_len, rP_len, run_neq, run_eql, run_lss, run_not, run_pick, run_eqb, run_eqs2, Atom.val, List.map, List.getD_cons_zero, List.getD_cons_succ, Option.bind_some, List.length_cons, List.length_nil, if_true, if_false, List.cons_append, List.nil_append, List.append_nil, Bool.not_true, Bool.not_false, Nat.zero_add, Nat.sub_zero, reduceIte, reduceCtorEq, retR_ret, List.reduceReplicate, Bool.and_true, Bool.true_and, Bool.and_false, Bool.false_and, beq_self_eq_true, Bool.false_eq_true]
    rw [scanR (n := xs.length) (ok := fun i => xs[i]? == ys[i]?) (r := [.bool false])]
    · rw [scan_eq hl]
      simp only [Er_leaf]
      cases xs == ys <;> rfl
    · intro i hi hok
      have hi' : i < ys.length := by omega
      have ex := List.getElem?_eq_getElem hi
      have ey := List.getElem?_eq_getElem hi'
      rw [ex, ey] at hok
      have hlt : decide ((i : Int) < xs.length) = true := by simp; omega
      have hadd := @run_add (i : Int) 1 (by omega) (by omega)
      have hok1 : (xs[i] == ys[i]) = true := by simpa using hok
      have hok' : ((xs[i]).1 == (ys[i]).1 && (xs[i]).2 == (ys[i]).2) = true := by rw [← pair_beq]; exact hok1
      simp only [rP_inb hi, rP_inb hi', rP_row ex, rP_row ey, hlt, hadd, hok', eq24, run_id, run_ge, run_leq, run_gtr, Er_lt0, Er_ltg, Er_call0, Er_callg, Er_ite, Er_leaf, stepT_0, stepT_1, stepT_2, stepT_3, stepT_4, stepT_5, stepT_6, iteT_true, iteT_false, ltT_tt, ltT_ff, ltT_tf, ltT_ft, callT_tt, callT_ff, callT_tf, callT_ft, ltT_u, callT_u, rI_len, rP_len, run_neq, run_eql, run_lss, run_not, run_pick, run_eqb, run_eqs2, Atom.val, List.map, List.getD_cons_zero, List.getD_cons_succ, Option.bind_some, List.length_cons, List.length_nil, if_true, if_false, List.cons_append, List.nil_append, List.append_nil, Bool.not_true, Bool.not_false, Nat.zero_add, Nat.sub_zero, reduceIte, reduceCtorEq, retR_ret, List.reduceReplicate, Bool.and_true, Bool.true_and, Bool.and_false, Bool.false_and, beq_self_eq_true, Bool.false_eq_true]
    · intro i hi hok
      have hi' : i < ys.length := by omega
      have ex := List.getElem?_eq_getElem hi
      have ey := List.getElem?_eq_getElem hi'
      rw [ex, ey] at hok
      have hlt : decide ((i : Int) < xs.length) = true := by simp; omega
      have hadd := @run_add (i : Int) 1 (by omega) (by omega)
      have hok1 : (xs[i] == ys[i]) = false := by simpa using hok
      have hok' : ((xs[i]).1 == (ys[i]).1 && (xs[i]).2 == (ys[i]).2) = false := by rw [← pair_beq]; exact hok1
      simp only [rP_inb hi, rP_inb hi', rP_row ex, rP_row ey, hlt, hadd, hok', eq24, run_id, run_ge, run_leq, run_gtr, Er_lt0, Er_ltg, Er_call0, Er_callg, Er_ite, Er_leaf, stepT_0, stepT_1, stepT_2, stepT_3, stepT_4, stepT_5, stepT_6, iteT_true, iteT_false, ltT_tt, ltT_ff, ltT_tf, ltT_ft, callT_tt, callT_ff, callT_tf, callT_ft, ltT_u, callT_u, rI_len, rP_len, run_neq, run_eql, run_lss, run_not, run_pick, run_eqb, run_eqs2, Atom.val, List.map, List.getD_cons_zero, List.getD_cons_succ, Option.bind_some, List.length_cons, List.length_nil, if_true, if_false, List.cons_append, List.nil_append, List.append_nil, Bool.not_true, Bool.not_false, Nat.zero_add, Nat.sub_zero, reduceIte, reduceCtorEq, retR_ret, List.reduceReplicate, Bool.and_true, Bool.true_and, Bool.and_false, Bool.false_and, beq_self_eq_true, Bool.false_eq_true]
    · have hlt : decide ((xs.length : Int) < xs.length) = false := by simp
      simp only [hlt, run_id, run_ge, run_leq, run_gtr, Er_lt0, Er_ltg, Er_call0, Er_callg, Er_ite, Er_leaf, stepT_0, stepT_1, stepT_2, stepT_3, stepT_4, stepT_5, stepT_6, iteT_true, iteT_false, ltT_tt, ltT_ff, ltT_tf, ltT_ft, callT_tt, callT_ff, callT_tf, callT_ft, ltT_u, callT_u, rI_len, rP_len, run_neq, run_eql, run_lss, run_not, run_pick, run_eqb, run_eqs2, Atom.val, List.map, List.getD_cons_zero, List.getD_cons_succ, Option.bind_some, List.length_cons, List.length_nil, if_true, if_false, List.cons_append, List.nil_append, List.append_nil, Bool.not_true, Bool.not_false, Nat.zero_add, Nat.sub_zero, reduceIte, reduceCtorEq, retR_ret, List.reduceReplicate, Bool.and_true, Bool.true_and, Bool.and_false, Bool.false_and, beq_self_eq_true, Bool.false_eq_true]
  · have hl' : ((xs.length : Int) == (ys.length : Int)) = false := by simp; omega
    have e : (xs == ys) = false := beq_len hl
    simp only [e, hl', run_id, run_ge, run_leq, run_gtr, Er_lt0, Er_ltg, Er_call0, Er_callg, Er_ite, Er_leaf, stepT_0, stepT_1, stepT_2, stepT_3, stepT_4, stepT_5, stepT_6, iteT_true, iteT_false, ltT_tt, ltT_ff, ltT_tf, ltT_ft, callT_tt, callT_ff, callT_tf, callT_ft, ltT_u, callT_u, rI_len, rP_len, run_neq, run_eql, run_lss, run_not, run_pick, run_eqb, run_eqs2, Atom.val, List.map, List.getD_cons_zero, List.getD_cons_succ, Option.bind_some, List.length_cons, List.length_nil, if_true, if_false, List.cons_append, List.nil_append, List.append_nil, Bool.not_true, Bool.not_false, Nat.zero_add, Nat.sub_zero, reduceIte, reduceCtorEq, retR_ret, List.reduceReplicate, Bool.and_true, Bool.true_and, Bool.and_false, Bool.false_and, beq_self_eq_true, Bool.false_eq_true]
theorem eq21 (a a' b b' : List Int) (c c' : List (Int × Int)) (ha : a.length * 8 ≤ reachBytes) (hb : b.length * 8 ≤ reachBytes) (hc : c.length * 16 ≤ reachBytes) (ha' : a'.length * 8 ≤ reachBytes) (hb' : b'.length * 8 ≤ reachBytes) (hc' : c'.length * 16 ≤ reachBytes) :
    Fun T 21 [rI a, rI b, rP c, rI a', rI b', rP c'] = some [.bool (a == a' && b == b' && c == c')] := by
  rw [Fun_r (t := tm21) rfl]
  unfold tm21
  have e1 := eq22 a a' ha ha'
  have e2 := eq22 b b' hb hb'
  have e3 := eq23 c c' hc hc'
  cases h1 : a == a'
  · simp only [e1, h1, run_id, run_ge, run_leq, run_gtr, Er_lt0, Er_ltg, Er_call0, Er_callg, Er_ite, Er_leaf, stepT_0, stepT_1, stepT_2, stepT_3, stepT_4, stepT_5, stepT_6, iteT_true, iteT_false, ltT_tt, ltT_ff, ltT_tf, ltT_ft, callT_tt, callT_ff, callT_tf, callT_ft, ltT_u, callT_u, rI_len, rP_len, run_neq, run_eql, run_lss, run_not, run_pick, run_eqb, run_eqs2, Atom.val, List.map, List.getD_cons_zero, List.getD_cons_succ, Option.bind_some, List.length_cons, List.length_nil, if_true, if_false, List.cons_append, List.nil_append, List.append_nil, Bool.not_true, Bool.not_false, Nat.zero_add, Nat.sub_zero, reduceIte, reduceCtorEq, retR_ret, List.reduceReplicate, Bool.and_true, Bool.true_and, Bool.and_false, Bool.false_and, beq_self_eq_true, Bool.false_eq_true]
  cases h2 : b == b'
  · simp only [e1, h1, e2, h2, run_id, run_ge, run_leq, run_gtr, Er_lt0, Er_ltg, Er_call0, Er_callg, Er_ite, Er_leaf, stepT_0, stepT_1, stepT_2, stepT_3, stepT_4, stepT_5, stepT_6, iteT_true, iteT_false, ltT_tt, ltT_ff, ltT_tf, ltT_ft, callT_tt, callT_ff, callT_tf, callT_ft, ltT_u, callT_u, rI_len, rP_len, run_neq, run_eql, run_lss, run_not, run_pick, run_eqb, run_eqs2, Atom.val, List.map, List.getD_cons_zero, List.getD_cons_succ, Option.bind_some, List.length_cons, List.length_nil, if_true, if_false, List.cons_append, List.nil_append, List.append_nil, Bool.not_true, Bool.not_false, Nat.zero_add, Nat.sub_zero, reduceIte, reduceCtorEq, retR_ret, List.reduceReplicate, Bool.and_true, Bool.true_and, Bool.and_false, Bool.false_and, beq_self_eq_true, Bool.false_eq_true]
  cases h3 : c == c' <;> simp only [e1, h1, e2, h2, e3, h3, run_id, run_ge, run_leq, run_gtr, Er_lt0, Er_ltg, Er_call0, Er_callg, Er_ite, Er_leaf, stepT_0, stepT_1, stepT_2, stepT_3, stepT_4, stepT_5, stepT_6, iteT_true, iteT_false, ltT_tt, ltT_ff, ltT_tf, ltT_ft, callT_tt, callT_ff, callT_tf, callT_ft, ltT_u, callT_u, rI_len, rP_len, run_neq, run_eql, run_lss, run_not, run_pick, run_eqb, run_eqs2, Atom.val, List.map, List.getD_cons_zero, List.getD_cons_succ, Option.bind_some, List.length_cons, List.length_nil, if_true, if_false, List.cons_append, List.nil_append, List.append_nil, Bool.not_true, Bool.not_false, Nat.zero_add, Nat.sub_zero, reduceIte, reduceCtorEq, retR_ret, List.reduceReplicate, Bool.and_true, Bool.true_and, Bool.and_false, Bool.false_and, beq_self_eq_true, Bool.false_eq_true]
theorem in10 (x lo hi : Int) : Fun T 10 [i64 x, i64 lo, i64 hi] = some [.bool (inR x lo hi)] := by
  rw [Fun_r (t := tm10) rfl]
  unfold tm10 inR
  cases h1 : decide (lo ≤ x) <;> cases h2 : decide (x ≤ hi) <;> simp only [h1, h2, run_id, run_ge, run_leq, run_gtr, Er_lt0, Er_ltg, Er_call0, Er_callg, Er_ite, Er_leaf, stepT_0, stepT_1, stepT_2, stepT_3, stepT_4, stepT_5, stepT_6, iteT_true, iteT_false, ltT_tt, ltT_ff, ltT_tf, ltT_ft, callT_tt, callT_ff, callT_tf, callT_ft, ltT_u, callT_u, rI_len, rP_len, run_neq, run_eql, run_lss, run_not, run_pick, run_eqb, run_eqs2, Atom.val, List.map, List.getD_cons_zero, List.getD_cons_succ, Option.bind_some, List.length_cons, List.length_nil, if_true, if_false, List.cons_append, List.nil_append, List.append_nil, Bool.not_true, Bool.not_false, Nat.zero_add, Nat.sub_zero, reduceIte, reduceCtorEq, retR_ret, List.reduceReplicate, Bool.and_true, Bool.true_and, Bool.and_false, Bool.false_and, beq_self_eq_true, Bool.false_eq_true]
theorem in18 (x lo hi : Int) : Fun T 18 [i64 x, i64 lo, i64 hi] = some [.bool (inR x lo hi)] := by
  rw [Fun_r (t := tm18) rfl]
  unfold tm18 inR
  cases h1 : decide (lo ≤ x) <;> cases h2 : decide (x ≤ hi) <;> simp only [h1, h2, run_id, run_ge, run_leq, run_gtr, Er_lt0, Er_ltg, Er_call0, Er_callg, Er_ite, Er_leaf, stepT_0, stepT_1, stepT_2, stepT_3, stepT_4, stepT_5, stepT_6, iteT_true, iteT_false, ltT_tt, ltT_ff, ltT_tf, ltT_ft, callT_tt, callT_ff, callT_tf, callT_ft, ltT_u, callT_u, rI_len, rP_len, run_neq, run_eql, run_lss, run_not, run_pick, run_eqb, run_eqs2, Atom.val, List.map, List.getD_cons_zero, List.getD_cons_succ, Option.bind_some, List.length_cons, List.length_nil, if_true, if_false, List.cons_append, List.nil_append, List.append_nil, Bool.not_true, Bool.not_false, Nat.zero_add, Nat.sub_zero, reduceIte, reduceCtorEq, retR_ret, List.reduceReplicate, Bool.and_true, Bool.true_and, Bool.and_false, Bool.false_and, beq_self_eq_true, Bool.false_eq_true]
def told (x y : Int) : Bool := inR x 0 3 && inR y 0 400 && (x == 3 || y == 0)
theorem told12 (x y : Int) : Fun T 12 [i64 x, i64 y] = some [.bool (told x y)] := by
  rw [Fun_r (t := tm12) rfl]
  unfold tm12 told
  have e1 := in10 x 0 3
  have e2 := in10 y 0 400
  cases h1 : inR x 0 3 <;> cases h2 : inR y 0 400 <;> cases h3 : x == 3 <;> cases h4 : y == 0 <;> simp only [e1, e2, h1, h2, h3, h4, run_id, run_ge, run_leq, run_gtr, Er_lt0, Er_ltg, Er_call0, Er_callg, Er_ite, Er_leaf, stepT_0, stepT_1, stepT_2, stepT_3, stepT_4, stepT_5, stepT_6, iteT_true, iteT_false, ltT_tt, ltT_ff, ltT_tf, ltT_ft, callT_tt, callT_ff, callT_tf, callT_ft, ltT_u, callT_u, rI_len, rP_len, run_neq, run_eql, run_lss, run_not, run_pick, run_eqb, run_eqs2, Atom.val, List.map, List.getD_cons_zero, List.getD_cons_succ, Option.bind_some, List.length_cons, List.length_nil, if_true, if_false, List.cons_append, List.nil_append, List.append_nil, Bool.not_true, Bool.not_false, Nat.zero_add, Nat.sub_zero, reduceIte, reduceCtorEq, retR_ret, List.reduceReplicate, Bool.and_true, Bool.true_and, Bool.and_false, Bool.false_and, beq_self_eq_true, Bool.false_eq_true, Bool.or_true, Bool.true_or, Bool.or_false, Bool.false_or]
theorem told20 (x y : Int) : Fun T 20 [i64 x, i64 y] = some [.bool (told x y)] := by
  rw [Fun_r (t := tm20) rfl]
  unfold tm20 told
  have e1 := in18 x 0 3
  have e2 := in18 y 0 400
  cases h1 : inR x 0 3 <;> cases h2 : inR y 0 400 <;> cases h3 : x == 3 <;> cases h4 : y == 0 <;> simp only [e1, e2, h1, h2, h3, h4, run_id, run_ge, run_leq, run_gtr, Er_lt0, Er_ltg, Er_call0, Er_callg, Er_ite, Er_leaf, stepT_0, stepT_1, stepT_2, stepT_3, stepT_4, stepT_5, stepT_6, iteT_true, iteT_false, ltT_tt, ltT_ff, ltT_tf, ltT_ft, callT_tt, callT_ff, callT_tf, callT_ft, ltT_u, callT_u, rI_len, rP_len, run_neq, run_eql, run_lss, run_not, run_pick, run_eqb, run_eqs2, Atom.val, List.map, List.getD_cons_zero, List.getD_cons_succ, Option.bind_some, List.length_cons, List.length_nil, if_true, if_false, List.cons_append, List.nil_append, List.append_nil, Bool.not_true, Bool.not_false, Nat.zero_add, Nat.sub_zero, reduceIte, reduceCtorEq, retR_ret, List.reduceReplicate, Bool.and_true, Bool.true_and, Bool.and_false, Bool.false_and, beq_self_eq_true, Bool.false_eq_true, Bool.or_true, Bool.true_or, Bool.or_false, Bool.false_or]
theorem not17 (x : Int) : Fun T 17 [i64 x] = some [.bool (!inR x 0 400)] := by
  rw [Fun_r (t := tm17) rfl]
  unfold tm17
  have e1 := in18 x 0 400
  cases h1 : inR x 0 400 <;> simp only [e1, h1, run_id, run_ge, run_leq, run_gtr, Er_lt0, Er_ltg, Er_call0, Er_callg, Er_ite, Er_leaf, stepT_0, stepT_1, stepT_2, stepT_3, stepT_4, stepT_5, stepT_6, iteT_true, iteT_false, ltT_tt, ltT_ff, ltT_tf, ltT_ft, callT_tt, callT_ff, callT_tf, callT_ft, ltT_u, callT_u, rI_len, rP_len, run_neq, run_eql, run_lss, run_not, run_pick, run_eqb, run_eqs2, Atom.val, List.map, List.getD_cons_zero, List.getD_cons_succ, Option.bind_some, List.length_cons, List.length_nil, if_true, if_false, List.cons_append, List.nil_append, List.append_nil, Bool.not_true, Bool.not_false, Nat.zero_add, Nat.sub_zero, reduceIte, reduceCtorEq, retR_ret, List.reduceReplicate, Bool.and_true, Bool.true_and, Bool.and_false, Bool.false_and, beq_self_eq_true, Bool.false_eq_true]
def allI (xs : List Int) (lo hi : Int) : Bool := allB (fun i => inR (xs.getD i 0) lo hi) xs.length
def sumI (xs : List Int) : Int := wsum (fun i => xs.getD i 0) xs.length
theorem all11 (xs : List Int) (lo up : Int) (hx : xs.length * 8 ≤ reachBytes) : Fun T 11 [rI xs, i64 lo, i64 up] = some [.bool (allI xs lo up)] := by
  rw [Fun_r (t := tm11) rfl]
  unfold tm11 allI
  unfold reachBytes at hx
  simp only [run_id, run_ge, run_leq, run_gtr, Er_lt0, Er_ltg, Er_call0, Er_callg, Er_ite, Er_leaf, stepT_0, stepT_1, stepT_2, stepT_3, stepT_4, stepT_5, stepT_6, iteT_true, iteT_false, ltT_tt, ltT_ff, ltT_tf, ltT_ft, callT_tt, callT_ff, callT_tf, callT_ft, ltT_u, callT_u, rI_len, rP_len, run_neq, run_eql, run_lss, run_not, run_pick, run_eqb, run_eqs2, Atom.val, List.map, List.getD_cons_zero, List.getD_cons_succ, Option.bind_some, List.length_cons, List.length_nil, if_true, if_false, List.cons_append, List.nil_append, List.append_nil, Bool.not_true, Bool.not_false, Nat.zero_add, Nat.sub_zero, reduceIte, reduceCtorEq, retR_ret, List.reduceReplicate, Bool.and_true, Bool.true_and, Bool.and_false, Bool.false_and, beq_self_eq_true, Bool.false_eq_true]
  refine scanC (fun o => o = some [.bool (allB (fun i => inR (xs.getD i 0) lo up) xs.length)]) xs.length (fun i => inR (xs.getD i 0) lo up) (fun r => r = [.bool false]) [] ?_ ?_ ?_ ?_ ?_
  · intro i hi hok
    have hok' : inR (xs.getD i 0) lo up = true := hok
    have e := in10 (xs.getD i 0) lo up
    have hlt : decide ((i : Int) < xs.length) = true := by simp; omega
    have hadd := @run_add (i : Int) 1 (by omega) (by omega)
    simp only [rI_inb hi, rI_at hi, e, hok', hlt, hadd, run_id, run_ge, run_leq, run_gtr, Er_lt0, Er_ltg, Er_call0, Er_callg, Er_ite, Er_leaf, stepT_0, stepT_1, stepT_2, stepT_3, stepT_4, stepT_5, stepT_6, iteT_true, iteT_false, ltT_tt, ltT_ff, ltT_tf, ltT_ft, callT_tt, callT_ff, callT_tf, callT_ft, ltT_u, callT_u, rI_len, rP_len, run_neq, run_eql, run_lss, run_not, run_pick, run_eqb, run_eqs2, Atom.val, List.map, List.getD_cons_zero, List.getD_cons_succ, Option.bind_some, List.length_cons, List.length_nil, if_true, if_false, List.cons_append, List.nil_append, List.append_nil, Bool.not_true, Bool.not_false, Nat.zero_add, Nat.sub_zero, reduceIte, reduceCtorEq, retR_ret, List.reduceReplicate, Bool.and_true, Bool.true_and, Bool.and_false, Bool.false_and, beq_self_eq_true, Bool.false_eq_true]
  · intro i hi hok
    have hok' : inR (xs.getD i 0) lo up = false := hok
    have e := in10 (xs.getD i 0) lo up
    have hlt : decide ((i : Int) < xs.length) = true := by simp; omega
    exact ⟨[.bool false], by simp only [rI_inb hi, rI_at hi, e, hok', hlt, run_id, run_ge, run_leq, run_gtr, Er_lt0, Er_ltg, Er_call0, Er_callg, Er_ite, Er_leaf, stepT_0, stepT_1, stepT_2, stepT_3, stepT_4, stepT_5, stepT_6, iteT_true, iteT_false, ltT_tt, ltT_ff, ltT_tf, ltT_ft, callT_tt, callT_ff, callT_tf, callT_ft, ltT_u, callT_u, rI_len, rP_len, run_neq, run_eql, run_lss, run_not, run_pick, run_eqb, run_eqs2, Atom.val, List.map, List.getD_cons_zero, List.getD_cons_succ, Option.bind_some, List.length_cons, List.length_nil, if_true, if_false, List.cons_append, List.nil_append, List.append_nil, Bool.not_true, Bool.not_false, Nat.zero_add, Nat.sub_zero, reduceIte, reduceCtorEq, retR_ret, List.reduceReplicate, Bool.and_true, Bool.true_and, Bool.and_false, Bool.false_and, beq_self_eq_true, Bool.false_eq_true], rfl⟩
  · have hlt : decide ((xs.length : Int) < xs.length) = false := by simp
    simp only [hlt, run_id, run_ge, run_leq, run_gtr, Er_lt0, Er_ltg, Er_call0, Er_callg, Er_ite, Er_leaf, stepT_0, stepT_1, stepT_2, stepT_3, stepT_4, stepT_5, stepT_6, iteT_true, iteT_false, ltT_tt, ltT_ff, ltT_tf, ltT_ft, callT_tt, callT_ff, callT_tf, callT_ft, ltT_u, callT_u, rI_len, rP_len, run_neq, run_eql, run_lss, run_not, run_pick, run_eqb, run_eqs2, Atom.val, List.map, List.getD_cons_zero, List.getD_cons_succ, Option.bind_some, List.length_cons, List.length_nil, if_true, if_false, List.cons_append, List.nil_append, List.append_nil, Bool.not_true, Bool.not_false, Nat.zero_add, Nat.sub_zero, reduceIte, reduceCtorEq, retR_ret, List.reduceReplicate, Bool.and_true, Bool.true_and, Bool.and_false, Bool.false_and, beq_self_eq_true, Bool.false_eq_true]
  · intro h
    simp only [h, run_id, run_ge, run_leq, run_gtr, Er_lt0, Er_ltg, Er_call0, Er_callg, Er_ite, Er_leaf, stepT_0, stepT_1, stepT_2, stepT_3, stepT_4, stepT_5, stepT_6, iteT_true, iteT_false, ltT_tt, ltT_ff, ltT_tf, ltT_ft, callT_tt, callT_ff, callT_tf, callT_ft, ltT_u, callT_u, rI_len, rP_len, run_neq, run_eql, run_lss, run_not, run_pick, run_eqb, run_eqs2, Atom.val, List.map, List.getD_cons_zero, List.getD_cons_succ, Option.bind_some, List.length_cons, List.length_nil, if_true, if_false, List.cons_append, List.nil_append, List.append_nil, Bool.not_true, Bool.not_false, Nat.zero_add, Nat.sub_zero, reduceIte, reduceCtorEq, retR_ret, List.reduceReplicate, Bool.and_true, Bool.true_and, Bool.and_false, Bool.false_and, beq_self_eq_true, Bool.false_eq_true]
  · intro h r hr
    rw [hr, h]
def gs (xs : List Int) : Bool := (xs.length : Int) == 4 && allI xs 0 400 && sumI xs == 400
theorem gs9 (xs : List Int) (hx : xs.length * 8 ≤ reachBytes) : Fun T 9 [rI xs] = some [.bool (gs xs)] := by
  rw [Fun_r (t := tm9) rfl]
  unfold tm9 gs
  unfold reachBytes at hx
  simp only [run_id, run_ge, run_leq, run_gtr, Er_lt0, Er_ltg, Er_call0, Er_callg, Er_ite, Er_leaf, stepT_0, stepT_1, stepT_2, stepT_3, stepT_4, stepT_5, stepT_6, iteT_true, iteT_false, ltT_tt, ltT_ff, ltT_tf, ltT_ft, callT_tt, callT_ff, callT_tf, callT_ft, ltT_u, callT_u, rI_len, rP_len, run_neq, run_eql, run_lss, run_not, run_pick, run_eqb, run_eqs2, Atom.val, List.map, List.getD_cons_zero, List.getD_cons_succ, Option.bind_some, List.length_cons, List.length_nil, if_true, if_false, List.cons_append, List.nil_append, List.append_nil, Bool.not_true, Bool.not_false, Nat.zero_add, Nat.sub_zero, reduceIte, reduceCtorEq, retR_ret, List.reduceReplicate, Bool.and_true, Bool.true_and, Bool.and_false, Bool.false_and, beq_self_eq_true, Bool.false_eq_true]
  refine foldC (fun o => o = some [.bool ((xs.length : Int) == 4 && allI xs 0 400 && sumI xs == 400)]) xs.length (fun i => inR (xs.getD i 0) 0 400) (fun i => i64 (wsum (fun i => xs.getD i 0) i)) (fun r => r = [.bool false]) [i64 (sumI xs)] rfl ?_ ?_ ?_ ?_ ?_
  · intro i hi hok
    have hok' : inR (xs.getD i 0) 0 400 = true := hok
    have e := in10 (xs.getD i 0) 0 400
    have hlt : decide ((i : Int) < xs.length) = true := by simp; omega
    have hadd := @run_add (i : Int) 1 (by omega) (by omega)
    have hacc : (Prim.bin .add).run [i64 (wsum (fun i => xs.getD i 0) i), i64 (xs.getD i 0)] = some [i64 (wsum (fun i => xs.getD i 0) (i + 1))] := run_addw
    simp only [rI_inb hi, rI_at hi, e, hok', hlt, hadd, hacc, run_id, run_ge, run_leq, run_gtr, Er_lt0, Er_ltg, Er_call0, Er_callg, Er_ite, Er_leaf, stepT_0, stepT_1, stepT_2, stepT_3, stepT_4, stepT_5, stepT_6, iteT_true, iteT_false, ltT_tt, ltT_ff, ltT_tf, ltT_ft, callT_tt, callT_ff, callT_tf, callT_ft, ltT_u, callT_u, rI_len, rP_len, run_neq, run_eql, run_lss, run_not, run_pick, run_eqb, run_eqs2, Atom.val, List.map, List.getD_cons_zero, List.getD_cons_succ, Option.bind_some, List.length_cons, List.length_nil, if_true, if_false, List.cons_append, List.nil_append, List.append_nil, Bool.not_true, Bool.not_false, Nat.zero_add, Nat.sub_zero, reduceIte, reduceCtorEq, retR_ret, List.reduceReplicate, Bool.and_true, Bool.true_and, Bool.and_false, Bool.false_and, beq_self_eq_true, Bool.false_eq_true]
  · intro i hi hok
    have hok' : inR (xs.getD i 0) 0 400 = false := hok
    have e := in10 (xs.getD i 0) 0 400
    have hlt : decide ((i : Int) < xs.length) = true := by simp; omega
    exact ⟨[.bool false], by simp only [rI_inb hi, rI_at hi, e, hok', hlt, run_id, run_ge, run_leq, run_gtr, Er_lt0, Er_ltg, Er_call0, Er_callg, Er_ite, Er_leaf, stepT_0, stepT_1, stepT_2, stepT_3, stepT_4, stepT_5, stepT_6, iteT_true, iteT_false, ltT_tt, ltT_ff, ltT_tf, ltT_ft, callT_tt, callT_ff, callT_tf, callT_ft, ltT_u, callT_u, rI_len, rP_len, run_neq, run_eql, run_lss, run_not, run_pick, run_eqb, run_eqs2, Atom.val, List.map, List.getD_cons_zero, List.getD_cons_succ, Option.bind_some, List.length_cons, List.length_nil, if_true, if_false, List.cons_append, List.nil_append, List.append_nil, Bool.not_true, Bool.not_false, Nat.zero_add, Nat.sub_zero, reduceIte, reduceCtorEq, retR_ret, List.reduceReplicate, Bool.and_true, Bool.true_and, Bool.and_false, Bool.false_and, beq_self_eq_true, Bool.false_eq_true], rfl⟩
  · have hlt : decide ((xs.length : Int) < xs.length) = false := by simp
    simp only [hlt, sumI, run_id, run_ge, run_leq, run_gtr, Er_lt0, Er_ltg, Er_call0, Er_callg, Er_ite, Er_leaf, stepT_0, stepT_1, stepT_2, stepT_3, stepT_4, stepT_5, stepT_6, iteT_true, iteT_false, ltT_tt, ltT_ff, ltT_tf, ltT_ft, callT_tt, callT_ff, callT_tf, callT_ft, ltT_u, callT_u, rI_len, rP_len, run_neq, run_eql, run_lss, run_not, run_pick, run_eqb, run_eqs2, Atom.val, List.map, List.getD_cons_zero, List.getD_cons_succ, Option.bind_some, List.length_cons, List.length_nil, if_true, if_false, List.cons_append, List.nil_append, List.append_nil, Bool.not_true, Bool.not_false, Nat.zero_add, Nat.sub_zero, reduceIte, reduceCtorEq, retR_ret, List.reduceReplicate, Bool.and_true, Bool.true_and, Bool.and_false, Bool.false_and, beq_self_eq_true, Bool.false_eq_true]
  · intro h
    have h' : allI xs 0 400 = true := h
    cases h1 : (xs.length : Int) == 4 <;> cases h2 : sumI xs == 400 <;> simp only [h', h1, h2, run_id, run_ge, run_leq, run_gtr, Er_lt0, Er_ltg, Er_call0, Er_callg, Er_ite, Er_leaf, stepT_0, stepT_1, stepT_2, stepT_3, stepT_4, stepT_5, stepT_6, iteT_true, iteT_false, ltT_tt, ltT_ff, ltT_tf, ltT_ft, callT_tt, callT_ff, callT_tf, callT_ft, ltT_u, callT_u, rI_len, rP_len, run_neq, run_eql, run_lss, run_not, run_pick, run_eqb, run_eqs2, Atom.val, List.map, List.getD_cons_zero, List.getD_cons_succ, Option.bind_some, List.length_cons, List.length_nil, if_true, if_false, List.cons_append, List.nil_append, List.append_nil, Bool.not_true, Bool.not_false, Nat.zero_add, Nat.sub_zero, reduceIte, reduceCtorEq, retR_ret, List.reduceReplicate, Bool.and_true, Bool.true_and, Bool.and_false, Bool.false_and, beq_self_eq_true, Bool.false_eq_true]
  · intro h r hr
    have h' : allI xs 0 400 = false := h
    rw [hr, h', Bool.and_false, Bool.false_and]
theorem ix16 (xs : List Int) (hx : xs.length * 8 ≤ reachBytes) : ∃ v, Fun T 16 [rI xs] = some [i64 v] ∧ decide (0 ≤ v) = !allI xs 0 400 := by
  rw [Fun_r (t := tm16) rfl]
  unfold tm16
  unfold reachBytes at hx
  simp only [run_id, run_ge, run_leq, run_gtr, Er_lt0, Er_ltg, Er_call0, Er_callg, Er_ite, Er_leaf, stepT_0, stepT_1, stepT_2, stepT_3, stepT_4, stepT_5, stepT_6, iteT_true, iteT_false, ltT_tt, ltT_ff, ltT_tf, ltT_ft, callT_tt, callT_ff, callT_tf, callT_ft, ltT_u, callT_u, rI_len, rP_len, run_neq, run_eql, run_lss, run_not, run_pick, run_eqb, run_eqs2, Atom.val, List.map, List.getD_cons_zero, List.getD_cons_succ, Option.bind_some, List.length_cons, List.length_nil, if_true, if_false, List.cons_append, List.nil_append, List.append_nil, Bool.not_true, Bool.not_false, Nat.zero_add, Nat.sub_zero, reduceIte, reduceCtorEq, retR_ret, List.reduceReplicate, Bool.and_true, Bool.true_and, Bool.and_false, Bool.false_and, beq_self_eq_true, Bool.false_eq_true]
  refine scanC (fun o => ∃ v, o = some [i64 v] ∧ decide (0 ≤ v) = !allI xs 0 400) xs.length (fun i => inR (xs.getD i 0) 0 400) (fun r => ∃ i : Nat, r = [i64 i]) [] ?_ ?_ ?_ ?_ ?_
  · intro i hi hok
    have hok' : inR (xs.getD i 0) 0 400 = true := hok
    have e := not17 (xs.getD i 0)
    have hlt : decide ((i : Int) < xs.length) = true := by simp; omega
    have hadd := @run_add (i : Int) 1 (by omega) (by omega)
    simp only [rI_inb hi, rI_at hi, e, hok', hlt, hadd, run_id, run_ge, run_leq, run_gtr, Er_lt0, Er_ltg, Er_call0, Er_callg, Er_ite, Er_leaf, stepT_0, stepT_1, stepT_2, stepT_3, stepT_4, stepT_5, stepT_6, iteT_true, iteT_false, ltT_tt, ltT_ff, ltT_tf, ltT_ft, callT_tt, callT_ff, callT_tf, callT_ft, ltT_u, callT_u, rI_len, rP_len, run_neq, run_eql, run_lss, run_not, run_pick, run_eqb, run_eqs2, Atom.val, List.map, List.getD_cons_zero, List.getD_cons_succ, Option.bind_some, List.length_cons, List.length_nil, if_true, if_false, List.cons_append, List.nil_append, List.append_nil, Bool.not_true, Bool.not_false, Nat.zero_add, Nat.sub_zero, reduceIte, reduceCtorEq, retR_ret, List.reduceReplicate, Bool.and_true, Bool.true_and, Bool.and_false, Bool.false_and, beq_self_eq_true, Bool.false_eq_true]
  · intro i hi hok
    have hok' : inR (xs.getD i 0) 0 400 = false := hok
    have e := not17 (xs.getD i 0)
    have hlt : decide ((i : Int) < xs.length) = true := by simp; omega
    exact ⟨[i64 i], by simp only [rI_inb hi, rI_at hi, e, hok', hlt, run_id, run_ge, run_leq, run_gtr, Er_lt0, Er_ltg, Er_call0, Er_callg, Er_ite, Er_leaf, stepT_0, stepT_1, stepT_2, stepT_3, stepT_4, stepT_5, stepT_6, iteT_true, iteT_false, ltT_tt, ltT_ff, ltT_tf, ltT_ft, callT_tt, callT_ff, callT_tf, callT_ft, ltT_u, callT_u, rI_len, rP_len, run_neq, run_eql, run_lss, run_not, run_pick, run_eqb, run_eqs2, Atom.val, List.map, List.getD_cons_zero, List.getD_cons_succ, Option.bind_some, List.length_cons, List.length_nil, if_true, if_false, List.cons_append, List.nil_append, List.append_nil, Bool.not_true, Bool.not_false, Nat.zero_add, Nat.sub_zero, reduceIte, reduceCtorEq, retR_ret, List.reduceReplicate, Bool.and_true, Bool.true_and, Bool.and_false, Bool.false_and, beq_self_eq_true, Bool.false_eq_true], i, rfl⟩
  · have hlt : decide ((xs.length : Int) < xs.length) = false := by simp
    simp only [hlt, run_id, run_ge, run_leq, run_gtr, Er_lt0, Er_ltg, Er_call0, Er_callg, Er_ite, Er_leaf, stepT_0, stepT_1, stepT_2, stepT_3, stepT_4, stepT_5, stepT_6, iteT_true, iteT_false, ltT_tt, ltT_ff, ltT_tf, ltT_ft, callT_tt, callT_ff, callT_tf, callT_ft, ltT_u, callT_u, rI_len, rP_len, run_neq, run_eql, run_lss, run_not, run_pick, run_eqb, run_eqs2, Atom.val, List.map, List.getD_cons_zero, List.getD_cons_succ, Option.bind_some, List.length_cons, List.length_nil, if_true, if_false, List.cons_append, List.nil_append, List.append_nil, Bool.not_true, Bool.not_false, Nat.zero_add, Nat.sub_zero, reduceIte, reduceCtorEq, retR_ret, List.reduceReplicate, Bool.and_true, Bool.true_and, Bool.and_false, Bool.false_and, beq_self_eq_true, Bool.false_eq_true]
  · intro h
    have h' : allI xs 0 400 = true := h
    exact ⟨-1, by simp only [run_id, run_ge, run_leq, run_gtr, Er_lt0, Er_ltg, Er_call0, Er_callg, Er_ite, Er_leaf, stepT_0, stepT_1, stepT_2, stepT_3, stepT_4, stepT_5, stepT_6, iteT_true, iteT_false, ltT_tt, ltT_ff, ltT_tf, ltT_ft, callT_tt, callT_ff, callT_tf, callT_ft, ltT_u, callT_u, rI_len, rP_len, run_neq, run_eql, run_lss, run_not, run_pick, run_eqb, run_eqs2, Atom.val, List.map, List.getD_cons_zero, List.getD_cons_succ, Option.bind_some, List.length_cons, List.length_nil, if_true, if_false, List.cons_append, List.nil_append, List.append_nil, Bool.not_true, Bool.not_false, Nat.zero_add, Nat.sub_zero, reduceIte, reduceCtorEq, retR_ret, List.reduceReplicate, Bool.and_true, Bool.true_and, Bool.and_false, Bool.false_and, beq_self_eq_true, Bool.false_eq_true], by rw [h']; rfl⟩
  · rintro h r ⟨i, rfl⟩
    have h' : allI xs 0 400 = false := h
    exact ⟨i, rfl, by rw [h']; simp⟩
theorem ct15 (xs : List Int) (hx : xs.length * 8 ≤ reachBytes) : Fun T 15 [rI xs] = some [.bool (!allI xs 0 400)] := by
  rw [Fun_r (t := tm15) rfl]
  unfold tm15
  obtain ⟨v, e, h⟩ := ix16 xs hx
  simp only [e, h, run_id, run_ge, run_leq, run_gtr, Er_lt0, Er_ltg, Er_call0, Er_callg, Er_ite, Er_leaf, stepT_0, stepT_1, stepT_2, stepT_3, stepT_4, stepT_5, stepT_6, iteT_true, iteT_false, ltT_tt, ltT_ff, ltT_tf, ltT_ft, callT_tt, callT_ff, callT_tf, callT_ft, ltT_u, callT_u, rI_len, rP_len, run_neq, run_eql, run_lss, run_not, run_pick, run_eqb, run_eqs2, Atom.val, List.map, List.getD_cons_zero, List.getD_cons_succ, Option.bind_some, List.length_cons, List.length_nil, if_true, if_false, List.cons_append, List.nil_append, List.append_nil, Bool.not_true, Bool.not_false, Nat.zero_add, Nat.sub_zero, reduceIte, reduceCtorEq, retR_ret, List.reduceReplicate, Bool.and_true, Bool.true_and, Bool.and_false, Bool.false_and, beq_self_eq_true, Bool.false_eq_true]
theorem tot19 (xs : List Int) (hx : xs.length * 8 ≤ reachBytes) : Fun T 19 [rI xs] = some [i64 (sumI xs)] := by
  rw [Fun_r (t := tm19) rfl]
  unfold tm19
  unfold reachBytes at hx
  simp only [run_id, run_ge, run_leq, run_gtr, Er_lt0, Er_ltg, Er_call0, Er_callg, Er_ite, Er_leaf, stepT_0, stepT_1, stepT_2, stepT_3, stepT_4, stepT_5, stepT_6, iteT_true, iteT_false, ltT_tt, ltT_ff, ltT_tf, ltT_ft, callT_tt, callT_ff, callT_tf, callT_ft, ltT_u, callT_u, rI_len, rP_len, run_neq, run_eql, run_lss, run_not, run_pick, run_eqb, run_eqs2, Atom.val, List.map, List.getD_cons_zero, List.getD_cons_succ, Option.bind_some, List.length_cons, List.length_nil, if_true, if_false, List.cons_append, List.nil_append, List.append_nil, Bool.not_true, Bool.not_false, Nat.zero_add, Nat.sub_zero, reduceIte, reduceCtorEq, retR_ret, List.reduceReplicate, Bool.and_true, Bool.true_and, Bool.and_false, Bool.false_and, beq_self_eq_true, Bool.false_eq_true]
  refine foldC (fun o => o = some [i64 (sumI xs)]) xs.length (fun _ => true) (fun i => i64 (wsum (fun i => xs.getD i 0) i)) (fun r => False) [i64 (sumI xs)] rfl ?_ ?_ ?_ ?_ ?_
  · intro i hi _
    have hlt : decide ((i : Int) < xs.length) = true := by simp; omega
    have hadd := @run_add (i : Int) 1 (by omega) (by omega)
    have hacc : (Prim.bin .add).run [i64 (wsum (fun i => xs.getD i 0) i), i64 (xs.getD i 0)] = some [i64 (wsum (fun i => xs.getD i 0) (i + 1))] := run_addw
    simp only [rI_inb hi, rI_at hi, hlt, hadd, hacc, run_id, run_ge, run_leq, run_gtr, Er_lt0, Er_ltg, Er_call0, Er_callg, Er_ite, Er_leaf, stepT_0, stepT_1, stepT_2, stepT_3, stepT_4, stepT_5, stepT_6, iteT_true, iteT_false, ltT_tt, ltT_ff, ltT_tf, ltT_ft, callT_tt, callT_ff, callT_tf, callT_ft, ltT_u, callT_u, rI_len, rP_len, run_neq, run_eql, run_lss, run_not, run_pick, run_eqb, run_eqs2, Atom.val, List.map, List.getD_cons_zero, List.getD_cons_succ, Option.bind_some, List.length_cons, List.length_nil, if_true, if_false, List.cons_append, List.nil_append, List.append_nil, Bool.not_true, Bool.not_false, Nat.zero_add, Nat.sub_zero, reduceIte, reduceCtorEq, retR_ret, List.reduceReplicate, Bool.and_true, Bool.true_and, Bool.and_false, Bool.false_and, beq_self_eq_true, Bool.false_eq_true]
  · intro i hi hok
    cases hok
  · have hlt : decide ((xs.length : Int) < xs.length) = false := by simp
    simp only [hlt, sumI, run_id, run_ge, run_leq, run_gtr, Er_lt0, Er_ltg, Er_call0, Er_callg, Er_ite, Er_leaf, stepT_0, stepT_1, stepT_2, stepT_3, stepT_4, stepT_5, stepT_6, iteT_true, iteT_false, ltT_tt, ltT_ff, ltT_tf, ltT_ft, callT_tt, callT_ff, callT_tf, callT_ft, ltT_u, callT_u, rI_len, rP_len, run_neq, run_eql, run_lss, run_not, run_pick, run_eqb, run_eqs2, Atom.val, List.map, List.getD_cons_zero, List.getD_cons_succ, Option.bind_some, List.length_cons, List.length_nil, if_true, if_false, List.cons_append, List.nil_append, List.append_nil, Bool.not_true, Bool.not_false, Nat.zero_add, Nat.sub_zero, reduceIte, reduceCtorEq, retR_ret, List.reduceReplicate, Bool.and_true, Bool.true_and, Bool.and_false, Bool.false_and, beq_self_eq_true, Bool.false_eq_true]
  · intro h
    simp only [run_id, run_ge, run_leq, run_gtr, Er_lt0, Er_ltg, Er_call0, Er_callg, Er_ite, Er_leaf, stepT_0, stepT_1, stepT_2, stepT_3, stepT_4, stepT_5, stepT_6, iteT_true, iteT_false, ltT_tt, ltT_ff, ltT_tf, ltT_ft, callT_tt, callT_ff, callT_tf, callT_ft, ltT_u, callT_u, rI_len, rP_len, run_neq, run_eql, run_lss, run_not, run_pick, run_eqb, run_eqs2, Atom.val, List.map, List.getD_cons_zero, List.getD_cons_succ, Option.bind_some, List.length_cons, List.length_nil, if_true, if_false, List.cons_append, List.nil_append, List.append_nil, Bool.not_true, Bool.not_false, Nat.zero_add, Nat.sub_zero, reduceIte, reduceCtorEq, retR_ret, List.reduceReplicate, Bool.and_true, Bool.true_and, Bool.and_false, Bool.false_and, beq_self_eq_true, Bool.false_eq_true]
  · intro h r hr
    exact hr.elim
theorem gs14 (xs : List Int) (hx : xs.length * 8 ≤ reachBytes) : Fun T 14 [rI xs] = some [.bool (gs xs)] := by
  rw [Fun_r (t := tm14) rfl]
  unfold tm14 gs
  have e1 := ct15 xs hx
  have e2 := tot19 xs hx
  cases h1 : (xs.length : Int) == 4 <;> cases h2 : allI xs 0 400 <;> cases h3 : sumI xs == 400 <;> simp only [e1, e2, h1, h2, h3, run_id, run_ge, run_leq, run_gtr, Er_lt0, Er_ltg, Er_call0, Er_callg, Er_ite, Er_leaf, stepT_0, stepT_1, stepT_2, stepT_3, stepT_4, stepT_5, stepT_6, iteT_true, iteT_false, ltT_tt, ltT_ff, ltT_tf, ltT_ft, callT_tt, callT_ff, callT_tf, callT_ft, ltT_u, callT_u, rI_len, rP_len, run_neq, run_eql, run_lss, run_not, run_pick, run_eqb, run_eqs2, Atom.val, List.map, List.getD_cons_zero, List.getD_cons_succ, Option.bind_some, List.length_cons, List.length_nil, if_true, if_false, List.cons_append, List.nil_append, List.append_nil, Bool.not_true, Bool.not_false, Nat.zero_add, Nat.sub_zero, reduceIte, reduceCtorEq, retR_ret, List.reduceReplicate, Bool.and_true, Bool.true_and, Bool.and_false, Bool.false_and, beq_self_eq_true, Bool.false_eq_true]
def qq (b : List Int) (c : List (Int × Int)) (i : Nat) : Bool := told (c.getD i (0, 0)).1 (c.getD i (0, 0)).2 && !(b.getD i 0 == 0 && !((c.getD i (0, 0)).1 == 0))
def gc (a b : List Int) (c : List (Int × Int)) : Bool := gs a && (b.length : Int) == 4 && (c.length : Int) == 4 && allI b 0 999 && allB (qq b c) c.length
theorem gc8 (a b : List Int) (c : List (Int × Int)) (ha : a.length * 8 ≤ reachBytes) (hb : b.length * 8 ≤ reachBytes) (hc : c.length * 16 ≤ reachBytes) : Fun T 8 [rI a, rI b, rP c] = some [.bool (gc a b c)] := by
  rw [Fun_r (t := tm8) rfl]
  unfold tm8 gc
  have e1 := gs9 a ha
  have e2 := all11 b 0 999 hb
  cases h1 : gs a
  · simp only [e1, h1, run_id, run_ge, run_leq, run_gtr, Er_lt0, Er_ltg, Er_call0, Er_callg, Er_ite, Er_leaf, stepT_0, stepT_1, stepT_2, stepT_3, stepT_4, stepT_5, stepT_6, iteT_true, iteT_false, ltT_tt, ltT_ff, ltT_tf, ltT_ft, callT_tt, callT_ff, callT_tf, callT_ft, ltT_u, callT_u, rI_len, rP_len, run_neq, run_eql, run_lss, run_not, run_pick, run_eqb, run_eqs2, Atom.val, List.map, List.getD_cons_zero, List.getD_cons_succ, Option.bind_some, List.length_cons, List.length_nil, if_true, if_false, List.cons_append, List.nil_append, List.append_nil, Bool.not_true, Bool.not_false, Nat.zero_add, Nat.sub_zero, reduceIte, reduceCtorEq, retR_ret, List.reduceReplicate, Bool.and_true, Bool.true_and, Bool.and_false, Bool.false_and, beq_self_eq_true, Bool.false_eq_true]
  cases h2 : (b.length : Int) == 4
  · simp only [e1, h1, h2, run_id, run_ge, run_leq, run_gtr, Er_lt0, Er_ltg, Er_call0, Er_callg, Er_ite, Er_leaf, stepT_0, stepT_1, stepT_2, stepT_3, stepT_4, stepT_5, stepT_6, iteT_true, iteT_false, ltT_tt, ltT_ff, ltT_tf, ltT_ft, callT_tt, callT_ff, callT_tf, callT_ft, ltT_u, callT_u, rI_len, rP_len, run_neq, run_eql, run_lss, run_not, run_pick, run_eqb, run_eqs2, Atom.val, List.map, List.getD_cons_zero, List.getD_cons_succ, Option.bind_some, List.length_cons, List.length_nil, if_true, if_false, List.cons_append, List.nil_append, List.append_nil, Bool.not_true, Bool.not_false, Nat.zero_add, Nat.sub_zero, reduceIte, reduceCtorEq, retR_ret, List.reduceReplicate, Bool.and_true, Bool.true_and, Bool.and_false, Bool.false_and, beq_self_eq_true, Bool.false_eq_true]
  cases h3 : (c.length : Int) == 4
  · simp only [e1, h1, h2, h3, run_id, run_ge, run_leq, run_gtr, Er_lt0, Er_ltg, Er_call0, Er_callg, Er_ite, Er_leaf, stepT_0, stepT_1, stepT_2, stepT_3, stepT_4, stepT_5, stepT_6, iteT_true, iteT_false, ltT_tt, ltT_ff, ltT_tf, ltT_ft, callT_tt, callT_ff, callT_tf, callT_ft, ltT_u, callT_u, rI_len, rP_len, run_neq, run_eql, run_lss, run_not, run_pick, run_eqb, run_eqs2, Atom.val, List.map, List.getD_cons_zero, List.getD_cons_succ, Option.bind_some, List.length_cons, List.length_nil, if_true, if_false, List.cons_append, List.nil_append, List.append_nil, Bool.not_true, Bool.not_false, Nat.zero_add, Nat.sub_zero, reduceIte, reduceCtorEq, retR_ret, List.reduceReplicate, Bool.and_true, Bool.true_and, Bool.and_false, Bool.false_and, beq_self_eq_true, Bool.false_eq_true]
  cases h4 : allI b 0 999
  · simp only [e1, e2, h1, h2, h3, h4, run_id, run_ge, run_leq, run_gtr, Er_lt0, Er_ltg, Er_call0, Er_callg, Er_ite, Er_leaf, stepT_0, stepT_1, stepT_2, stepT_3, stepT_4, stepT_5, stepT_6, iteT_true, iteT_false, ltT_tt, ltT_ff, ltT_tf, ltT_ft, callT_tt, callT_ff, callT_tf, callT_ft, ltT_u, callT_u, rI_len, rP_len, run_neq, run_eql, run_lss, run_not, run_pick, run_eqb, run_eqs2, Atom.val, List.map, List.getD_cons_zero, List.getD_cons_succ, Option.bind_some, List.length_cons, List.length_nil, if_true, if_false, List.cons_append, List.nil_append, List.append_nil, Bool.not_true, Bool.not_false, Nat.zero_add, Nat.sub_zero, reduceIte, reduceCtorEq, retR_ret, List.reduceReplicate, Bool.and_true, Bool.true_and, Bool.and_false, Bool.false_and, beq_self_eq_true, Bool.false_eq_true]
  simp only [e1, e2, h1, h2, h3, h4, run_id, run_ge, run_leq, run_gtr, Er_lt0, Er_ltg, Er_call0, Er_callg, Er_ite, Er_leaf, stepT_0, stepT_1, stepT_2, stepT_3, stepT_4, stepT_5, stepT_6, iteT_true, iteT_false, ltT_tt, ltT_ff, ltT_tf, ltT_ft, callT_tt, callT_ff, callT_tf, callT_ft, ltT_u, callT_u, rI_len, rP_len, run_neq, run_eql, run_lss, run_not, run_pick, run_eqb, run_eqs2, Atom.val, List.map, List.getD_cons_zero, List.getD_cons_succ, Option.bind_some, List.length_cons, List.length_nil, if_true, if_false, List.cons_append, List.nil_append, List.append_nil, Bool.not_true, Bool.not_false, Nat.zero_add, Nat.sub_zero, reduceIte, reduceCtorEq, retR_ret, List.reduceReplicate, Bool.and_true, Bool.true_and, Bool.and_false, Bool.false_and, beq_self_eq_true, Bool.false_eq_true]
  have hb4 : (b.length : Int) = 4 := by simpa using h2
  have hc4 : (c.length : Int) = 4 := by simpa using h3
  refine scanC (fun o => o = some [.bool (allB (qq b c) c.length)]) c.length (qq b c) (fun r => r = [.bool false]) [] ?_ ?_ ?_ ?_ ?_
  · intro i hi hok
    have hib : i < b.length := by omega
    have e := told12 (c.getD i (0, 0)).1 (c.getD i (0, 0)).2
    have hlt : decide ((i : Int) < c.length) = true := by simp; omega
    have hadd := @run_add (i : Int) 1 (by omega) (by omega)
    unfold qq at hok
    cases k1 : told (c.getD i (0, 0)).1 (c.getD i (0, 0)).2
    · rw [k1] at hok; cases hok
    cases k2 : b.getD i 0 == 0
    · simp only [rI_inb hib, rI_at hib, rP_inb hi, rP_at hi, e, hlt, hadd, k1, k2, run_id, run_ge, run_leq, run_gtr, Er_lt0, Er_ltg, Er_call0, Er_callg, Er_ite, Er_leaf, stepT_0, stepT_1, stepT_2, stepT_3, stepT_4, stepT_5, stepT_6, iteT_true, iteT_false, ltT_tt, ltT_ff, ltT_tf, ltT_ft, callT_tt, callT_ff, callT_tf, callT_ft, ltT_u, callT_u, rI_len, rP_len, run_neq, run_eql, run_lss, run_not, run_pick, run_eqb, run_eqs2, Atom.val, List.map, List.getD_cons_zero, List.getD_cons_succ, Option.bind_some, List.length_cons, List.length_nil, if_true, if_false, List.cons_append, List.nil_append, List.append_nil, Bool.not_true, Bool.not_false, Nat.zero_add, Nat.sub_zero, reduceIte, reduceCtorEq, retR_ret, List.reduceReplicate, Bool.and_true, Bool.true_and, Bool.and_false, Bool.false_and, beq_self_eq_true, Bool.false_eq_true]
    cases k3 : (c.getD i (0, 0)).1 == 0
    · rw [k1, k2, k3] at hok; cases hok
    simp only [rI_inb hib, rI_at hib, rP_inb hi, rP_at hi, e, hlt, hadd, k1, k2, k3, run_id, run_ge, run_leq, run_gtr, Er_lt0, Er_ltg, Er_call0, Er_callg, Er_ite, Er_leaf, stepT_0, stepT_1, stepT_2, stepT_3, stepT_4, stepT_5, stepT_6, iteT_true, iteT_false, ltT_tt, ltT_ff, ltT_tf, ltT_ft, callT_tt, callT_ff, callT_tf, callT_ft, ltT_u, callT_u, rI_len, rP_len, run_neq, run_eql, run_lss, run_not, run_pick, run_eqb, run_eqs2, Atom.val, List.map, List.getD_cons_zero, List.getD_cons_succ, Option.bind_some, List.length_cons, List.length_nil, if_true, if_false, List.cons_append, List.nil_append, List.append_nil, Bool.not_true, Bool.not_false, Nat.zero_add, Nat.sub_zero, reduceIte, reduceCtorEq, retR_ret, List.reduceReplicate, Bool.and_true, Bool.true_and, Bool.and_false, Bool.false_and, beq_self_eq_true, Bool.false_eq_true]
  · intro i hi hok
    have hib : i < b.length := by omega
    have e := told12 (c.getD i (0, 0)).1 (c.getD i (0, 0)).2
    have hlt : decide ((i : Int) < c.length) = true := by simp; omega
    refine ⟨[.bool false], ?_, rfl⟩
    unfold qq at hok
    cases k1 : told (c.getD i (0, 0)).1 (c.getD i (0, 0)).2
    · simp only [rI_inb hib, rI_at hib, rP_inb hi, rP_at hi, e, hlt, k1, run_id, run_ge, run_leq, run_gtr, Er_lt0, Er_ltg, Er_call0, Er_callg, Er_ite, Er_leaf, stepT_0, stepT_1, stepT_2, stepT_3, stepT_4, stepT_5, stepT_6, iteT_true, iteT_false, ltT_tt, ltT_ff, ltT_tf, ltT_ft, callT_tt, callT_ff, callT_tf, callT_ft, ltT_u, callT_u, rI_len, rP_len, run_neq, run_eql, run_lss, run_not, run_pick, run_eqb, run_eqs2, Atom.val, List.map, List.getD_cons_zero, List.getD_cons_succ, Option.bind_some, List.length_cons, List.length_nil, if_true, if_false, List.cons_append, List.nil_append, List.append_nil, Bool.not_true, Bool.not_false, Nat.zero_add, Nat.sub_zero, reduceIte, reduceCtorEq, retR_ret, List.reduceReplicate, Bool.and_true, Bool.true_and, Bool.and_false, Bool.false_and, beq_self_eq_true, Bool.false_eq_true]
    cases k2 : b.getD i 0 == 0
    · rw [k1, k2] at hok; cases hok
    cases k3 : (c.getD i (0, 0)).1 == 0
    · simp only [rI_inb hib, rI_at hib, rP_inb hi, rP_at hi, e, hlt, k1, k2, k3, run_id, run_ge, run_leq, run_gtr, Er_lt0, Er_ltg, Er_call0, Er_callg, Er_ite, Er_leaf, stepT_0, stepT_1, stepT_2, stepT_3, stepT_4, stepT_5, stepT_6, iteT_true, iteT_false, ltT_tt, ltT_ff, ltT_tf, ltT_ft, callT_tt, callT_ff, callT_tf, callT_ft, ltT_u, callT_u, rI_len, rP_len, run_neq, run_eql, run_lss, run_not, run_pick, run_eqb, run_eqs2, Atom.val, List.map, List.getD_cons_zero, List.getD_cons_succ, Option.bind_some, List.length_cons, List.length_nil, if_true, if_false, List.cons_append, List.nil_append, List.append_nil, Bool.not_true, Bool.not_false, Nat.zero_add, Nat.sub_zero, reduceIte, reduceCtorEq, retR_ret, List.reduceReplicate, Bool.and_true, Bool.true_and, Bool.and_false, Bool.false_and, beq_self_eq_true, Bool.false_eq_true]
    rw [k1, k2, k3] at hok; cases hok
  · have hlt : decide ((c.length : Int) < c.length) = false := by simp
    simp only [hlt, run_id, run_ge, run_leq, run_gtr, Er_lt0, Er_ltg, Er_call0, Er_callg, Er_ite, Er_leaf, stepT_0, stepT_1, stepT_2, stepT_3, stepT_4, stepT_5, stepT_6, iteT_true, iteT_false, ltT_tt, ltT_ff, ltT_tf, ltT_ft, callT_tt, callT_ff, callT_tf, callT_ft, ltT_u, callT_u, rI_len, rP_len, run_neq, run_eql, run_lss, run_not, run_pick, run_eqb, run_eqs2, Atom.val, List.map, List.getD_cons_zero, List.getD_cons_succ, Option.bind_some, List.length_cons, List.length_nil, if_true, if_false, List.cons_append, List.nil_append, List.append_nil, Bool.not_true, Bool.not_false, Nat.zero_add, Nat.sub_zero, reduceIte, reduceCtorEq, retR_ret, List.reduceReplicate, Bool.and_true, Bool.true_and, Bool.and_false, Bool.false_and, beq_self_eq_true, Bool.false_eq_true]
  · intro h
    simp only [h, run_id, run_ge, run_leq, run_gtr, Er_lt0, Er_ltg, Er_call0, Er_callg, Er_ite, Er_leaf, stepT_0, stepT_1, stepT_2, stepT_3, stepT_4, stepT_5, stepT_6, iteT_true, iteT_false, ltT_tt, ltT_ff, ltT_tf, ltT_ft, callT_tt, callT_ff, callT_tf, callT_ft, ltT_u, callT_u, rI_len, rP_len, run_neq, run_eql, run_lss, run_not, run_pick, run_eqb, run_eqs2, Atom.val, List.map, List.getD_cons_zero, List.getD_cons_succ, Option.bind_some, List.length_cons, List.length_nil, if_true, if_false, List.cons_append, List.nil_append, List.append_nil, Bool.not_true, Bool.not_false, Nat.zero_add, Nat.sub_zero, reduceIte, reduceCtorEq, retR_ret, List.reduceReplicate, Bool.and_true, Bool.true_and, Bool.and_false, Bool.false_and, beq_self_eq_true, Bool.false_eq_true]
  · intro h r hr
    rw [hr, h]
theorem gc13 (a b : List Int) (c : List (Int × Int)) (ha : a.length * 8 ≤ reachBytes) (hb : b.length * 8 ≤ reachBytes) (hc : c.length * 16 ≤ reachBytes) : Fun T 13 [rI a, rI b, rP c] = some [.bool (gc a b c)] := by
  rw [Fun_r (t := tm13) rfl]
  unfold tm13 gc
  have e1 := gs14 a ha
  cases h1 : gs a
  · simp only [e1, h1, run_id, run_ge, run_leq, run_gtr, Er_lt0, Er_ltg, Er_call0, Er_callg, Er_ite, Er_leaf, stepT_0, stepT_1, stepT_2, stepT_3, stepT_4, stepT_5, stepT_6, iteT_true, iteT_false, ltT_tt, ltT_ff, ltT_tf, ltT_ft, callT_tt, callT_ff, callT_tf, callT_ft, ltT_u, callT_u, rI_len, rP_len, run_neq, run_eql, run_lss, run_not, run_pick, run_eqb, run_eqs2, Atom.val, List.map, List.getD_cons_zero, List.getD_cons_succ, Option.bind_some, List.length_cons, List.length_nil, if_true, if_false, List.cons_append, List.nil_append, List.append_nil, Bool.not_true, Bool.not_false, Nat.zero_add, Nat.sub_zero, reduceIte, reduceCtorEq, retR_ret, List.reduceReplicate, Bool.and_true, Bool.true_and, Bool.and_false, Bool.false_and, beq_self_eq_true, Bool.false_eq_true]
  cases h2 : (b.length : Int) == 4
  · simp only [e1, h1, h2, run_id, run_ge, run_leq, run_gtr, Er_lt0, Er_ltg, Er_call0, Er_callg, Er_ite, Er_leaf, stepT_0, stepT_1, stepT_2, stepT_3, stepT_4, stepT_5, stepT_6, iteT_true, iteT_false, ltT_tt, ltT_ff, ltT_tf, ltT_ft, callT_tt, callT_ff, callT_tf, callT_ft, ltT_u, callT_u, rI_len, rP_len, run_neq, run_eql, run_lss, run_not, run_pick, run_eqb, run_eqs2, Atom.val, List.map, List.getD_cons_zero, List.getD_cons_succ, Option.bind_some, List.length_cons, List.length_nil, if_true, if_false, List.cons_append, List.nil_append, List.append_nil, Bool.not_true, Bool.not_false, Nat.zero_add, Nat.sub_zero, reduceIte, reduceCtorEq, retR_ret, List.reduceReplicate, Bool.and_true, Bool.true_and, Bool.and_false, Bool.false_and, beq_self_eq_true, Bool.false_eq_true]
  cases h3 : (c.length : Int) == 4
  · simp only [e1, h1, h2, h3, run_id, run_ge, run_leq, run_gtr, Er_lt0, Er_ltg, Er_call0, Er_callg, Er_ite, Er_leaf, stepT_0, stepT_1, stepT_2, stepT_3, stepT_4, stepT_5, stepT_6, iteT_true, iteT_false, ltT_tt, ltT_ff, ltT_tf, ltT_ft, callT_tt, callT_ff, callT_tf, callT_ft, ltT_u, callT_u, rI_len, rP_len, run_neq, run_eql, run_lss, run_not, run_pick, run_eqb, run_eqs2, Atom.val, List.map, List.getD_cons_zero, List.getD_cons_succ, Option.bind_some, List.length_cons, List.length_nil, if_true, if_false, List.cons_append, List.nil_append, List.append_nil, Bool.not_true, Bool.not_false, Nat.zero_add, Nat.sub_zero, reduceIte, reduceCtorEq, retR_ret, List.reduceReplicate, Bool.and_true, Bool.true_and, Bool.and_false, Bool.false_and, beq_self_eq_true, Bool.false_eq_true]
  simp only [e1, h1, h2, h3, run_id, run_ge, run_leq, run_gtr, Er_lt0, Er_ltg, Er_call0, Er_callg, Er_ite, Er_leaf, stepT_0, stepT_1, stepT_2, stepT_3, stepT_4, stepT_5, stepT_6, iteT_true, iteT_false, ltT_tt, ltT_ff, ltT_tf, ltT_ft, callT_tt, callT_ff, callT_tf, callT_ft, ltT_u, callT_u, rI_len, rP_len, run_neq, run_eql, run_lss, run_not, run_pick, run_eqb, run_eqs2, Atom.val, List.map, List.getD_cons_zero, List.getD_cons_succ, Option.bind_some, List.length_cons, List.length_nil, if_true, if_false, List.cons_append, List.nil_append, List.append_nil, Bool.not_true, Bool.not_false, Nat.zero_add, Nat.sub_zero, reduceIte, reduceCtorEq, retR_ret, List.reduceReplicate, Bool.and_true, Bool.true_and, Bool.and_false, Bool.false_and, beq_self_eq_true, Bool.false_eq_true]
  have hb4 : (b.length : Int) = 4 := by simpa using h2
  have hc4 : (c.length : Int) = 4 := by simpa using h3
  have hbc : c.length = b.length := by omega
  refine scanC (fun o => o = some [.bool (allI b 0 999 && allB (qq b c) c.length)]) b.length (fun i => inR (b.getD i 0) 0 999 && qq b c i) (fun r => r = [.bool false]) [] ?_ ?_ ?_ ?_ ?_
  · intro i hi hok
    have hic : i < c.length := by omega
    have e := told20 (c.getD i (0, 0)).1 (c.getD i (0, 0)).2
    have e3 := in18 (b.getD i 0) 0 999
    have hlt : decide ((i : Int) < b.length) = true := by simp; omega
    have hadd := @run_add (i : Int) 1 (by omega) (by omega)
    have hok' : (inR (b.getD i 0) 0 999 && qq b c i) = true := hok
    unfold qq at hok'
    cases k0 : inR (b.getD i 0) 0 999
    · rw [k0] at hok'; cases hok'
    cases k1 : told (c.getD i (0, 0)).1 (c.getD i (0, 0)).2
    · rw [k0, k1] at hok'; cases hok'
    cases k2 : b.getD i 0 == 0
    · simp only [rI_inb hi, rI_at hi, rP_inb hic, rP_at hic, rP_at1 hic, e, e3, hlt, hadd, k0, k1, k2, run_id, run_ge, run_leq, run_gtr, Er_lt0, Er_ltg, Er_call0, Er_callg, Er_ite, Er_leaf, stepT_0, stepT_1, stepT_2, stepT_3, stepT_4, stepT_5, stepT_6, iteT_true, iteT_false, ltT_tt, ltT_ff, ltT_tf, ltT_ft, callT_tt, callT_ff, callT_tf, callT_ft, ltT_u, callT_u, rI_len, rP_len, run_neq, run_eql, run_lss, run_not, run_pick, run_eqb, run_eqs2, Atom.val, List.map, List.getD_cons_zero, List.getD_cons_succ, Option.bind_some, List.length_cons, List.length_nil, if_true, if_false, List.cons_append, List.nil_append, List.append_nil, Bool.not_true, Bool.not_false, Nat.zero_add, Nat.sub_zero, reduceIte, reduceCtorEq, retR_ret, List.reduceReplicate, Bool.and_true, Bool.true_and, Bool.and_false, Bool.false_and, beq_self_eq_true, Bool.false_eq_true]
    cases k3 : (c.getD i (0, 0)).1 == 0
    · rw [k0, k1, k2, k3] at hok'; cases hok'
    simp only [rI_inb hi, rI_at hi, rP_inb hic, rP_at hic, rP_at1 hic, e, e3, hlt, hadd, k0, k1, k2, k3, run_id, run_ge, run_leq, run_gtr, Er_lt0, Er_ltg, Er_call0, Er_callg, Er_ite, Er_leaf, stepT_0, stepT_1, stepT_2, stepT_3, stepT_4, stepT_5, stepT_6, iteT_true, iteT_false, ltT_tt, ltT_ff, ltT_tf, ltT_ft, callT_tt, callT_ff, callT_tf, callT_ft, ltT_u, callT_u, rI_len, rP_len, run_neq, run_eql, run_lss, run_not, run_pick, run_eqb, run_eqs2, Atom.val, List.map, List.getD_cons_zero, List.getD_cons_succ, Option.bind_some, List.length_cons, List.length_nil, if_true, if_false, List.cons_append, List.nil_append, List.append_nil, Bool.not_true, Bool.not_false, Nat.zero_add, Nat.sub_zero, reduceIte, reduceCtorEq, retR_ret, List.reduceReplicate, Bool.and_true, Bool.true_and, Bool.and_false, Bool.false_and, beq_self_eq_true, Bool.false_eq_true]
  · intro i hi hok
    have hic : i < c.length := by omega
    have e := told20 (c.getD i (0, 0)).1 (c.getD i (0, 0)).2
    have e3 := in18 (b.getD i 0) 0 999
    have hlt : decide ((i : Int) < b.length) = true := by simp; omega
    refine ⟨[.bool false], ?_, rfl⟩
    have hok' : (inR (b.getD i 0) 0 999 && qq b c i) = false := hok
    unfold qq at hok'
    cases k0 : inR (b.getD i 0) 0 999
    · simp only [rI_inb hi, rI_at hi, rP_inb hic, rP_at hic, rP_at1 hic, e, e3, hlt, k0, run_id, run_ge, run_leq, run_gtr, Er_lt0, Er_ltg, Er_call0, Er_callg, Er_ite, Er_leaf, stepT_0, stepT_1, stepT_2, stepT_3, stepT_4, stepT_5, stepT_6, iteT_true, iteT_false, ltT_tt, ltT_ff, ltT_tf, ltT_ft, callT_tt, callT_ff, callT_tf, callT_ft, ltT_u, callT_u, rI_len, rP_len, run_neq, run_eql, run_lss, run_not, run_pick, run_eqb, run_eqs2, Atom.val, List.map, List.getD_cons_zero, List.getD_cons_succ, Option.bind_some, List.length_cons, List.length_nil, if_true, if_false, List.cons_append, List.nil_append, List.append_nil, Bool.not_true, Bool.not_false, Nat.zero_add, Nat.sub_zero, reduceIte, reduceCtorEq, retR_ret, List.reduceReplicate, Bool.and_true, Bool.true_and, Bool.and_false, Bool.false_and, beq_self_eq_true, Bool.false_eq_true]
    cases k1 : told (c.getD i (0, 0)).1 (c.getD i (0, 0)).2
    · simp only [rI_inb hi, rI_at hi, rP_inb hic, rP_at hic, rP_at1 hic, e, e3, hlt, k0, k1, run_id, run_ge, run_leq, run_gtr, Er_lt0, Er_ltg, Er_call0, Er_callg, Er_ite, Er_leaf, stepT_0, stepT_1, stepT_2, stepT_3, stepT_4, stepT_5, stepT_6, iteT_true, iteT_false, ltT_tt, ltT_ff, ltT_tf, ltT_ft, callT_tt, callT_ff, callT_tf, callT_ft, ltT_u, callT_u, rI_len, rP_len, run_neq, run_eql, run_lss, run_not, run_pick, run_eqb, run_eqs2, Atom.val, List.map, List.getD_cons_zero, List.getD_cons_succ, Option.bind_some, List.length_cons, List.length_nil, if_true, if_false, List.cons_append, List.nil_append, List.append_nil, Bool.not_true, Bool.not_false, Nat.zero_add, Nat.sub_zero, reduceIte, reduceCtorEq, retR_ret, List.reduceReplicate, Bool.and_true, Bool.true_and, Bool.and_false, Bool.false_and, beq_self_eq_true, Bool.false_eq_true]
    cases k2 : b.getD i 0 == 0
    · rw [k0, k1, k2] at hok'; cases hok'
    cases k3 : (c.getD i (0, 0)).1 == 0
    · simp only [rI_inb hi, rI_at hi, rP_inb hic, rP_at hic, rP_at1 hic, e, e3, hlt, k0, k1, k2, k3, run_id, run_ge, run_leq, run_gtr, Er_lt0, Er_ltg, Er_call0, Er_callg, Er_ite, Er_leaf, stepT_0, stepT_1, stepT_2, stepT_3, stepT_4, stepT_5, stepT_6, iteT_true, iteT_false, ltT_tt, ltT_ff, ltT_tf, ltT_ft, callT_tt, callT_ff, callT_tf, callT_ft, ltT_u, callT_u, rI_len, rP_len, run_neq, run_eql, run_lss, run_not, run_pick, run_eqb, run_eqs2, Atom.val, List.map, List.getD_cons_zero, List.getD_cons_succ, Option.bind_some, List.length_cons, List.length_nil, if_true, if_false, List.cons_append, List.nil_append, List.append_nil, Bool.not_true, Bool.not_false, Nat.zero_add, Nat.sub_zero, reduceIte, reduceCtorEq, retR_ret, List.reduceReplicate, Bool.and_true, Bool.true_and, Bool.and_false, Bool.false_and, beq_self_eq_true, Bool.false_eq_true]
    rw [k0, k1, k2, k3] at hok'; cases hok'
  · have hlt : decide ((b.length : Int) < b.length) = false := by simp
    simp only [hlt, run_id, run_ge, run_leq, run_gtr, Er_lt0, Er_ltg, Er_call0, Er_callg, Er_ite, Er_leaf, stepT_0, stepT_1, stepT_2, stepT_3, stepT_4, stepT_5, stepT_6, iteT_true, iteT_false, ltT_tt, ltT_ff, ltT_tf, ltT_ft, callT_tt, callT_ff, callT_tf, callT_ft, ltT_u, callT_u, rI_len, rP_len, run_neq, run_eql, run_lss, run_not, run_pick, run_eqb, run_eqs2, Atom.val, List.map, List.getD_cons_zero, List.getD_cons_succ, Option.bind_some, List.length_cons, List.length_nil, if_true, if_false, List.cons_append, List.nil_append, List.append_nil, Bool.not_true, Bool.not_false, Nat.zero_add, Nat.sub_zero, reduceIte, reduceCtorEq, retR_ret, List.reduceReplicate, Bool.and_true, Bool.true_and, Bool.and_false, Bool.false_and, beq_self_eq_true, Bool.false_eq_true]
  · intro h
    rw [allB_and] at h
    have h' : (allI b 0 999 && allB (qq b c) c.length) = true := by rw [hbc]; exact h
    simp only [h', run_id, run_ge, run_leq, run_gtr, Er_lt0, Er_ltg, Er_call0, Er_callg, Er_ite, Er_leaf, stepT_0, stepT_1, stepT_2, stepT_3, stepT_4, stepT_5, stepT_6, iteT_true, iteT_false, ltT_tt, ltT_ff, ltT_tf, ltT_ft, callT_tt, callT_ff, callT_tf, callT_ft, ltT_u, callT_u, rI_len, rP_len, run_neq, run_eql, run_lss, run_not, run_pick, run_eqb, run_eqs2, Atom.val, List.map, List.getD_cons_zero, List.getD_cons_succ, Option.bind_some, List.length_cons, List.length_nil, if_true, if_false, List.cons_append, List.nil_append, List.append_nil, Bool.not_true, Bool.not_false, Nat.zero_add, Nat.sub_zero, reduceIte, reduceCtorEq, retR_ret, List.reduceReplicate, Bool.and_true, Bool.true_and, Bool.and_false, Bool.false_and, beq_self_eq_true, Bool.false_eq_true]
  · intro h r hr
    rw [allB_and] at h
    have h' : (allI b 0 999 && allB (qq b c) c.length) = false := by rw [hbc]; exact h
    rw [hr, h']
theorem law (a b : List Int) (c : List (Int × Int)) (ha : a.length * 8 ≤ reachBytes) (hb : b.length * 8 ≤ reachBytes) (hc : c.length * 16 ≤ reachBytes) : Fun T 0 [rI a, rI b, rP c] = some [.bool true] := by
  rw [Fun_r (t := tm0) rfl]
  unfold tm0
  obtain ⟨v1, e1, p1, q1⟩ := sz1 a b c 1048576 (by omega) (by omega) ha hb hc
  by_cases n1 : v1 < 0
  · have n1' : decide (v1 < 0) = true := by simpa using n1
    simp only [e1, n1', run_id, run_ge, run_leq, run_gtr, Er_lt0, Er_ltg, Er_call0, Er_callg, Er_ite, Er_leaf, stepT_0, stepT_1, stepT_2, stepT_3, stepT_4, stepT_5, stepT_6, iteT_true, iteT_false, ltT_tt, ltT_ff, ltT_tf, ltT_ft, callT_tt, callT_ff, callT_tf, callT_ft, ltT_u, callT_u, rI_len, rP_len, run_neq, run_eql, run_lss, run_not, run_pick, run_eqb, run_eqs2, Atom.val, List.map, List.getD_cons_zero, List.getD_cons_succ, Option.bind_some, List.length_cons, List.length_nil, if_true, if_false, List.cons_append, List.nil_append, List.append_nil, Bool.not_true, Bool.not_false, Nat.zero_add, Nat.sub_zero, reduceIte, reduceCtorEq, retR_ret, List.reduceReplicate, Bool.and_true, Bool.true_and, Bool.and_false, Bool.false_and, beq_self_eq_true, Bool.false_eq_true]
  have n1' : decide (v1 < 0) = false := by simpa using n1
  have k1 := cp4 a b c ha hb hc
  have k3 := gc8 a b c ha hb hc
  have k4 := gc13 a b c ha hb hc
  have k5 := eq21 a a b b c c ha hb hc ha hb hc
  simp only [e1, n1', k1, k3, k4, k5, run_id, run_ge, run_leq, run_gtr, Er_lt0, Er_ltg, Er_call0, Er_callg, Er_ite, Er_leaf, stepT_0, stepT_1, stepT_2, stepT_3, stepT_4, stepT_5, stepT_6, iteT_true, iteT_false, ltT_tt, ltT_ff, ltT_tf, ltT_ft, callT_tt, callT_ff, callT_tf, callT_ft, ltT_u, callT_u, rI_len, rP_len, run_neq, run_eql, run_lss, run_not, run_pick, run_eqb, run_eqs2, Atom.val, List.map, List.getD_cons_zero, List.getD_cons_succ, Option.bind_some, List.length_cons, List.length_nil, if_true, if_false, List.cons_append, List.nil_append, List.append_nil, Bool.not_true, Bool.not_false, Nat.zero_add, Nat.sub_zero, reduceIte, reduceCtorEq, retR_ret, List.reduceReplicate, Bool.and_true, Bool.true_and, Bool.and_false, Bool.false_and, beq_self_eq_true, Bool.false_eq_true]
theorem hpure : ∀ ds, WTs [.sl 8 [.int .i64], .sl 8 [.int .i64], .sl 16 [.int .i64, .int .i64]] ds → ∃ n, callN T n 0 ds = some [.bool true] := by
  intro ds h
  simp only [WTs] at h
  obtain ⟨d1, r1, rfl, w1, d2, r2, rfl, w2, d3, r3, rfl, w3, rfl⟩ := h
  obtain ⟨a, rfl, h1⟩ := WT_ints w1
  obtain ⟨b, rfl, h2⟩ := WT_ints w2
  obtain ⟨c, rfl, h3⟩ := WT_pairs w3
  exact pure_of (law a b c h1 h2 h3)
end FnExactGoodClerk
end Go.Proofs.Ytddjpamapmcilaa
