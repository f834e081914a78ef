/- Terms for the program's functions, and that they are right: part 8 of 8. -/
import Derived.Test.YtjoebpmeeampfaaRf7
set_option linter.unusedSimpArgs false
set_option linter.unusedVariables false
set_option linter.unnecessarySimpa false
set_option linter.unusedSectionVars false
namespace Go.Proofs.Ytjoebpmeeampfaa.Rf
set_option linter.unusedVariables false
set_option linter.unusedSimpArgs false
def anyN (st : Int) (seen : List TRow) : Nat → Bool
 | 0 => false
 | m + 1 => anyN st seen m || (atI seen (m : Int)).state == st
theorem anyN_spec {st : Int} {seen : List TRow} : ∀ {m : Nat}, anyN st seen m = true ↔ ∃ i : Nat, i < m ∧ (atI seen (i : Int)).state = st
 | 0 => by simp [anyN]
 | m + 1 => by
  simp only [anyN, Bool.or_eq_true, beq_iff_eq, anyN_spec (m := m)]
  constructor
  ·rintro (⟨i, h1, h2⟩ | h)
   ·exact ⟨i, by omega, h2⟩
   ·exact ⟨m, by omega, h⟩
  ·rintro ⟨i, h1, h2⟩
   rcases Nat.lt_or_ge i m with h | h
   ·exact .inl ⟨i, h, h2⟩
   ·obtain rfl : i = m := by omega
    exact .inr h2
theorem bestN_any (st : Int) (seen : List TRow) : ∀ m, (bestN st seen m).isSome = anyN st seen m
 | 0 => rfl
 | m + 1 => by
  have ih := bestN_any st seen m
  rw [bestN_succ]
  unfold bestStep
  simp only [anyN]
  cases ho : bestN st seen m with
  | none =>
   rw [ho] at ih
   rw [← ih]
   cases hs : (atI seen (m : Int)).state == st <;> simp
  | some b =>
   rw [ho] at ih
   rw [← ih]
   simp only [Option.isSome_some, Bool.true_or]
   split <;> rfl
def metN (c : TCmd) (a : TAttr) (seen : List TRow) : Nat → Bool
 | 0 => false
 | m + 1 => metN c a seen m || (decide ((atI seen (m : Int)).cmd = c) && decide ((atI seen (m : Int)).attr = a))
theorem metN_of {c : TCmd} {a : TAttr} {seen : List TRow} {i : Nat} (h1 : (atI seen (i : Int)).cmd = c) (h2 : (atI seen (i : Int)).attr = a) : ∀ {m : Nat}, i < m → metN c a seen m = true
 | 0, h => by omega
 | m + 1, h => by
  simp only [metN, Bool.or_eq_true]
  rcases Nat.lt_or_ge i m with hi | hi
  ·exact .inl (metN_of h1 h2 hi)
  ·obtain rfl : i = m := by omega
   exact .inr (by simp [h1, h2])
theorem likeN_any {seen : List TRow} (h0 : 0 < seen.length) (h : likeN seen seen.length = true) : anyN 1 seen seen.length = true := by
 unfold likeN at h
 have h1 : likeM seen (atI seen ((0 : Nat) : Int)) = true := by
  by_cases hc : likeM seen (atI seen ((0 : Nat) : Int)) = true
  ·exact hc
  ·exfalso
   have : ∀ n, 0 < n → allB (fun i => likeM seen (atI seen (i : Int))) n = false := by
    intro n hn
    induction n with
    | zero => omega
    | succ n ih =>
     rcases Nat.eq_zero_or_pos n with rfl | hp
     ·simp only [allB] at *
      simpa using hc
     ·have := ih hp
      simp only [allB] at *
      first | simp [this] | simp_all
   rw [this _ h0] at h
   cases h
 refine anyN_spec.2 ⟨0, h0, ?_⟩
 simp only [likeM, Bool.and_eq_true, beq_iff_eq] at h1
 exact h1.1.1.1
theorem joinD_id {xs ys : List Int} (h : ∀ i : Nat, i < xs.length → atI ys (i : Int) ≤ atI xs (i : Int)) : joinD xs ys xs.length = xs := by
 apply List.ext_getElem?
 intro i
 unfold joinD
 rw [List.getElem?_map]
 rcases Nat.lt_or_ge i xs.length with hi | hi
 ·rw [List.getElem?_range hi, List.getElem?_eq_getElem hi, Option.map_some, Int.max_eq_left (h i hi), atI_get hi]
 ·rw [List.getElem?_eq_none (by simpa using hi), List.getElem?_eq_none hi]
  rfl
theorem joinD_at {xs ys : List Int} {m i : Nat} (h : i < m) : atI (joinD xs ys m) (i : Int) = max (atI xs (i : Int)) (atI ys (i : Int)) := by
 have hl : i < (joinD xs ys m).length := by rw [joinD_len]; exact h
 rw [atI_get hl]
 simp [joinD]
theorem joinN_ge {n : Int} {seen : List TRow} {i : Nat} (hs : (atI seen (i : Int)).state = 1) : ∀ {m : Nat}, i < m →
  (atI seen (i : Int)).attr.seq ≤ (joinN n seen m).seq ∧ ∀ k : Nat, k < n.toNat → atI (atI seen (i : Int)).attr.deps (k : Int) ≤ atI (joinN n seen m).deps (k : Int)
 | 0, h => by omega
 | m + 1, h => by
  have hl := joinN_len n seen m
  rw [joinN_succ]
  rcases Nat.lt_or_ge i m with hi | hi
  ·obtain ⟨h1, h2⟩ := joinN_ge (n := n) hs hi
   split
   ·refine ⟨by simp only [joinA]; omega, fun k hk => ?_⟩
    simp only [joinA]
    rw [joinD_at (by omega)]
    have := h2 k hk
    omega
   ·exact ⟨h1, h2⟩
  ·obtain rfl : i = m := by omega
   rw [if_pos (by simpa using hs)]
   refine ⟨by simp only [joinA]; omega, fun k hk => ?_⟩
   simp only [joinA]
   rw [joinD_at (by omega)]
   omega
theorem attrOk_at {n : Int} {a : TAttr} (h : attrOk n a = true) : (0 ≤ a.seq ∧ a.seq ≤ 999) ∧ (a.deps.length : Int) = n ∧ ∀ k : Nat, k < a.deps.length → 0 ≤ atI a.deps (k : Int) ∧ atI a.deps (k : Int) ≤ 6 := by
 simp only [attrOk, Bool.and_eq_true, beq_iff_eq, List.all_eq_true] at h
 exact ⟨inR_rng h.1.1, h.1.2, fun k hk => inR_rng (h.2 _ (at_mem hk))⟩
theorem attrOk_of {n : Int} {a : TAttr} (h1 : 0 ≤ a.seq ∧ a.seq ≤ 999) (h2 : (a.deps.length : Int) = n) (h3 : ∀ k : Nat, k < a.deps.length → 0 ≤ atI a.deps (k : Int) ∧ atI a.deps (k : Int) ≤ 6) : attrOk n a = true := by
 simp only [attrOk, Bool.and_eq_true, beq_iff_eq, List.all_eq_true]
 refine ⟨⟨by simp [inR, h1], h2⟩, fun x hx => ?_⟩
 obtain ⟨k, hk, rfl⟩ := List.getElem_of_mem hx
 have := h3 k hk
 rw [atI_get hk] at this
 simp [inR, this]
theorem rowOk_attr {n : Int} {r : TRow} (h : rowOk n r = true) (hg : isGrp n = true) : attrOk n r.attr = true := by
 simp only [rowOk, Bool.and_eq_true] at h
 have h3 := h.2
 have hn := isGrp_rng hg
 split at h3
 ·simp only [Bool.and_eq_true, decide_eq_true_eq] at h3
  rw [h3.2]
  refine attrOk_of (by simp [none0]) (by simp [none0]; omega) fun k hk => ?_
  rw [atI_get hk]
  simp [none0]
 ·simp only [Bool.and_eq_true] at h3
  exact h3.2
theorem joinN_ok {n : Int} {seen : List TRow} (hg : isGrp n = true) (h : ∀ r ∈ seen, rowOk n r = true) : ∀ m, m ≤ seen.length → attrOk n (joinN n seen m) = true
 | 0, _ => by
  have hn := isGrp_rng hg
  refine attrOk_of (by simp [joinN, none0]) (by simp [joinN, none0]; omega) fun k hk => ?_
  rw [atI_get hk]
  simp [joinN, none0]
 | m + 1, hm => by
  obtain ⟨h1, h2, h3⟩ := attrOk_at (joinN_ok hg h m (by omega))
  obtain ⟨h4, h5, h6⟩ := attrOk_at (rowOk_attr (h _ (at_mem (xs := seen) (i := m) (by omega))) hg)
  rw [joinN_succ]
  split
  ·refine attrOk_of (by simp only [joinA]; omega) (by simp only [joinA, joinD_len]; omega) fun k hk => ?_
   simp only [joinA, joinD_len] at hk ⊢
   rw [joinD_at hk]
   have := h3 k hk
   have := h6 k (by omega)
   omega
  ·exact joinN_ok hg h m (by omega)
structure ChooseSpec (n : Int) (seen : List TRow) (why : Int) (c : TCmd) (a : TAttr) : Prop where
 w : why = 1 ∨ why = 2 ∨ why = 3
 acc : anyN 2 seen seen.length = true → why = 1
 non : anyN 2 seen seen.length = false → anyN 1 seen seen.length = false → why = 3
 w3 : why = 3 → anyN 2 seen seen.length = false ∧ anyN 1 seen seen.length = false
 w1 : why = 1 → metN c a seen seen.length = true
 w2 : why = 2 → ∀ i : Nat, i < seen.length → (atI seen (i : Int)).state = 1 → attrOk n a = true ∧ attrOk n (atI seen (i : Int)).attr = true ∧ joinA a (atI seen (i : Int)).attr = a
theorem chooseM_spec {n : Int} {seen : List TRow} (hg : isGrp n = true) (h0 : 0 < seen.length) (h : ∀ r ∈ seen, rowOk n r = true) : ChooseSpec n seen (chooseM n seen).1 (chooseM n seen).2.1 (chooseM n seen).2.2 := by
 have b2 := bestN_any 2 seen seen.length
 have b1 := bestN_any 1 seen seen.length
 have a2 := accN_best 2 seen seen.length
 have r2 := accN_rng 2 seen seen.length
 unfold chooseM
 cases e2 : bestN 2 seen seen.length with
 | some r =>
  rw [e2] at b2 a2
  simp only [Option.isSome_some] at b2
  simp only
  have hm : metN r.cmd r.attr seen seen.length = true := by
   split at a2
   ·cases a2
   ·simp only [Option.some.injEq] at a2
    have e : ((accN 2 seen seen.length).toNat : Int) = accN 2 seen seen.length := by omega
    refine metN_of (i := (accN 2 seen seen.length).toNat) ?_ ?_ (by omega)
    ·rw [e, a2]
    ·rw [e, a2]
  exact ⟨.inl rfl, fun _ => rfl, fun hc => (by rw [hc] at b2; cases b2), fun hc => (by cases hc), fun _ => hm, fun hc => (by cases hc)⟩
 | none =>
  rw [e2] at b2
  simp only [Option.isSome_none] at b2
  simp only
  cases hl : likeN seen seen.length with
  | true =>
   have h1 := likeN_any h0 hl
   simp only [if_true]
   exact ⟨.inl rfl, fun _ => rfl, fun _ hc => (by rw [hc] at h1; cases h1), fun hc => (by cases hc), fun _ => metN_of (i := 0) rfl rfl h0, fun hc => (by cases hc)⟩
  | false =>
   simp only [Bool.false_eq_true, if_false]
   cases e1 : bestN 1 seen seen.length with
   | some r =>
    rw [e1] at b1
    simp only [Option.isSome_some] at b1
    simp only
    refine ⟨.inr (.inl rfl), fun hc => (by rw [hc] at b2; cases b2), fun _ hc => (by rw [hc] at b1; cases b1), fun hc => (by cases hc), fun hc => (by cases hc), fun _ i hi hs => ?_⟩
    have h1 := joinN_ok hg h seen.length (Nat.le_refl _)
    have h2 := rowOk_attr (h _ (at_mem hi)) hg
    refine ⟨h1, h2, ?_⟩
    obtain ⟨h3, h4⟩ := joinN_ge (n := n) hs hi
    have hl := joinN_len n seen seen.length
    unfold joinA
    rw [joinD_id (fun k hk => h4 k (by omega)), Int.max_eq_left h3]
   | none =>
    rw [e1] at b1
    simp only [Option.isSome_none] at b1
    simp only
    exact ⟨.inr (.inr rfl), fun hc => (by rw [hc] at b2; cases b2), fun _ _ => rfl, fun _ => ⟨b2.symm, b1.symm⟩, fun hc => (by cases hc), fun hc => (by cases hc)⟩
end Go.Proofs.Ytjoebpmeeampfaa.Rf
