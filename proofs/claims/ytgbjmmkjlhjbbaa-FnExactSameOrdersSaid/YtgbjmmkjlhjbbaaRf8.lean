/- Terms for the program's functions, and that they are right: part 8 of 8. -/
import Derived.Test.YtgbjmmkjlhjbbaaRf7
set_option linter.unusedSimpArgs false
set_option linter.unusedVariables false
set_option linter.unnecessarySimpa false
set_option linter.unusedSectionVars false
namespace Go.Proofs.Ytgbjmmkjlhjbbaa.Rf
set_option linter.unusedVariables false
set_option linter.unusedSimpArgs false
section
variable {T : Nat → Ent} {β : Type} {α : Type} [Inhabited α]
inductive Rd1 (σ : Type) where
 | go (s : σ)
 | out (r : Kind × List D)
def foldX {σ : Type} (f : Nat → α → σ → Rd1 σ) : Nat → List α → σ → Rd1 σ
 | _, [], s => .go s
 | i, x :: xs, s => match f i x s with
  | .go s' => foldX f (i + 1) xs s'
  | .out r => .out r
def rndK {σ : Type} (vs : Int → σ → List D) (i : Int) : Rd1 σ → Kind × List D
 | .go s => (.cont, vs (i + 1) s)
 | .out r => r
theorem loopX {σ : Type} {body : Tm β} {ρ : List D} {init : List Atom} (xs : List α) (vs : Int → σ → List D) (s0 : σ) (f : Nat → α → σ → Rd1 σ) (inv : Nat → σ → Prop) (fin : σ → Kind × List D)
  (h0 : init.map (·.val ρ) = vs 0 s0) (hi : inv 0 s0)
  (h1 : ∀ (i : Nat) s, i < xs.length → inv i s → Er T body (ρ ++ vs i s) = some (rndK vs i (f i (atI xs i) s)) ∧ (∀ s', f i (atI xs i) s = .go s' → inv (i + 1) s') ∧ ∀ r, f i (atI xs i) s = .out r → r.1 ≠ .cont)
  (h2 : ∀ s, inv xs.length s → Er T body (ρ ++ vs xs.length s) = some (fin s) ∧ (fin s).1 ≠ .cont) :
  ∃ r, Er T (.loop init body) ρ = some r ∧ ((∃ s, foldX f 0 xs s0 = .go s ∧ inv xs.length s ∧ r = fin s) ∨ foldX f 0 xs s0 = .out r) := by
 have key := loopR (T := T) (body := body) (ρ := ρ) (γ := Nat × σ) (fun c => xs.length - c.1) (fun c => c.1 ≤ xs.length ∧ inv c.1 c.2 ∧ foldX f c.1 (xs.drop c.1) c.2 = foldX f 0 xs s0) (fun c => vs (c.1 : Int) c.2)
  (fun r => (∃ s, foldX f 0 xs s0 = .go s ∧ inv xs.length s ∧ r = fin s) ∨ foldX f 0 xs s0 = .out r)
  (fun ⟨i, s⟩ ⟨hle, hv, hf⟩ => by
   simp only at hle hv hf ⊢
   rcases Nat.lt_or_ge i xs.length with hlt | hge
   ·obtain ⟨h3, h4, h5⟩ := h1 i s hlt hv
    have hd : xs.drop i = atI xs i :: xs.drop (i + 1) := by
     rw [List.drop_eq_getElem_cons hlt, atI_get hlt]
    rw [hd, foldX] at hf
    refine ⟨_, h3, ?_⟩
    cases e : f i (atI xs i) s with
    | go s' =>
     rw [e] at hf
     exact .inl ⟨rfl, (i + 1, s'), ⟨by simp only; omega, h4 s' e, hf⟩, by simp only; omega, rfl⟩
    | out r =>
     rw [e] at hf
     exact .inr ⟨h5 r e, .inr hf.symm⟩
   ·obtain rfl : i = xs.length := by omega
    obtain ⟨h3, h4⟩ := h2 s hv
    rw [List.drop_length, foldX] at hf
    exact ⟨_, h3, .inr ⟨h4, .inl ⟨s, hf.symm, hv, rfl⟩⟩⟩)
  xs.length (0, s0) (by simp) ⟨by simp, hi, by simp⟩ init h0
 exact key
theorem scanX {body : Tm β} {ρ : List D} (j : Nat) (n : Nat) (p : Nat → Bool) (r : List D)
  (h1 : ∀ i : Nat, i < n → p i = true → Er T body (ρ ++ [i64 i]) = some (.cont, [i64 ((i : Int) + 1)]))
  (h2 : ∀ i : Nat, i < n → p i = false → Er T body (ρ ++ [i64 i]) = some (.ret, r))
  (h3 : Er T body (ρ ++ [i64 n]) = some (.yield j, [])) :
  Er T (.loop [.c (i64 0)] body) ρ = forkT (allB p n) (some (.yield j, [])) (some (.ret, r)) := by
 have key := loopR (T := T) (body := body) (ρ := ρ) (fun i => n - i) (fun i => i ≤ n ∧ ∀ j, j < i → p j = true) (fun i => [i64 (i : Nat)])
  (fun q => (∀ j, j < n → p j = true) ∧ q = (.yield j, []) ∨ (∃ j, j < n ∧ p j = false) ∧ q = (.ret, r))
  (fun i ⟨hi, hall⟩ => by
   rcases Nat.lt_or_ge i n with hlt | hge
   ·cases e : p i with
    | true => exact ⟨_, h1 i hlt e, .inl ⟨rfl, i + 1, ⟨by omega, fun j hj => by
      rcases Nat.lt_or_ge j i with h | h
      ·exact hall j h
      ·obtain rfl : j = i := by omega
       exact e⟩, by omega, rfl⟩⟩
    | false => exact ⟨_, h2 i hlt e, .inr ⟨by simp, .inr ⟨⟨i, hlt, e⟩, rfl⟩⟩⟩
   ·obtain rfl : i = n := by omega
    exact ⟨_, h3, .inr ⟨by simp, .inl ⟨hall, rfl⟩⟩⟩)
  n 0 (by omega) ⟨by omega, fun j hj => by omega⟩ [.c (i64 0)] (by simp [Atom.val])
 obtain ⟨q, h4, h5⟩ := key
 rw [h4]
 rcases h5 with ⟨h6, rfl⟩ | ⟨h6, rfl⟩
 ·rw [allB_true.2 h6]; rfl
 ·rw [allB_false.2 h6]; rfl
theorem allB_all (xs : List α) (p : α → Bool) : allB (fun i => p (atI xs i)) xs.length = xs.all p := by
 cases e : xs.all p with
 | true =>
  rw [List.all_eq_true] at e
  rw [allB_true]
  intro i hi
  rw [atI_get hi]
  exact e _ (List.getElem_mem hi)
 | false =>
  rw [List.all_eq_false] at e
  obtain ⟨x, hx, hp⟩ := e
  obtain ⟨i, hi, rfl⟩ := List.getElem_of_mem hx
  exact allB_false.2 ⟨i, hi, by rw [atI_get hi]; simpa using hp⟩
theorem allB_eq [DecidableEq α] {xs ys : List α} (hl : xs.length = ys.length) : allB (fun i => decide (atI xs i = atI ys i)) xs.length = decide (xs = ys) := by
 by_cases e : xs = ys
 ·subst e
  rw [decide_eq_true rfl, allB_true]
  exact fun i _ => decide_eq_true rfl
 ·rw [decide_eq_false e]
  cases h : allB (fun i => decide (atI xs i = atI ys i)) xs.length with
  | false => rfl
  | true =>
   rw [allB_true] at h
   refine absurd (List.ext_getElem hl fun i h1 h2 => ?_) e
   have := of_decide_eq_true (h i h1)
   rwa [atI_get h1, atI_get h2] at this
theorem eq_len {xs ys : List α} [DecidableEq α] (h : ¬ xs.length = ys.length) : decide (xs = ys) = false := decide_eq_false fun e => h (by rw [e])
theorem allX {body : Tm β} {ρ : List D} (j : Nat) (xs : List α) (p : α → Bool) (r : List D)
  (h1 : ∀ i : Nat, i < xs.length → InB xs (i : Int) → decide ((i : Int) < xs.length) = true → p (atI xs i) = true → Er T body (ρ ++ [i64 i]) = some (.cont, [i64 ((i : Int) + 1)]))
  (h2 : ∀ i : Nat, i < xs.length → InB xs (i : Int) → decide ((i : Int) < xs.length) = true → p (atI xs i) = false → Er T body (ρ ++ [i64 i]) = some (.ret, r))
  (h3 : decide ((xs.length : Int) < xs.length) = false → Er T body (ρ ++ [i64 xs.length]) = some (.yield j, [])) :
  Er T (.loop [.c (i64 0)] body) ρ = forkT (xs.all p) (some (.yield j, [])) (some (.ret, r)) := by
 rw [scanX j xs.length (fun i => p (atI xs i)) r (fun i hi hp => h1 i hi (InB_nat.2 hi) (by simp; omega) hp) (fun i hi hp => h2 i hi (InB_nat.2 hi) (by simp; omega) hp) (h3 (by simp)), allB_all]
omit [Inhabited α] in
theorem scanF {body : Tm β} {ρ : List D} (j : Nat) (n : Nat) (p : Nat → Bool) (r : List D)
  (h1 : ∀ i : Nat, i < n → decide ((i : Int) < n) = true → Er T body (ρ ++ [i64 i]) = forkT (p i) (some (.cont, [i64 ((i : Int) + 1)])) (some (.ret, r)))
  (h3 : decide ((n : Int) < n) = false → Er T body (ρ ++ [i64 n]) = some (.yield j, [])) :
  Er T (.loop [.c (i64 0)] body) ρ = forkT (allB p n) (some (.yield j, [])) (some (.ret, r)) :=
 scanX j n p r (fun i hi hp => by rw [h1 i hi (by simp; omega), hp]; rfl) (fun i hi hp => by rw [h1 i hi (by simp; omega), hp]; rfl) (h3 (by simp))
theorem allF {body : Tm β} {ρ : List D} (j : Nat) (xs : List α) (p : α → Bool) (r : List D)
  (h1 : ∀ i : Nat, i < xs.length → InB xs (i : Int) → decide ((i : Int) < xs.length) = true → atI xs (i : Int) ∈ xs → Er T body (ρ ++ [i64 i]) = forkT (p (atI xs i)) (some (.cont, [i64 ((i : Int) + 1)])) (some (.ret, r)))
  (h3 : decide ((xs.length : Int) < xs.length) = false → Er T body (ρ ++ [i64 xs.length]) = some (.yield j, [])) :
  Er T (.loop [.c (i64 0)] body) ρ = forkT (xs.all p) (some (.yield j, [])) (some (.ret, r)) :=
 allX j xs p r (fun i hi hb hl hp => by rw [h1 i hi hb hl (by rw [atI_get hi]; exact List.getElem_mem hi), hp]; rfl) (fun i hi hb hl hp => by rw [h1 i hi hb hl (by rw [atI_get hi]; exact List.getElem_mem hi), hp]; rfl) h3
def ixF (p : α → Bool) (xs : List α) : Int := match xs.findIdx? p with
 | some i => i
 | none => -1
omit [Inhabited α] in
theorem ixF_any (p : α → Bool) (xs : List α) : decide (0 ≤ ixF p xs) = xs.any p := by
 unfold ixF
 cases h : xs.findIdx? p with
 | none =>
  rw [List.findIdx?_eq_none_iff] at h
  have : xs.any p = false := by
   rw [List.any_eq_false]
   exact fun x hx => by simp [h x hx]
  rw [this]; rfl
 | some i =>
  have : xs.any p = true := by
   rw [List.findIdx?_eq_some_iff_getElem] at h
   obtain ⟨hi, hp, -⟩ := h
   rw [List.any_eq_true]
   exact ⟨_, List.getElem_mem hi, hp⟩
  rw [this]; simp
theorem findX {body : Tm β} {ρ : List D} (j : Nat) (xs : List α) (p : α → Bool) (rf : Int → List D)
  (h1 : ∀ i : Nat, i < xs.length → InB xs (i : Int) → decide ((i : Int) < xs.length) = true → p (atI xs i) = true → Er T body (ρ ++ [i64 i]) = some (.ret, rf i))
  (h2 : ∀ i : Nat, i < xs.length → InB xs (i : Int) → decide ((i : Int) < xs.length) = true → p (atI xs i) = false → Er T body (ρ ++ [i64 i]) = some (.cont, [i64 ((i : Int) + 1)]))
  (h3 : decide ((xs.length : Int) < xs.length) = false → Er T body (ρ ++ [i64 xs.length]) = some (.yield j, [])) :
  Er T (.loop [.c (i64 0)] body) ρ = forkT (xs.any p) (some (.ret, rf (ixF p xs))) (some (.yield j, [])) := by
 have hall : ∀ (i : Nat) (ys : List α), foldX (fun (i : Nat) x (_ : Unit) => if p x then Rd1.out (.ret, rf i) else .go ()) i ys () = match ys.findIdx? p with | some k => .out (.ret, rf ((i + k : Nat) : Int)) | none => .go () := by
  intro i ys
  induction ys generalizing i with
  | nil => rfl
  | cons y ys ih =>
   rw [foldX, List.findIdx?_cons]
   cases p y with
   | true => simp
   | false =>
    simp only [Bool.false_eq_true, if_false]
    rw [ih (i + 1)]
    cases ys.findIdx? p with
    | none => rfl
    | some k => simp only [Option.map_some]; congr 4; omega
 obtain ⟨q, h4, h5⟩ := loopX (T := T) (body := body) (ρ := ρ) (init := [.c (i64 0)]) xs (fun i (_ : Unit) => [i64 i]) () (fun i x _ => if p x then .out (.ret, rf i) else .go ()) (fun _ _ => True) (fun _ => (.yield j, [])) rfl trivial
  (fun i _ hi _ => by
   cases e : p (atI xs i) with
   | true => exact ⟨by rw [h1 i hi (InB_nat.2 hi) (by simp; omega) e]; rfl, fun _ _ => trivial, fun r h => by simp at h; rw [← h]; simp⟩
   | false => exact ⟨by rw [h2 i hi (InB_nat.2 hi) (by simp; omega) e]; rfl, fun _ _ => trivial, fun r h => by simp at h⟩)
  (fun _ _ => ⟨h3 (by simp), by simp⟩)
 rw [h4, ← ixF_any]
 rw [hall] at h5
 unfold ixF
 cases e : xs.findIdx? p with
 | none =>
  rw [e] at h5
  rcases h5 with ⟨s, -, -, rfl⟩ | h5
  ·rfl
  ·simp at h5
 | some k =>
  rw [e] at h5
  rcases h5 with ⟨s, h5, -⟩ | h5
  ·simp at h5
  ·simp only [Nat.zero_add, Rd1.out.injEq] at h5
   rw [← h5]
   simp [forkT]
theorem at_mem {xs : List α} {i : Nat} (h : i < xs.length) : atI xs (i : Int) ∈ xs := by rw [atI_get h]; exact List.getElem_mem h
omit [Inhabited α] in
theorem whileE {γ : Type} {body : Tm β} {ρ : List D} {init : List Atom} (r : Kind × List D) (m : γ → Nat) (inv : γ → Prop) (vs : γ → List D) (c0 : γ) (h0 : init.map (·.val ρ) = vs c0) (hi : inv c0) (hr : r.1 ≠ .cont)
  (h : ∀ c, inv c → (∃ c', Er T body (ρ ++ vs c) = some (.cont, vs c') ∧ inv c' ∧ m c' < m c) ∨ Er T body (ρ ++ vs c) = some r) : Er T (.loop init body) ρ = some r := by
 obtain ⟨q, h1, rfl⟩ := loopR (T := T) (body := body) (ρ := ρ) m inv vs (fun q => q = r)
  (fun c hc => by
   rcases h c hc with ⟨c', h2, h3, h4⟩ | h2
   ·exact ⟨_, h2, .inl ⟨rfl, c', h3, h4, rfl⟩⟩
   ·exact ⟨_, h2, .inr ⟨hr, rfl⟩⟩) (m c0) c0 (Nat.le_refl _) hi init h0
 exact h1
end
theorem SQ : (∀ {a b : Int}, -9223372036854775808 ≤ a + b → a + b ≤ 9223372036854775807 → (Prim.bin .add).run [i64 a, i64 b] = some [i64 (a + b)]) ∧
  (∀ {a b : Int}, -9223372036854775808 ≤ a - b → a - b ≤ 9223372036854775807 → (Prim.bin .sub).run [i64 a, i64 b] = some [i64 (a - b)]) ∧
  (∀ {a b : Int}, 0 ≤ a → a ≤ 9223372036854775807 → 0 < b → (Prim.bin .quo).run [i64 a, i64 b] = some [i64 (a / b)]) ∧ (∀ {a b : Int}, 0 ≤ a → 0 < b → (Prim.bin .rem).run [i64 a, i64 b] = some [i64 (a % b)]) :=
 ⟨run_add, run_sub, run_quoI, run_remI⟩
end Go.Proofs.Ytgbjmmkjlhjbbaa.Rf

namespace Go.Proofs.Ytgbjmmkjlhjbbaa.Rf
set_option linter.unusedVariables false
set_option linter.unusedSimpArgs false
def szL {α : Type} (f : α → Nat) (xs : List α) : Nat := xs.length + (xs.map f).sum
def szR (l : Int) (n : Nat) : Int := if (n : Int) ≤ l then l - n else -1
theorem szL_cons {α : Type} {f : α → Nat} {x : α} {xs : List α} : szL f (x :: xs) = 1 + f x + szL f xs := by simp [szL]; omega
theorem szL_mem {α : Type} {f : α → Nat} : ∀ {xs : List α} {x : α}, x ∈ xs → 1 + f x ≤ szL f xs
 | [], x, h => by cases h
 | y :: ys, x, h => by
  rw [szL_cons]
  rcases List.mem_cons.1 h with rfl | h
  ·omega
  ·have := szL_mem (f := f) h
   omega
theorem szL_zero {α : Type} {xs : List α} : szL (fun _ => 0) xs = xs.length := by
 have : ∀ xs : List α, (xs.map fun _ => 0).sum = 0 := fun xs => by
  induction xs with
  | nil => rfl
  | cons x xs ih => simp only [List.map_cons, List.sum_cons, ih]
 rw [szL, this]; rfl
theorem szL_len {α : Type} {f : α → Nat} {xs : List α} : xs.length ≤ szL f xs := by unfold szL; omega
section
variable {T : Nat → Ent} {β : Type} {α : Type} [Inhabited α]
theorem szLoop {body : Tm β} {ρ : List D} {a : Atom} (xs : List α) (f : α → Nat) (l : Int) (h0 : a.val ρ = i64 l) (hl : 0 ≤ l) (hl' : l ≤ 1048576)
  (h1 : ∀ (i : Nat) (m : Int), i < xs.length → InB xs (i : Int) → decide ((i : Int) < xs.length) = true → 0 ≤ m → m ≤ 1048576 → (f (atI xs i) : Int) ≤ m → szR m (f (atI xs i)) = m - f (atI xs i) → decide (m - (f (atI xs i) : Int) < 0) = false → Er T body (ρ ++ [i64 m, i64 i]) = some (.cont, [i64 (m - f (atI xs i)), i64 ((i : Int) + 1)]))
  (h2 : ∀ (i : Nat) (m : Int), i < xs.length → InB xs (i : Int) → decide ((i : Int) < xs.length) = true → 0 ≤ m → m ≤ 1048576 → m < f (atI xs i) → szR m (f (atI xs i)) = -1 → decide ((-1 : Int) < 0) = true → Er T body (ρ ++ [i64 m, i64 i]) = some (.ret, [i64 (-1)]))
  (h3 : ∀ m : Int, decide ((xs.length : Int) < xs.length) = false → Er T body (ρ ++ [i64 m, i64 xs.length]) = some (.yield 1, [i64 m])) :
  Er T (.loop [a, .c (i64 0)] body) ρ = forkT (decide (((xs.map f).sum : Int) ≤ l)) (some (.yield 1, [i64 (l - (xs.map f).sum)])) (some (.ret, [i64 (-1)])) := by
 have hall : ∀ (ys : List α) (i : Nat) (m : Int), 0 ≤ m → foldX (fun (_ : Nat) x (m : Int) => if (f x : Int) ≤ m then Rd1.go (m - f x) else .out (.ret, [i64 (-1)])) i ys m = if ((ys.map f).sum : Int) ≤ m then .go (m - (ys.map f).sum) else .out (.ret, [i64 (-1)]) := by
  intro ys
  induction ys with
  | nil =>
   intro i m hm
   simp only [foldX, List.map_nil, List.sum_nil]
   rw [if_pos (by simpa using hm)]
   simp
  | cons y ys ih =>
   intro i m hm
   simp only [foldX, List.map_cons, List.sum_cons]
   by_cases h : (f y : Int) ≤ m
   ·rw [if_pos h]
    simp only
    rw [ih (i + 1) _ (by omega)]
    by_cases h4 : ((ys.map f).sum : Int) ≤ m - f y
    ·rw [if_pos h4, if_pos (by omega)]
     congr 1
     omega
    ·rw [if_neg h4, if_neg (by omega)]
   ·rw [if_neg h]
    simp only
    rw [if_neg (by omega)]
 obtain ⟨q, h4, h5⟩ := loopX (T := T) (body := body) (ρ := ρ) (init := [a, .c (i64 0)]) xs (fun i (m : Int) => [i64 m, i64 i]) l (fun _ x m => if (f x : Int) ≤ m then .go (m - f x) else .out (.ret, [i64 (-1)])) (fun _ m => 0 ≤ m ∧ m ≤ 1048576) (fun m => (.yield 1, [i64 m])) (by show [a.val ρ, _] = _; rw [h0]; rfl) ⟨hl, hl'⟩
  (fun i m hi hm => by
   by_cases e : (f (atI xs i) : Int) ≤ m
   ·rw [if_pos e]
    refine ⟨h1 i m hi (InB_nat.2 hi) (by simp; omega) hm.1 hm.2 e (by rw [szR, if_pos e]) (by simp; omega), fun s' h => ?_, fun r h => by cases h⟩
    simp only [Rd1.go.injEq] at h
    omega
   ·rw [if_neg e]
    refine ⟨h2 i m hi (InB_nat.2 hi) (by simp; omega) hm.1 hm.2 (by omega) (by rw [szR, if_neg e]) rfl, fun s' h => by simp at h, fun r h => ?_⟩
    simp only [Rd1.out.injEq] at h
    rw [← h]; simp)
  (fun m hm => ⟨h3 m (by simp), by simp⟩)
 rw [h4]
 rw [hall xs 0 l hl] at h5
 by_cases h : ((xs.map f).sum : Int) ≤ l
 ·rw [if_pos h] at h5
  rw [decide_eq_true h]
  rcases h5 with ⟨s, h5, -, rfl⟩ | h5
  ·simp only [Rd1.go.injEq] at h5
   rw [← h5]; rfl
  ·cases h5
 ·rw [if_neg h] at h5
  rw [decide_eq_false h]
  rcases h5 with ⟨s, h5, -⟩ | h5
  ·cases h5
  ·simp only [Rd1.out.injEq] at h5
   rw [← h5]; rfl
theorem toLoop {body : Tm β} {ρ : List D} {a : Atom} [Enc α] (xs : List α) (h0 : a.val ρ = rL (List.replicate xs.length (default : α)))
  (h1 : ∀ (i : Nat) (ys : List α), i < xs.length → InB xs (i : Int) → InB ys (i : Int) → decide ((i : Int) < xs.length) = true → Er T body (ρ ++ [rL ys, i64 i]) = some (.cont, [rL (setI ys i (atI xs i)), i64 ((i : Int) + 1)]))
  (h2 : ∀ ys : List α, decide ((xs.length : Int) < xs.length) = false → Er T body (ρ ++ [rL ys, i64 xs.length]) = some (.yield 1, [rL ys])) :
  Er T (.loop [a, .c (i64 0)] body) ρ = some (.yield 1, [rL xs]) := by
 have key := loopR (T := T) (body := body) (ρ := ρ) (fun i => xs.length - i) (fun i => i ≤ xs.length) (fun i => [rL (upto default xs i), i64 (i : Nat)]) (fun q => q = (.yield 1, [rL xs]))
  (fun i hi => by
   rcases Nat.lt_or_ge i xs.length with hlt | hge
   ·refine ⟨_, h1 i (upto default xs i) hlt (InB_nat.2 hlt) (InB_nat.2 (by rw [upto_len _ _ hi]; exact hlt)) (by simp; omega), .inl ⟨rfl, i + 1, by omega, by omega, ?_⟩⟩
    have : setI (upto default xs i) (i : Int) (atI xs i) = upto default xs (i + 1) := by
     rw [setI]
     exact upto_set default xs (by rw [atI_get hlt]; exact List.getElem?_eq_getElem hlt)
    rw [this]; simp
   ·obtain rfl : i = xs.length := by omega
    refine ⟨_, h2 _ (by simp), .inr ⟨by simp, ?_⟩⟩
    rw [upto_all])
  xs.length 0 (by omega) (by omega) [a, .c (i64 0)] (by show [a.val ρ, _] = _; rw [h0, upto_zero]; rfl)
 obtain ⟨q, h4, rfl⟩ := key
 exact h4
def ctL {α : Type} (c : α → Nat) (xs : List α) : Nat := (xs.map c).sum
end
theorem ctL_le {α : Type} {c f : α → Nat} {m : Nat} (hm : 1 ≤ m) (h : ∀ x, c x ≤ m + m * f x) : ∀ xs : List α, ctL c xs ≤ m * szL f xs
 | [] => by simp [ctL]
 | x :: xs => by
  have ih := ctL_le hm h xs
  have h1 := h x
  rw [szL_cons]
  simp only [ctL, List.map_cons, List.sum_cons] at ih ⊢
  rw [Nat.mul_add, Nat.mul_add]
  omega
theorem lt0 {k : Int} (h : 0 ≤ k) : decide (k < 0) = false := by simp; omega
theorem ltm1 : decide ((-1 : Int) < 0) = true := rfl
theorem WT_rL {α : Type} [Enc α] {tys : List Ty} {bytes : Nat} {P : α → Prop} {d : D} (hs : tys.length = Enc.sz α) (hd : ∀ ds, WTs tys ds → ∃ a : α, ds = Enc.enc a ∧ P a) (h : WT (.sl bytes tys) d) : ∃ xs : List α, d = rL xs ∧ xs.length * bytes ≤ reachBytes ∧ ∀ x ∈ xs, P x := by
 simp only [WT] at h
 obtain ⟨rs, rfl, h1, h2⟩ := h
 have key : ∀ rs : List (List D), (∀ r ∈ rs, WTs tys r) → ∃ xs : List α, rs = xs.map Enc.enc ∧ ∀ x ∈ xs, P x := by
  intro rs
  induction rs with
  | nil => exact fun _ => ⟨[], rfl, by simp⟩
  | cons r rs ih =>
   intro h
   obtain ⟨xs, hx, hp⟩ := ih fun r hr => h r (List.mem_cons_of_mem _ hr)
   obtain ⟨a, ha, hpa⟩ := hd r (h r List.mem_cons_self)
   exact ⟨a :: xs, by rw [hx, ha]; rfl, by simpa using ⟨hpa, hp⟩⟩
 obtain ⟨xs, rfl, hp⟩ := key rs h2
 exact ⟨xs, by rw [hs]; rfl, by simpa using h1, hp⟩
theorem WT_int {d : D} (h : WT (.int .i64) d) : ∃ n : Int, d = i64 n ∧ -9223372036854775808 ≤ n ∧ n ≤ 9223372036854775807 := by
 obtain ⟨n, rfl, h1, h2⟩ := h
 exact ⟨n, rfl, h1, h2⟩
theorem reach_len {n b : Nat} (h : n * b ≤ reachBytes) (hb : 0 < b) : n ≤ reachBytes := Nat.le_trans (Nat.le_mul_of_pos_right n hb) h
end Go.Proofs.Ytgbjmmkjlhjbbaa.Rf

namespace Go.Proofs.Ytgbjmmkjlhjbbaa.Rf
set_option linter.unusedVariables false
set_option linter.unusedSimpArgs false
theorem dec_int (ds : List D) (h : WTs [.int .i64] ds) : ∃ x : Int, ds = Enc.enc x ∧ True := by
 simp only [WTs] at h
 obtain ⟨d, r, rfl, w, rfl⟩ := h
 obtain ⟨x, rfl, -, -⟩ := WT_int w
 exact ⟨x, rfl, trivial⟩
def ct_TCmd (x : TCmd) : Nat := 1 + 1 + 1 + 1 + 1
theorem ctu_TCmd (x : TCmd) : ct_TCmd x = 5 := by
 unfold ct_TCmd
 try omega
def sz_TAttr (x : TAttr) : Nat := szL (fun _ => 0) x.deps
def wf_TAttr (x : TAttr) : Prop := (x.deps.length ≤ 140737488351232)
def ct_TAttr (x : TAttr) : Nat := 1 + ctL (fun _ => 1) x.deps
theorem ctu_TAttr (x : TAttr) : ct_TAttr x = 1 + ctL (fun _ => 1) x.deps := by
 unfold ct_TAttr
 try omega
theorem szu_TAttr (x : TAttr) : sz_TAttr x = x.deps.length := by
 unfold sz_TAttr
 simp only [szL_zero]
 try omega
def sz_TRow (x : TRow) : Nat := sz_TAttr x.attr
def wf_TRow (x : TRow) : Prop := (wf_TAttr x.attr)
def ct_TRow (x : TRow) : Nat := 1 + 1 + 1 + ct_TCmd x.cmd + ct_TAttr x.attr
theorem ctu_TRow (x : TRow) : ct_TRow x = 9 + ctL (fun _ => 1) x.attr.deps := by
 unfold ct_TRow
 simp only [ctu_TCmd]
 simp only [ctu_TAttr]
 try omega
theorem szu_TRow (x : TRow) : sz_TRow x = x.attr.deps.length := by
 unfold sz_TRow
 simp only [szL_zero, szu_TAttr]
 try omega
theorem ctb_TRow (x : TRow) : ct_TRow x ≤ 16 + 16 * sz_TRow x := by
 have h0 := ctL_le (c := (fun _ => 1)) (f := (fun _ => 0)) (m := 16) (by omega) (fun _ => by simp) x.attr.deps
 rw [ctu_TRow, szu_TRow]
 try simp only [szL_zero] at *
 omega
theorem dec_TRow (ds : List D) (h : WTs [.int .i64, .int .i64, .int .i64, .int .i64, .int .i64, .int .i64, .int .i64, .int .i64, .int .i64, .sl 8 [.int .i64]] ds) : ∃ x : TRow, ds = Enc.enc x ∧ wf_TRow x := by
 simp only [WTs] at h
 obtain ⟨d0, r0, rfl, w0, d1, r1, rfl, w1, d2, r2, rfl, w2, d3, r3, rfl, w3, d4, r4, rfl, w4, d5, r5, rfl, w5, d6, r6, rfl, w6, d7, r7, rfl, w7, d8, r8, rfl, w8, d9, r9, rfl, w9, rfl⟩ := h
 obtain ⟨x0, rfl, -, -⟩ := WT_int w0
 obtain ⟨x1, rfl, -, -⟩ := WT_int w1
 obtain ⟨x2, rfl, -, -⟩ := WT_int w2
 obtain ⟨x3, rfl, -, -⟩ := WT_int w3
 obtain ⟨x4, rfl, -, -⟩ := WT_int w4
 obtain ⟨x5, rfl, -, -⟩ := WT_int w5
 obtain ⟨x6, rfl, -, -⟩ := WT_int w6
 obtain ⟨x7, rfl, -, -⟩ := WT_int w7
 obtain ⟨x8, rfl, -, -⟩ := WT_int w8
 obtain ⟨x9, rfl, l9, p9⟩ := WT_rL (α := Int) (P := fun _ => True) rfl dec_int w9
 exact ⟨⟨x0, x1, x2, ⟨x3, x4, x5, x6, x7⟩, ⟨x8, x9⟩⟩, rfl, reach_len l9 (by decide)⟩
theorem dec_LTRow (ds : List D) (h : WTs [.sl 96 [.int .i64, .int .i64, .int .i64, .int .i64, .int .i64, .int .i64, .int .i64, .int .i64, .int .i64, .sl 8 [.int .i64]]] ds) : ∃ x : (List TRow), ds = Enc.enc x ∧ x.length ≤ 140737488351232 ∧ ∀ y0 ∈ x, wf_TRow y0 := by
 simp only [WTs] at h
 obtain ⟨d, r, rfl, w, rfl⟩ := h
 obtain ⟨x, rfl, l, p⟩ := WT_rL (α := TRow) (P := fun y => wf_TRow y) rfl dec_TRow w
 exact ⟨x, rfl, ⟨reach_len l (by decide), p⟩⟩
def sz_TTable (x : TTable) : Nat := szL (szL sz_TRow) x.rows
def wf_TTable (x : TTable) : Prop := (x.rows.length ≤ 140737488351232 ∧ ∀ y0 ∈ x.rows, y0.length ≤ 140737488351232 ∧ ∀ y1 ∈ y0, wf_TRow y1)
theorem szu_TTable (x : TTable) : sz_TTable x = szL (szL sz_TRow) x.rows := by
 unfold sz_TTable
 simp only [szL_zero]
 try omega
theorem dec_TTable (ds : List D) (h : WTs [.int .i64, .sl 24 [.sl 96 [.int .i64, .int .i64, .int .i64, .int .i64, .int .i64, .int .i64, .int .i64, .int .i64, .int .i64, .sl 8 [.int .i64]]]] ds) : ∃ x : TTable, ds = Enc.enc x ∧ wf_TTable x := by
 simp only [WTs] at h
 obtain ⟨d0, r0, rfl, w0, d1, r1, rfl, w1, rfl⟩ := h
 obtain ⟨x0, rfl, -, -⟩ := WT_int w0
 obtain ⟨x1, rfl, l1, p1⟩ := WT_rL (α := (List TRow)) (P := fun y => y.length ≤ 140737488351232 ∧ ∀ y0 ∈ y, wf_TRow y0) rfl (dec_LTRow) w1
 exact ⟨⟨x0, x1⟩, rfl, ⟨reach_len l1 (by decide), p1⟩⟩
end Go.Proofs.Ytgbjmmkjlhjbbaa.Rf

namespace Go.Proofs.Ytgbjmmkjlhjbbaa.Rf
set_option linter.unusedVariables false
set_option linter.unusedSimpArgs false
theorem SZ : (∀ b : Bool, (b && true) = b) ∧ (∀ b : Bool, (true && b) = b) ∧ (∀ b : Bool, (b && false) = false) ∧ (∀ b : Bool, (false && b) = false) ∧
  (∀ b : Bool, (b || true) = true) ∧ (∀ b : Bool, (true || b) = true) ∧ (∀ b : Bool, (b || false) = b) ∧ (∀ b : Bool, (false || b) = b) ∧ ((!true) = false) ∧ ((!false) = true) :=
 ⟨Bool.and_true, Bool.true_and, Bool.and_false, Bool.false_and, Bool.or_true, Bool.true_or, Bool.or_false, Bool.false_or, rfl, rfl⟩
theorem bool_fin {x y : Bool} (h : x = true ↔ y = true) : some [D.bool x] = some [D.bool y] := by rw [Bool.eq_iff_iff.2 h]
def isGrp (n : Int) : Bool := n == 3 || n == 5
theorem isGrp_rng {n : Int} (h : isGrp n = true) : n = 3 ∨ n = 5 := by simpa [isGrp] using h
def inst (n rep no : Int) : Bool := inR rep 0 (n - 1) && inR no 1 6
def cmdOk (c : TCmd) : Bool :=
 if c.kind == 0 then decide (c = ⟨0, 0, 0, 0, 0⟩) else if c.kind == 1 then inR c.id 1 999 && inR c.src 0 3 && inR c.dst 0 3 && !(c.src == c.dst) && inR c.amt 1 1000
 else c.kind == 2 && inR c.id 1 999 && inR c.src 0 3 && c.dst == 0 && c.amt == 0
def cmdCode (c : TCmd) : Int :=
 if !inR c.src 0 3 || (c.kind == 1 && !inR c.dst 0 3) then 4 else if c.kind == 1 && c.src == c.dst then 5 else if !inR c.id 1 999 || (c.kind == 1 && !inR c.amt 1 1000) then 6 else 0
def attrOk (n : Int) (a : TAttr) : Bool := inR a.seq 0 999 && (a.deps.length : Int) == n && a.deps.all fun x => inR x 0 6
def none0 (n : Int) : TAttr := ⟨0, List.replicate n.toNat 0⟩
def rowOk (n : Int) (r : TRow) : Bool :=
 inR r.ballot 0 9999 && inR r.vote 0 r.ballot && inR r.state 0 3 && (if r.state == 0 then r.vote == 0 && decide (r.cmd = ⟨0, 0, 0, 0, 0⟩) && decide (r.attr = none0 n) else cmdOk r.cmd && attrOk n r.attr)
theorem none0_ok {n : Int} (h : isGrp n = true) : attrOk n (none0 n) = true := by
 rcases isGrp_rng h with rfl | rfl <;> rfl
theorem cmdZ_ok {c : TCmd} (h : decide (c = ⟨0, 0, 0, 0, 0⟩) = true) : cmdOk c = true := by
 rw [of_decide_eq_true h]; rfl
theorem cmdCode0 {c : TCmd} : (cmdCode c == 0) = (inR c.src 0 3 && inR c.id 1 999 && (!(c.kind == 1) || (inR c.dst 0 3 && !(c.src == c.dst) && inR c.amt 1 1000))) := by
 unfold cmdCode
 cases inR c.src 0 3 <;> cases inR c.id 1 999 <;> cases c.kind == 1 <;> cases inR c.dst 0 3 <;> cases c.src == c.dst <;> cases inR c.amt 1 1000 <;> rfl
def smRows (xs : List TRow) : Prop := xs.length ≤ 10000000000 ∧ ∀ r ∈ xs, r.attr.deps.length ≤ 10000000000
def smTab (rows : List (List TRow)) : Prop := rows.length ≤ 10000000000 ∧ ∀ l ∈ rows, smRows l
theorem sz_row (r : TRow) : sz_TRow r = r.attr.deps.length := szL_zero
theorem smRows_of {xs : List TRow} (h : szL sz_TRow xs ≤ 1048576) : smRows xs := by
 refine ⟨Nat.le_trans (szL_len (f := sz_TRow)) (by omega), fun r hr => ?_⟩
 have h1 := szL_mem (f := sz_TRow) hr
 rw [sz_row] at h1
 omega
theorem smTab_of {rows : List (List TRow)} (h : szL (szL sz_TRow) rows ≤ 1048576) : smTab rows := by
 refine ⟨Nat.le_trans (szL_len (f := szL sz_TRow)) (by omega), fun l hl => smRows_of ?_⟩
 have h1 := szL_mem (f := szL sz_TRow) hl
 omega
def tabOk (t : TTable) : Bool := isGrp t.n && (t.rows.length : Int) == t.n && t.rows.all fun l => l.all (fun r => rowOk t.n r) && decide ((l.length : Int) ≤ 6)
def row0 (n : Int) : TRow := ⟨0, 0, 0, ⟨0, 0, 0, 0, 0⟩, none0 n⟩
def trow (t : TTable) (rep no : Int) : TRow := if no ≤ (atI t.rows rep).length then atI (atI t.rows rep) (no - 1) else row0 t.n
theorem S_nil : (rL ([] : List Int) = .rows 1 []) ∧ (rL ([] : List (List Int)) = .rows 1 []) ∧ (rL ([] : List TRow) = .rows 10 []) ∧ (rL ([] : List (List TRow)) = .rows 1 []) ∧ (rL ([] : List TLead) = .rows 16 []) ∧ (rL ([] : List TMsg) = .rows 15 []) ∧
  (rL ([] : List TAsk) = .rows 7 []) ∧ (rL ([] : List TTold) = .rows 2 []) := ⟨rfl, rfl, rfl, rfl, rfl, rfl, rfl, rfl⟩
theorem inst_rng {n rep no : Int} (h : inst n rep no = true) : 0 ≤ rep ∧ rep ≤ n - 1 ∧ 1 ≤ no ∧ no ≤ 6 := by
 simp only [inst, inR, Bool.and_eq_true, decide_eq_true_eq] at h
 omega
theorem tabOk_grp {t : TTable} (h : tabOk t = true) : isGrp t.n = true := by
 simp only [tabOk, Bool.and_eq_true] at h; exact h.1.1
theorem tabOk_len {t : TTable} (h : tabOk t = true) : (t.rows.length : Int) = t.n := by
 simp only [tabOk, Bool.and_eq_true, beq_iff_eq] at h; exact h.1.2
theorem tabOk_in {t : TTable} {rep no : Int} (h : tabOk t = true) (hi : inst t.n rep no = true) : InB t.rows rep := by
 have := tabOk_len h
 have := inst_rng hi
 unfold InB; omega
theorem tabOk_rows {t : TTable} (h : tabOk t = true) {l : List TRow} (hl : l ∈ t.rows) : l.length ≤ 6 ∧ ∀ r ∈ l, rowOk t.n r = true := by
 simp only [tabOk, Bool.and_eq_true, List.all_eq_true, decide_eq_true_eq] at h
 have := h.2 l hl
 exact ⟨by omega, this.1⟩
theorem rowOk_cmd {n : Int} {r : TRow} (h : rowOk n r = true) : cmdOk r.cmd = true := by
 simp only [rowOk, Bool.and_eq_true] at h
 have h3 := h.2
 split at h3
 ·simp only [Bool.and_eq_true] at h3
  exact cmdZ_ok h3.1.2
 ·simp only [Bool.and_eq_true] at h3
  exact h3.1
theorem at_memI {α : Type} [Inhabited α] {xs : List α} {k : Int} (h : InB xs k) : atI xs k ∈ xs := by
 have h2 := h.lt
 have e : ((k.toNat : Nat) : Int) = k := by unfold InB at h; omega
 rw [← e]
 exact at_mem h2
theorem trow_ok {t : TTable} {rep no : Int} (h : tabOk t = true) (hi : inst t.n rep no = true) : rowOk t.n (trow t rep no) = true := by
 unfold trow
 have hb := tabOk_in h hi
 have hr := inst_rng hi
 split
 ·exact (tabOk_rows h (at_memI hb)).2 _ (at_memI (by unfold InB; omega))
 ·rcases isGrp_rng (tabOk_grp h) with e | e <;> rw [e] <;> rfl
def ext (n : Int) (l : List TRow) (no : Int) : List TRow := l ++ List.replicate (no - l.length).toNat (row0 n)
def nb (b me : Int) : Int := if b < 8 + me then 8 + me else b + 1 + (me - b - 1) % 8
end Go.Proofs.Ytgbjmmkjlhjbbaa.Rf

namespace Go.Proofs.Ytgbjmmkjlhjbbaa.Rf
set_option linter.unusedVariables false
set_option linter.unusedSimpArgs false
theorem cmdOk_acc {c : TCmd} (h : cmdOk c = true) : (c.kind = 0 ∨ c.kind = 1 ∨ c.kind = 2) ∧ (c.kind = 1 → (0 ≤ c.src ∧ c.src ≤ 3) ∧ (0 ≤ c.dst ∧ c.dst ≤ 3) ∧ c.src ≠ c.dst ∧ 1 ≤ c.amt ∧ c.amt ≤ 1000) ∧ (c.kind = 2 → 0 ≤ c.src ∧ c.src ≤ 3) := by
 unfold cmdOk at h
 split at h
 ·rename_i h0
  have : c.kind = 0 := by simpa using h0
  exact ⟨.inl this, by omega, by omega⟩
 ·split at h
  ·rename_i h1
   have : c.kind = 1 := by simpa using h1
   simp only [Bool.and_eq_true, inR, decide_eq_true_eq, Bool.not_eq_true', beq_eq_false_iff_ne] at h
   exact ⟨by omega, fun _ => ⟨h.1.1.1.2, h.1.1.2, h.1.2, h.2⟩, by omega⟩
  ·simp only [Bool.and_eq_true, inR, decide_eq_true_eq, beq_iff_eq] at h
   exact ⟨by omega, by omega, fun _ => h.1.1.2⟩
end Go.Proofs.Ytgbjmmkjlhjbbaa.Rf

namespace Go.Proofs.Ytgbjmmkjlhjbbaa.Rf
set_option linter.unusedVariables false
set_option linter.unusedSimpArgs false
def hasM (xs : List Int) (n : Int) : Bool := xs.any fun x => x == n
def putK (xs : List Int) (n : Int) : Nat := (xs.takeWhile fun x => decide (x < n)).length
def putM (xs : List Int) (n : Int) : List Int := if decide ((putK xs n : Int) < xs.length) && (atI xs (putK xs n : Nat) == n) then xs else xs.take (putK xs n) ++ [n] ++ xs.drop (putK xs n)
theorem putK_le (xs : List Int) (n : Int) : putK xs n ≤ xs.length := (List.takeWhile_sublist _).length_le
theorem putK_lt : ∀ {xs : List Int} {n : Int} {k : Nat}, k < putK xs n → atI xs (k : Int) < n
 | [], n, k, h => by simp [putK] at h
 | x :: xs, n, k, h => by
  unfold putK at h
  rw [List.takeWhile_cons] at h
  by_cases hx : x < n
  ·rw [if_pos (by simpa using hx)] at h
   cases k with
   | zero => exact hx
   | succ k => exact putK_lt (xs := xs) (k := k) (by simpa [putK] using h)
  ·rw [if_neg (by simpa using hx)] at h
   simp at h
theorem putK_ge : ∀ {xs : List Int} {n : Int}, putK xs n < xs.length → ¬ atI xs (putK xs n : Nat) < n
 | [], n, h => by simp at h
 | x :: xs, n, h => by
  unfold putK at h ⊢
  rw [List.takeWhile_cons] at h ⊢
  by_cases hx : x < n
  ·rw [if_pos (by simpa using hx)] at h ⊢
   exact putK_ge (xs := xs) (n := n) (by simpa [putK] using h)
  ·rw [if_neg (by simpa using hx)]
   exact hx
def touchM (c : TCmd) : List Int := if c.kind == 1 then [min c.src c.dst, max c.src c.dst] else if c.kind == 2 then [c.src] else []
theorem touchM_len (c : TCmd) : (touchM c).length ≤ 2 := by
 unfold touchM
 split
 ·simp
 ·split <;> simp
def interM (a b : TCmd) : Bool := (touchM a).any fun k => hasM (touchM b) k
theorem interM_comm (a b : TCmd) : interM a b = interM b a := by
 unfold interM hasM
 rw [Bool.eq_iff_iff]
 simp only [List.any_eq_true, beq_iff_eq]
 constructor
 ·rintro ⟨x, hx, y, hy, rfl⟩; exact ⟨y, hy, y, hx, rfl⟩
 ·rintro ⟨x, hx, y, hy, rfl⟩; exact ⟨y, hy, y, hx, rfl⟩
theorem put2 {a b : Int} (h : a ≠ b) : putM [a] b = [min a b, max a b] := by
 by_cases hx : a < b
 ·have e : putK [a] b = 1 := by simp [putK, hx]
  unfold putM
  rw [e]
  simp [Int.min_eq_left (Int.le_of_lt hx), Int.max_eq_right (Int.le_of_lt hx)]
 ·have e : putK [a] b = 0 := by simp [putK, hx]
  unfold putM
  rw [e]
  simp [atI, h, Int.min_eq_right (by omega : b ≤ a), Int.max_eq_left (by omega : b ≤ a)]
end Go.Proofs.Ytgbjmmkjlhjbbaa.Rf

namespace Go.Proofs.Ytgbjmmkjlhjbbaa.Rf
set_option linter.unusedVariables false
set_option linter.unusedSimpArgs false
end Go.Proofs.Ytgbjmmkjlhjbbaa.Rf

namespace Go.Proofs.Ytgbjmmkjlhjbbaa.Rf
set_option linter.unusedVariables false
set_option linter.unusedSimpArgs false
def findM (l : List (List Int)) (x : List Int) : Int := ixF (fun y => decide (x = y)) l
def instAt (n : Int) (l : List (List Int)) (i : Nat) : Bool := ((atI l (i : Int)).length : Int) == 2 && inst n (atI (atI l (i : Int)) 0) (atI (atI l (i : Int)) 1) && !(l.take i).any fun y => decide (atI l (i : Int) = y)
def instsM (n : Int) (l : List (List Int)) : Bool := allB (instAt n l) l.length
def ordB (t : TTable) (b : List (List Int)) (x y : List Int) : Bool := interM (trow t (atI x 0) (atI x 1)).cmd (trow t (atI y 0) (atI y 1)).cmd && decide (0 ≤ findM b x) && decide (0 ≤ findM b y) && decide (findM b x < findM b y)
def ordM (t : TTable) (a b : List (List Int)) : Bool := allB (fun i => (a.take i).all fun y => !ordB t b (atI a (i : Int)) y) a.length
def ordR (a b : List (List Int)) (t : TTable) : Bool × Bool := if tabOk t && instsM t.n a && instsM t.n b then (ordM t a b, true) else (false, false)
theorem instsM_spec {n : Int} {l : List (List Int)} (h : instsM n l = true) {x : List Int} (hx : x ∈ l) : x.length = 2 ∧ inst n (atI x 0) (atI x 1) = true := by
 obtain ⟨i, hi, rfl⟩ := List.getElem_of_mem hx
 have := allB_true.1 h i hi
 unfold instAt at this
 rw [atI_get hi] at this
 simp only [Bool.and_eq_true, beq_iff_eq] at this
 exact ⟨by omega, this.1.2⟩
end Go.Proofs.Ytgbjmmkjlhjbbaa.Rf
