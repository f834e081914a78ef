/- Terms for the program's functions, and that they are right: part 8 of 8. -/
import Derived.Test.YtmpakpgonfnadaaRf7
set_option linter.unusedSimpArgs false
set_option linter.unusedVariables false
set_option linter.unnecessarySimpa false
set_option linter.unusedSectionVars false
namespace Go.Proofs.Ytmpakpgonfnadaa.Rf
set_option linter.unusedVariables false
set_option linter.unusedSimpArgs false
section
variable {T : Nat → Ent} {β : Type} {α : Type} [Inhabited α]
inductive Rd1 (σ : Type) where
 | go (s : σ)
 | out (r : Kind × List D)
def foldX {σ : Type} (f : Nat → α → σ → Rd1 σ) : Nat → List α → σ → Rd1 σ
 | _, [], s => .go s
 | i, x :: xs, s => match f i x s with
  | .go s' => foldX f (i + 1) xs s'
  | .out r => .out r
def rndK {σ : Type} (vs : Int → σ → List D) (i : Int) : Rd1 σ → Kind × List D
 | .go s => (.cont, vs (i + 1) s)
 | .out r => r
theorem loopX {σ : Type} {body : Tm β} {ρ : List D} {init : List Atom} (xs : List α) (vs : Int → σ → List D) (s0 : σ) (f : Nat → α → σ → Rd1 σ) (inv : Nat → σ → Prop) (fin : σ → Kind × List D)
  (h0 : init.map (·.val ρ) = vs 0 s0) (hi : inv 0 s0)
  (h1 : ∀ (i : Nat) s, i < xs.length → inv i s → Er T body (ρ ++ vs i s) = some (rndK vs i (f i (atI xs i) s)) ∧ (∀ s', f i (atI xs i) s = .go s' → inv (i + 1) s') ∧ ∀ r, f i (atI xs i) s = .out r → r.1 ≠ .cont)
  (h2 : ∀ s, inv xs.length s → Er T body (ρ ++ vs xs.length s) = some (fin s) ∧ (fin s).1 ≠ .cont) :
  ∃ r, Er T (.loop init body) ρ = some r ∧ ((∃ s, foldX f 0 xs s0 = .go s ∧ inv xs.length s ∧ r = fin s) ∨ foldX f 0 xs s0 = .out r) := by
 have key := loopR (T := T) (body := body) (ρ := ρ) (γ := Nat × σ) (fun c => xs.length - c.1) (fun c => c.1 ≤ xs.length ∧ inv c.1 c.2 ∧ foldX f c.1 (xs.drop c.1) c.2 = foldX f 0 xs s0) (fun c => vs (c.1 : Int) c.2)
  (fun r => (∃ s, foldX f 0 xs s0 = .go s ∧ inv xs.length s ∧ r = fin s) ∨ foldX f 0 xs s0 = .out r)
  (fun ⟨i, s⟩ ⟨hle, hv, hf⟩ => by
   simp only at hle hv hf ⊢
   rcases Nat.lt_or_ge i xs.length with hlt | hge
   ·obtain ⟨h3, h4, h5⟩ := h1 i s hlt hv
    have hd : xs.drop i = atI xs i :: xs.drop (i + 1) := by
     rw [List.drop_eq_getElem_cons hlt, atI_get hlt]
    rw [hd, foldX] at hf
    refine ⟨_, h3, ?_⟩
    cases e : f i (atI xs i) s with
    | go s' =>
     rw [e] at hf
     exact .inl ⟨rfl, (i + 1, s'), ⟨by simp only; omega, h4 s' e, hf⟩, by simp only; omega, rfl⟩
    | out r =>
     rw [e] at hf
     exact .inr ⟨h5 r e, .inr hf.symm⟩
   ·obtain rfl : i = xs.length := by omega
    obtain ⟨h3, h4⟩ := h2 s hv
    rw [List.drop_length, foldX] at hf
    exact ⟨_, h3, .inr ⟨h4, .inl ⟨s, hf.symm, hv, rfl⟩⟩⟩)
  xs.length (0, s0) (by simp) ⟨by simp, hi, by simp⟩ init h0
 exact key
theorem scanX {body : Tm β} {ρ : List D} (j : Nat) (n : Nat) (p : Nat → Bool) (r : List D)
  (h1 : ∀ i : Nat, i < n → p i = true → Er T body (ρ ++ [i64 i]) = some (.cont, [i64 ((i : Int) + 1)]))
  (h2 : ∀ i : Nat, i < n → p i = false → Er T body (ρ ++ [i64 i]) = some (.ret, r))
  (h3 : Er T body (ρ ++ [i64 n]) = some (.yield j, [])) :
  Er T (.loop [.c (i64 0)] body) ρ = forkT (allB p n) (some (.yield j, [])) (some (.ret, r)) := by
 have key := loopR (T := T) (body := body) (ρ := ρ) (fun i => n - i) (fun i => i ≤ n ∧ ∀ j, j < i → p j = true) (fun i => [i64 (i : Nat)])
  (fun q => (∀ j, j < n → p j = true) ∧ q = (.yield j, []) ∨ (∃ j, j < n ∧ p j = false) ∧ q = (.ret, r))
  (fun i ⟨hi, hall⟩ => by
   rcases Nat.lt_or_ge i n with hlt | hge
   ·cases e : p i with
    | true => exact ⟨_, h1 i hlt e, .inl ⟨rfl, i + 1, ⟨by omega, fun j hj => by
      rcases Nat.lt_or_ge j i with h | h
      ·exact hall j h
      ·obtain rfl : j = i := by omega
       exact e⟩, by omega, rfl⟩⟩
    | false => exact ⟨_, h2 i hlt e, .inr ⟨by simp, .inr ⟨⟨i, hlt, e⟩, rfl⟩⟩⟩
   ·obtain rfl : i = n := by omega
    exact ⟨_, h3, .inr ⟨by simp, .inl ⟨hall, rfl⟩⟩⟩)
  n 0 (by omega) ⟨by omega, fun j hj => by omega⟩ [.c (i64 0)] (by simp [Atom.val])
 obtain ⟨q, h4, h5⟩ := key
 rw [h4]
 rcases h5 with ⟨h6, rfl⟩ | ⟨h6, rfl⟩
 ·rw [allB_true.2 h6]; rfl
 ·rw [allB_false.2 h6]; rfl
theorem allB_all (xs : List α) (p : α → Bool) : allB (fun i => p (atI xs i)) xs.length = xs.all p := by
 cases e : xs.all p with
 | true =>
  rw [List.all_eq_true] at e
  rw [allB_true]
  intro i hi
  rw [atI_get hi]
  exact e _ (List.getElem_mem hi)
 | false =>
  rw [List.all_eq_false] at e
  obtain ⟨x, hx, hp⟩ := e
  obtain ⟨i, hi, rfl⟩ := List.getElem_of_mem hx
  exact allB_false.2 ⟨i, hi, by rw [atI_get hi]; simpa using hp⟩
theorem allB_eq [DecidableEq α] {xs ys : List α} (hl : xs.length = ys.length) : allB (fun i => decide (atI xs i = atI ys i)) xs.length = decide (xs = ys) := by
 by_cases e : xs = ys
 ·subst e
  rw [decide_eq_true rfl, allB_true]
  exact fun i _ => decide_eq_true rfl
 ·rw [decide_eq_false e]
  cases h : allB (fun i => decide (atI xs i = atI ys i)) xs.length with
  | false => rfl
  | true =>
   rw [allB_true] at h
   refine absurd (List.ext_getElem hl fun i h1 h2 => ?_) e
   have := of_decide_eq_true (h i h1)
   rwa [atI_get h1, atI_get h2] at this
theorem eq_len {xs ys : List α} [DecidableEq α] (h : ¬ xs.length = ys.length) : decide (xs = ys) = false := decide_eq_false fun e => h (by rw [e])
theorem allX {body : Tm β} {ρ : List D} (j : Nat) (xs : List α) (p : α → Bool) (r : List D)
  (h1 : ∀ i : Nat, i < xs.length → InB xs (i : Int) → decide ((i : Int) < xs.length) = true → p (atI xs i) = true → Er T body (ρ ++ [i64 i]) = some (.cont, [i64 ((i : Int) + 1)]))
  (h2 : ∀ i : Nat, i < xs.length → InB xs (i : Int) → decide ((i : Int) < xs.length) = true → p (atI xs i) = false → Er T body (ρ ++ [i64 i]) = some (.ret, r))
  (h3 : decide ((xs.length : Int) < xs.length) = false → Er T body (ρ ++ [i64 xs.length]) = some (.yield j, [])) :
  Er T (.loop [.c (i64 0)] body) ρ = forkT (xs.all p) (some (.yield j, [])) (some (.ret, r)) := by
 rw [scanX j xs.length (fun i => p (atI xs i)) r (fun i hi hp => h1 i hi (InB_nat.2 hi) (by simp; omega) hp) (fun i hi hp => h2 i hi (InB_nat.2 hi) (by simp; omega) hp) (h3 (by simp)), allB_all]
theorem allF {body : Tm β} {ρ : List D} (j : Nat) (xs : List α) (p : α → Bool) (r : List D)
  (h1 : ∀ i : Nat, i < xs.length → InB xs (i : Int) → decide ((i : Int) < xs.length) = true → atI xs (i : Int) ∈ xs → Er T body (ρ ++ [i64 i]) = forkT (p (atI xs i)) (some (.cont, [i64 ((i : Int) + 1)])) (some (.ret, r)))
  (h3 : decide ((xs.length : Int) < xs.length) = false → Er T body (ρ ++ [i64 xs.length]) = some (.yield j, [])) :
  Er T (.loop [.c (i64 0)] body) ρ = forkT (xs.all p) (some (.yield j, [])) (some (.ret, r)) :=
 allX j xs p r (fun i hi hb hl hp => by rw [h1 i hi hb hl (by rw [atI_get hi]; exact List.getElem_mem hi), hp]; rfl) (fun i hi hb hl hp => by rw [h1 i hi hb hl (by rw [atI_get hi]; exact List.getElem_mem hi), hp]; rfl) h3
def ixF (p : α → Bool) (xs : List α) : Int := match xs.findIdx? p with
 | some i => i
 | none => -1
omit [Inhabited α] in
theorem ixF_any (p : α → Bool) (xs : List α) : decide (0 ≤ ixF p xs) = xs.any p := by
 unfold ixF
 cases h : xs.findIdx? p with
 | none =>
  rw [List.findIdx?_eq_none_iff] at h
  have : xs.any p = false := by
   rw [List.any_eq_false]
   exact fun x hx => by simp [h x hx]
  rw [this]; rfl
 | some i =>
  have : xs.any p = true := by
   rw [List.findIdx?_eq_some_iff_getElem] at h
   obtain ⟨hi, hp, -⟩ := h
   rw [List.any_eq_true]
   exact ⟨_, List.getElem_mem hi, hp⟩
  rw [this]; simp
theorem findX {body : Tm β} {ρ : List D} (j : Nat) (xs : List α) (p : α → Bool) (rf : Int → List D)
  (h1 : ∀ i : Nat, i < xs.length → InB xs (i : Int) → decide ((i : Int) < xs.length) = true → p (atI xs i) = true → Er T body (ρ ++ [i64 i]) = some (.ret, rf i))
  (h2 : ∀ i : Nat, i < xs.length → InB xs (i : Int) → decide ((i : Int) < xs.length) = true → p (atI xs i) = false → Er T body (ρ ++ [i64 i]) = some (.cont, [i64 ((i : Int) + 1)]))
  (h3 : decide ((xs.length : Int) < xs.length) = false → Er T body (ρ ++ [i64 xs.length]) = some (.yield j, [])) :
  Er T (.loop [.c (i64 0)] body) ρ = forkT (xs.any p) (some (.ret, rf (ixF p xs))) (some (.yield j, [])) := by
 have hall : ∀ (i : Nat) (ys : List α), foldX (fun (i : Nat) x (_ : Unit) => if p x then Rd1.out (.ret, rf i) else .go ()) i ys () = match ys.findIdx? p with | some k => .out (.ret, rf ((i + k : Nat) : Int)) | none => .go () := by
  intro i ys
  induction ys generalizing i with
  | nil => rfl
  | cons y ys ih =>
   rw [foldX, List.findIdx?_cons]
   cases p y with
   | true => simp
   | false =>
    simp only [Bool.false_eq_true, if_false]
    rw [ih (i + 1)]
    cases ys.findIdx? p with
    | none => rfl
    | some k => simp only [Option.map_some]; congr 4; omega
 obtain ⟨q, h4, h5⟩ := loopX (T := T) (body := body) (ρ := ρ) (init := [.c (i64 0)]) xs (fun i (_ : Unit) => [i64 i]) () (fun i x _ => if p x then .out (.ret, rf i) else .go ()) (fun _ _ => True) (fun _ => (.yield j, [])) rfl trivial
  (fun i _ hi _ => by
   cases e : p (atI xs i) with
   | true => exact ⟨by rw [h1 i hi (InB_nat.2 hi) (by simp; omega) e]; rfl, fun _ _ => trivial, fun r h => by simp at h; rw [← h]; simp⟩
   | false => exact ⟨by rw [h2 i hi (InB_nat.2 hi) (by simp; omega) e]; rfl, fun _ _ => trivial, fun r h => by simp at h⟩)
  (fun _ _ => ⟨h3 (by simp), by simp⟩)
 rw [h4, ← ixF_any]
 rw [hall] at h5
 unfold ixF
 cases e : xs.findIdx? p with
 | none =>
  rw [e] at h5
  rcases h5 with ⟨s, -, -, rfl⟩ | h5
  ·rfl
  ·simp at h5
 | some k =>
  rw [e] at h5
  rcases h5 with ⟨s, h5, -⟩ | h5
  ·simp at h5
  ·simp only [Nat.zero_add, Rd1.out.injEq] at h5
   rw [← h5]
   simp [forkT]
theorem at_mem {xs : List α} {i : Nat} (h : i < xs.length) : atI xs (i : Int) ∈ xs := by rw [atI_get h]; exact List.getElem_mem h
omit [Inhabited α] in
theorem loopN {body : Tm β} {ρ : List D} {init : List Atom} (n : Nat) (vs : Nat → List D) (r : Kind × List D) (h0 : init.map (·.val ρ) = vs 0) (hr : r.1 ≠ .cont)
  (h1 : ∀ i : Nat, i < n → decide ((i : Int) < n) = true → Er T body (ρ ++ vs i) = some (.cont, vs (i + 1)))
  (h2 : decide ((n : Int) < n) = false → Er T body (ρ ++ vs n) = some r) : Er T (.loop init body) ρ = some r := by
 obtain ⟨q, h3, rfl⟩ := loopR (T := T) (body := body) (ρ := ρ) (fun i => n - i) (fun i => i ≤ n) vs (fun q => q = r)
  (fun i hi => by
   rcases Nat.lt_or_ge i n with hlt | hge
   ·exact ⟨_, h1 i hlt (by simp; omega), .inl ⟨rfl, i + 1, by omega, by omega, rfl⟩⟩
   ·obtain rfl : i = n := by omega
    exact ⟨_, h2 (by simp), .inr ⟨hr, rfl⟩⟩) n 0 (by omega) (by omega) init h0
 exact h3
omit [Inhabited α] in
theorem whileE {γ : Type} {body : Tm β} {ρ : List D} {init : List Atom} (r : Kind × List D) (m : γ → Nat) (inv : γ → Prop) (vs : γ → List D) (c0 : γ) (h0 : init.map (·.val ρ) = vs c0) (hi : inv c0) (hr : r.1 ≠ .cont)
  (h : ∀ c, inv c → (∃ c', Er T body (ρ ++ vs c) = some (.cont, vs c') ∧ inv c' ∧ m c' < m c) ∨ Er T body (ρ ++ vs c) = some r) : Er T (.loop init body) ρ = some r := by
 obtain ⟨q, h1, rfl⟩ := loopR (T := T) (body := body) (ρ := ρ) m inv vs (fun q => q = r)
  (fun c hc => by
   rcases h c hc with ⟨c', h2, h3, h4⟩ | h2
   ·exact ⟨_, h2, .inl ⟨rfl, c', h3, h4, rfl⟩⟩
   ·exact ⟨_, h2, .inr ⟨hr, rfl⟩⟩) (m c0) c0 (Nat.le_refl _) hi init h0
 exact h1
end
theorem SQ : (∀ {a b : Int}, -9223372036854775808 ≤ a + b → a + b ≤ 9223372036854775807 → (Prim.bin .add).run [i64 a, i64 b] = some [i64 (a + b)]) ∧
  (∀ {a b : Int}, -9223372036854775808 ≤ a - b → a - b ≤ 9223372036854775807 → (Prim.bin .sub).run [i64 a, i64 b] = some [i64 (a - b)]) ∧
  (∀ {a b : Int}, 0 ≤ a → a ≤ 9223372036854775807 → 0 < b → (Prim.bin .quo).run [i64 a, i64 b] = some [i64 (a / b)]) ∧ (∀ {a b : Int}, 0 ≤ a → 0 < b → (Prim.bin .rem).run [i64 a, i64 b] = some [i64 (a % b)]) :=
 ⟨run_add, run_sub, run_quoI, run_remI⟩
end Go.Proofs.Ytmpakpgonfnadaa.Rf

namespace Go.Proofs.Ytmpakpgonfnadaa.Rf
set_option linter.unusedVariables false
set_option linter.unusedSimpArgs false
theorem S_upd : (∀ {α : Type} [Inhabited α] {xs : List α} {k : Int} {a : α}, InB xs k → atI (setI xs k a) k = a) ∧ (∀ {α : Type} {xs : List α} {k : Int} {a b : α}, setI (setI xs k a) k b = setI xs k b) ∧
  (∀ {α : Type} {xs : List α} {j k : Int} {a : α}, InB (setI xs j a) k = InB xs k) ∧ (∀ {α : Type} {xs : List α} {j : Int} {a : α}, (setI xs j a).length = xs.length) := by
 refine ⟨?_, ?_, ?_, ?_⟩
 ·intro α _ xs k a h
  have := h.lt
  rw [setI, atI, List.getD_eq_getElem?_getD, List.getElem?_set_self this]; rfl
 ·intro α xs k a b
  rw [setI, setI, setI, List.set_set]
 ·intro α xs j k a
  unfold InB setI
  rw [List.length_set]
 ·intro α xs j a
  exact List.length_set ..
def szL {α : Type} (f : α → Nat) (xs : List α) : Nat := xs.length + (xs.map f).sum
def szR (l : Int) (n : Nat) : Int := if (n : Int) ≤ l then l - n else -1
theorem szL_cons {α : Type} {f : α → Nat} {x : α} {xs : List α} : szL f (x :: xs) = 1 + f x + szL f xs := by simp [szL]; omega
theorem szL_mem {α : Type} {f : α → Nat} : ∀ {xs : List α} {x : α}, x ∈ xs → 1 + f x ≤ szL f xs
 | [], x, h => by cases h
 | y :: ys, x, h => by
  rw [szL_cons]
  rcases List.mem_cons.1 h with rfl | h
  ·omega
  ·have := szL_mem (f := f) h
   omega
theorem szL_zero {α : Type} {xs : List α} : szL (fun _ => 0) xs = xs.length := by
 have : ∀ xs : List α, (xs.map fun _ => 0).sum = 0 := fun xs => by
  induction xs with
  | nil => rfl
  | cons x xs ih => simp only [List.map_cons, List.sum_cons, ih]
 rw [szL, this]; rfl
theorem szL_len {α : Type} {f : α → Nat} {xs : List α} : xs.length ≤ szL f xs := by unfold szL; omega
section
variable {T : Nat → Ent} {β : Type} {α : Type} [Inhabited α]
theorem szLoop {body : Tm β} {ρ : List D} {a : Atom} (xs : List α) (f : α → Nat) (l : Int) (h0 : a.val ρ = i64 l) (hl : 0 ≤ l) (hl' : l ≤ 1048576)
  (h1 : ∀ (i : Nat) (m : Int), i < xs.length → InB xs (i : Int) → decide ((i : Int) < xs.length) = true → 0 ≤ m → m ≤ 1048576 → (f (atI xs i) : Int) ≤ m → szR m (f (atI xs i)) = m - f (atI xs i) → decide (m - (f (atI xs i) : Int) < 0) = false → Er T body (ρ ++ [i64 m, i64 i]) = some (.cont, [i64 (m - f (atI xs i)), i64 ((i : Int) + 1)]))
  (h2 : ∀ (i : Nat) (m : Int), i < xs.length → InB xs (i : Int) → decide ((i : Int) < xs.length) = true → 0 ≤ m → m ≤ 1048576 → m < f (atI xs i) → szR m (f (atI xs i)) = -1 → decide ((-1 : Int) < 0) = true → Er T body (ρ ++ [i64 m, i64 i]) = some (.ret, [i64 (-1)]))
  (h3 : ∀ m : Int, decide ((xs.length : Int) < xs.length) = false → Er T body (ρ ++ [i64 m, i64 xs.length]) = some (.yield 1, [i64 m])) :
  Er T (.loop [a, .c (i64 0)] body) ρ = forkT (decide (((xs.map f).sum : Int) ≤ l)) (some (.yield 1, [i64 (l - (xs.map f).sum)])) (some (.ret, [i64 (-1)])) := by
 have hall : ∀ (ys : List α) (i : Nat) (m : Int), 0 ≤ m → foldX (fun (_ : Nat) x (m : Int) => if (f x : Int) ≤ m then Rd1.go (m - f x) else .out (.ret, [i64 (-1)])) i ys m = if ((ys.map f).sum : Int) ≤ m then .go (m - (ys.map f).sum) else .out (.ret, [i64 (-1)]) := by
  intro ys
  induction ys with
  | nil =>
   intro i m hm
   simp only [foldX, List.map_nil, List.sum_nil]
   rw [if_pos (by simpa using hm)]
   simp
  | cons y ys ih =>
   intro i m hm
   simp only [foldX, List.map_cons, List.sum_cons]
   by_cases h : (f y : Int) ≤ m
   ·rw [if_pos h]
    simp only
    rw [ih (i + 1) _ (by omega)]
    by_cases h4 : ((ys.map f).sum : Int) ≤ m - f y
    ·rw [if_pos h4, if_pos (by omega)]
     congr 1
     omega
    ·rw [if_neg h4, if_neg (by omega)]
   ·rw [if_neg h]
    simp only
    rw [if_neg (by omega)]
 obtain ⟨q, h4, h5⟩ := loopX (T := T) (body := body) (ρ := ρ) (init := [a, .c (i64 0)]) xs (fun i (m : Int) => [i64 m, i64 i]) l (fun _ x m => if (f x : Int) ≤ m then .go (m - f x) else .out (.ret, [i64 (-1)])) (fun _ m => 0 ≤ m ∧ m ≤ 1048576) (fun m => (.yield 1, [i64 m])) (by show [a.val ρ, _] = _; rw [h0]; rfl) ⟨hl, hl'⟩
  (fun i m hi hm => by
   by_cases e : (f (atI xs i) : Int) ≤ m
   ·rw [if_pos e]
    refine ⟨h1 i m hi (InB_nat.2 hi) (by simp; omega) hm.1 hm.2 e (by rw [szR, if_pos e]) (by simp; omega), fun s' h => ?_, fun r h => by cases h⟩
    simp only [Rd1.go.injEq] at h
    omega
   ·rw [if_neg e]
    refine ⟨h2 i m hi (InB_nat.2 hi) (by simp; omega) hm.1 hm.2 (by omega) (by rw [szR, if_neg e]) rfl, fun s' h => by simp at h, fun r h => ?_⟩
    simp only [Rd1.out.injEq] at h
    rw [← h]; simp)
  (fun m hm => ⟨h3 m (by simp), by simp⟩)
 rw [h4]
 rw [hall xs 0 l hl] at h5
 by_cases h : ((xs.map f).sum : Int) ≤ l
 ·rw [if_pos h] at h5
  rw [decide_eq_true h]
  rcases h5 with ⟨s, h5, -, rfl⟩ | h5
  ·simp only [Rd1.go.injEq] at h5
   rw [← h5]; rfl
  ·cases h5
 ·rw [if_neg h] at h5
  rw [decide_eq_false h]
  rcases h5 with ⟨s, h5, -⟩ | h5
  ·cases h5
  ·simp only [Rd1.out.injEq] at h5
   rw [← h5]; rfl
theorem toLoop {body : Tm β} {ρ : List D} {a : Atom} [Enc α] (xs : List α) (h0 : a.val ρ = rL (List.replicate xs.length (default : α)))
  (h1 : ∀ (i : Nat) (ys : List α), i < xs.length → InB xs (i : Int) → InB ys (i : Int) → decide ((i : Int) < xs.length) = true → Er T body (ρ ++ [rL ys, i64 i]) = some (.cont, [rL (setI ys i (atI xs i)), i64 ((i : Int) + 1)]))
  (h2 : ∀ ys : List α, decide ((xs.length : Int) < xs.length) = false → Er T body (ρ ++ [rL ys, i64 xs.length]) = some (.yield 1, [rL ys])) :
  Er T (.loop [a, .c (i64 0)] body) ρ = some (.yield 1, [rL xs]) := by
 have key := loopR (T := T) (body := body) (ρ := ρ) (fun i => xs.length - i) (fun i => i ≤ xs.length) (fun i => [rL (upto default xs i), i64 (i : Nat)]) (fun q => q = (.yield 1, [rL xs]))
  (fun i hi => by
   rcases Nat.lt_or_ge i xs.length with hlt | hge
   ·refine ⟨_, h1 i (upto default xs i) hlt (InB_nat.2 hlt) (InB_nat.2 (by rw [upto_len _ _ hi]; exact hlt)) (by simp; omega), .inl ⟨rfl, i + 1, by omega, by omega, ?_⟩⟩
    have : setI (upto default xs i) (i : Int) (atI xs i) = upto default xs (i + 1) := by
     rw [setI]
     exact upto_set default xs (by rw [atI_get hlt]; exact List.getElem?_eq_getElem hlt)
    rw [this]; simp
   ·obtain rfl : i = xs.length := by omega
    refine ⟨_, h2 _ (by simp), .inr ⟨by simp, ?_⟩⟩
    rw [upto_all])
  xs.length 0 (by omega) (by omega) [a, .c (i64 0)] (by show [a.val ρ, _] = _; rw [h0, upto_zero]; rfl)
 obtain ⟨q, h4, rfl⟩ := key
 exact h4
def mkL {α : Type} (c : α → Nat) (f : α → Int → α) : List α → Int → List α
 | [], _ => []
 | x :: xs, k => f x k :: mkL c f xs (k + c x)
def ctL {α : Type} (c : α → Nat) (xs : List α) : Nat := (xs.map c).sum
theorem mkL_len {α : Type} {c : α → Nat} {f : α → Int → α} : ∀ {xs : List α} {k : Int}, (mkL c f xs k).length = xs.length
 | [], _ => rfl
 | x :: xs, k => by simp [mkL, mkL_len]
theorem mkL_at {c : α → Nat} {f : α → Int → α} : ∀ {xs : List α} {k : Int} {i : Nat}, i < xs.length → atI (mkL c f xs k) (i : Int) = f (atI xs i) (k + ctL c (xs.take i))
 | x :: xs, k, 0, h => by simp [mkL, atI, ctL]
 | x :: xs, k, i + 1, h => by
  have ih := mkL_at (c := c) (f := f) (xs := xs) (k := k + c x) (i := i) (by simpa using h)
  rw [mkL, atI_nat, atI_nat, List.getD_cons_succ, List.getD_cons_succ, ← atI_nat, ih, ← atI_nat]
  congr 1
  simp only [ctL, List.take_succ_cons, List.map_cons, List.sum_cons]
  omega
theorem ctL_take {c : α → Nat} {xs : List α} {i : Nat} (h : i < xs.length) : ctL c (xs.take (i + 1)) = ctL c (xs.take i) + c (atI xs i) := by
 rw [List.take_succ_eq_append_getElem h, atI_get h]
 unfold ctL
 rw [List.map_append, List.sum_append]
 simp
omit [Inhabited α] in
theorem ctL_take_le {c : α → Nat} : ∀ {xs : List α} {i : Nat}, ctL c (xs.take i) ≤ ctL c xs
 | [], i => by simp
 | x :: xs, 0 => by simp [ctL]
 | x :: xs, i + 1 => by
  have := ctL_take_le (c := c) (xs := xs) (i := i)
  simp only [ctL, List.take_succ_cons, List.map_cons, List.sum_cons] at this ⊢
  omega
theorem ctL_get_le {c : α → Nat} {xs : List α} {i : Nat} (h : i < xs.length) : ctL c (xs.take i) + c (atI xs i) ≤ ctL c xs := by
 rw [← ctL_take h]; exact ctL_take_le
def upM (c : α → Nat) (f : α → Int → α) (xs : List α) (k : Int) (i : Nat) : List α := (mkL c f xs k).take i ++ xs.drop i
omit [Inhabited α] in
theorem upM_len {c : α → Nat} {f : α → Int → α} {xs : List α} {k : Int} {i : Nat} (h : i ≤ xs.length) : (upM c f xs k i).length = xs.length := by
 simp [upM, mkL_len]; omega
theorem upM_at {c : α → Nat} {f : α → Int → α} {xs : List α} {k : Int} {i : Nat} (h : i < xs.length) : atI (upM c f xs k i) (i : Int) = atI xs i := by
 rw [atI_get (by rw [upM_len (by omega)]; exact h), atI_get h]
 unfold upM
 rw [List.getElem_append_right (by simp [mkL_len]; omega)]
 simp [mkL_len, Nat.min_eq_left (Nat.le_of_lt h)]
theorem upM_set {c : α → Nat} {f : α → Int → α} {xs : List α} {k : Int} {i : Nat} (h : i < xs.length) : setI (upM c f xs k i) (i : Int) (f (atI xs i) (k + ctL c (xs.take i))) = upM c f xs k (i + 1) := by
 have hm : i < (mkL c f xs k).length := by rw [mkL_len]; exact h
 unfold upM setI
 rw [Int.toNat_natCast, List.set_append_right _ _ (by simp [mkL_len]; omega), List.take_succ_eq_append_getElem hm, List.append_assoc]
 congr 1
 have e : i - ((mkL c f xs k).take i).length = 0 := by simp [mkL_len]; omega
 rw [e, List.drop_eq_getElem_cons h, List.set_cons_zero]
 have := mkL_at (c := c) (f := f) (k := k) h
 rw [atI_get hm] at this
 rw [this]; rfl
theorem markLoop {body : Tm β} {ρ : List D} {a b d : Atom} [Enc α] (xs : List α) (c : α → Nat) (f : α → Int → α) (k : Int) (h0 : a.val ρ = rL xs) (h0' : b.val ρ = i64 k) (hd : d.val ρ = .undef) (hk : 0 ≤ k) (hb : k + ctL c xs ≤ 1152921504606846976)
  (h1 : ∀ (i : Nat) (ys : List α) (m : Int), i < xs.length → ys.length = xs.length → InB ys (i : Int) → decide ((i : Int) < xs.length) = true → atI ys i = atI xs i → 0 ≤ m → m + c (atI xs i) ≤ 1152921504606846976 → xs.length ≤ 1152921504606846976 → Er T body (ρ ++ [rL ys, .undef, i64 m, i64 i]) = some (.cont, [rL (setI ys i (f (atI xs i) m)), .undef, i64 (m + c (atI xs i)), i64 ((i : Int) + 1)]))
  (h2 : ∀ (ys : List α) (m : Int), ys.length = xs.length → decide ((xs.length : Int) < xs.length) = false → Er T body (ρ ++ [rL ys, .undef, i64 m, i64 xs.length]) = some (.yield 1, [rL ys, i64 m])) (hlen : xs.length ≤ 1152921504606846976) :
  Er T (.loop [a, d, b, .c (i64 0)] body) ρ = some (.yield 1, [rL (mkL c f xs k), i64 (k + ctL c xs)]) := by
 have key := loopR (T := T) (body := body) (ρ := ρ) (fun i => xs.length - i) (fun i => i ≤ xs.length) (fun i => [rL (upM c f xs k i), .undef, i64 (k + ctL c (xs.take i)), i64 (i : Nat)]) (fun q => q = (.yield 1, [rL (mkL c f xs k), i64 (k + ctL c xs)]))
  (fun i hi => by
   rcases Nat.lt_or_ge i xs.length with hlt | hge
   ·have h3 := ctL_get_le (c := c) hlt
    refine ⟨_, h1 i (upM c f xs k i) (k + ctL c (xs.take i)) hlt (upM_len hi) (InB_nat.2 (by rw [upM_len hi]; exact hlt)) (by simp; omega) (upM_at hlt) (by omega) (by omega) hlen, .inl ⟨rfl, i + 1, by omega, by omega, ?_⟩⟩
    rw [upM_set hlt, ctL_take hlt]
    simp only [Int.natCast_add, Int.add_assoc]; rfl
   ·obtain rfl : i = xs.length := by omega
    refine ⟨_, h2 _ _ (upM_len hi) (by simp), .inr ⟨by simp, ?_⟩⟩
    have e : upM c f xs k xs.length = mkL c f xs k := by
     unfold upM
     rw [List.drop_length, List.append_nil, List.take_of_length_le (by rw [mkL_len]; omega)]
    rw [e, List.take_length])
  xs.length 0 (by omega) (by omega) [a, d, b, .c (i64 0)] (by show [a.val ρ, d.val ρ, b.val ρ, _] = _; rw [h0, h0', hd]; simp [upM, ctL, Atom.val])
 obtain ⟨q, h4, rfl⟩ := key
 exact h4
theorem heldLoop {body : Tm β} {ρ : List D} {b : Atom} (xs : List α) (c : α → Nat) (f : α → Int → α) (k : Int) (h0' : b.val ρ = i64 k) (hk : 0 ≤ k) (hb : k + ctL c xs ≤ 1152921504606846976) (hlen : xs.length ≤ 1152921504606846976)
  (h1 : ∀ (i : Nat) (m : Int), i < xs.length → InB (mkL c f xs k) (i : Int) → (mkL c f xs k).length = xs.length → decide ((i : Int) < xs.length) = true → atI (mkL c f xs k) i = f (atI xs i) m → 0 ≤ m → m + c (atI xs i) ≤ 1152921504606846976 → xs.length ≤ 1152921504606846976 → Er T body (ρ ++ [i64 m, i64 i]) = some (.cont, [i64 (m + c (atI xs i)), i64 ((i : Int) + 1)]))
  (h2 : ∀ m : Int, (mkL c f xs k).length = xs.length → decide ((xs.length : Int) < xs.length) = false → Er T body (ρ ++ [i64 m, i64 xs.length]) = some (.yield 1, [i64 m])) :
  Er T (.loop [b, .c (i64 0)] body) ρ = some (.yield 1, [i64 (k + ctL c xs)]) := by
 have key := loopR (T := T) (body := body) (ρ := ρ) (fun i => xs.length - i) (fun i => i ≤ xs.length) (fun i => [i64 (k + ctL c (xs.take i)), i64 (i : Nat)]) (fun q => q = (.yield 1, [i64 (k + ctL c xs)]))
  (fun i hi => by
   rcases Nat.lt_or_ge i xs.length with hlt | hge
   ·have h3 := ctL_get_le (c := c) hlt
    refine ⟨_, h1 i (k + ctL c (xs.take i)) hlt (InB_nat.2 (by rw [mkL_len]; exact hlt)) mkL_len (by simp; omega) (mkL_at hlt) (by omega) (by omega) hlen, .inl ⟨rfl, i + 1, by omega, by omega, ?_⟩⟩
    rw [ctL_take hlt]
    simp only [Int.natCast_add, Int.add_assoc]; rfl
   ·obtain rfl : i = xs.length := by omega
    refine ⟨_, h2 _ mkL_len (by simp), .inr ⟨by simp, ?_⟩⟩
    rw [List.take_length])
  xs.length 0 (by omega) (by omega) [b, .c (i64 0)] (by show [b.val ρ, _] = _; rw [h0']; simp [ctL, Atom.val])
 obtain ⟨q, h4, rfl⟩ := key
 exact h4
end
theorem ctL_le {α : Type} {c f : α → Nat} {m : Nat} (hm : 1 ≤ m) (h : ∀ x, c x ≤ m + m * f x) : ∀ xs : List α, ctL c xs ≤ m * szL f xs
 | [] => by simp [ctL]
 | x :: xs => by
  have ih := ctL_le hm h xs
  have h1 := h x
  rw [szL_cons]
  simp only [ctL, List.map_cons, List.sum_cons] at ih ⊢
  rw [Nat.mul_add, Nat.mul_add]
  omega
theorem lt0 {k : Int} (h : 0 ≤ k) : decide (k < 0) = false := by simp; omega
theorem ltm1 : decide ((-1 : Int) < 0) = true := rfl
theorem WT_rL {α : Type} [Enc α] {tys : List Ty} {bytes : Nat} {P : α → Prop} {d : D} (hs : tys.length = Enc.sz α) (hd : ∀ ds, WTs tys ds → ∃ a : α, ds = Enc.enc a ∧ P a) (h : WT (.sl bytes tys) d) : ∃ xs : List α, d = rL xs ∧ xs.length * bytes ≤ reachBytes ∧ ∀ x ∈ xs, P x := by
 simp only [WT] at h
 obtain ⟨rs, rfl, h1, h2⟩ := h
 have key : ∀ rs : List (List D), (∀ r ∈ rs, WTs tys r) → ∃ xs : List α, rs = xs.map Enc.enc ∧ ∀ x ∈ xs, P x := by
  intro rs
  induction rs with
  | nil => exact fun _ => ⟨[], rfl, by simp⟩
  | cons r rs ih =>
   intro h
   obtain ⟨xs, hx, hp⟩ := ih fun r hr => h r (List.mem_cons_of_mem _ hr)
   obtain ⟨a, ha, hpa⟩ := hd r (h r List.mem_cons_self)
   exact ⟨a :: xs, by rw [hx, ha]; rfl, by simpa using ⟨hpa, hp⟩⟩
 obtain ⟨xs, rfl, hp⟩ := key rs h2
 exact ⟨xs, by rw [hs]; rfl, by simpa using h1, hp⟩
theorem WT_int {d : D} (h : WT (.int .i64) d) : ∃ n : Int, d = i64 n ∧ -9223372036854775808 ≤ n ∧ n ≤ 9223372036854775807 := by
 obtain ⟨n, rfl, h1, h2⟩ := h
 exact ⟨n, rfl, h1, h2⟩
theorem reach_len {n b : Nat} (h : n * b ≤ reachBytes) (hb : 0 < b) : n ≤ reachBytes := Nat.le_trans (Nat.le_mul_of_pos_right n hb) h
end Go.Proofs.Ytmpakpgonfnadaa.Rf

namespace Go.Proofs.Ytmpakpgonfnadaa.Rf
set_option linter.unusedVariables false
set_option linter.unusedSimpArgs false
theorem dec_int (ds : List D) (h : WTs [.int .i64] ds) : ∃ x : Int, ds = Enc.enc x ∧ True := by
 simp only [WTs] at h
 obtain ⟨d, r, rfl, w, rfl⟩ := h
 obtain ⟨x, rfl, -, -⟩ := WT_int w
 exact ⟨x, rfl, trivial⟩
def ct_TCmd (x : TCmd) : Nat := 1 + 1 + 1 + 1 + 1
theorem ctu_TCmd (x : TCmd) : ct_TCmd x = 5 := by
 unfold ct_TCmd
 try omega
def sz_TAttr (x : TAttr) : Nat := szL (fun _ => 0) x.deps
def wf_TAttr (x : TAttr) : Prop := (x.deps.length ≤ 140737488351232)
def ct_TAttr (x : TAttr) : Nat := 1 + ctL (fun _ => 1) x.deps
theorem ctu_TAttr (x : TAttr) : ct_TAttr x = 1 + ctL (fun _ => 1) x.deps := by
 unfold ct_TAttr
 try omega
theorem szu_TAttr (x : TAttr) : sz_TAttr x = x.deps.length := by
 unfold sz_TAttr
 simp only [szL_zero]
 try omega
def sz_TRow (x : TRow) : Nat := sz_TAttr x.attr
def wf_TRow (x : TRow) : Prop := (wf_TAttr x.attr)
def ct_TRow (x : TRow) : Nat := 1 + 1 + 1 + ct_TCmd x.cmd + ct_TAttr x.attr
def mk_TRow (x : TRow) (k : Int) : TRow := ⟨(k), (k + 1), (k + 1 + 1), ⟨(k + 1 + 1 + 1), (k + 1 + 1 + 1 + 1), (k + 1 + 1 + 1 + 1 + 1), (k + 1 + 1 + 1 + 1 + 1 + 1), (k + 1 + 1 + 1 + 1 + 1 + 1 + 1)⟩, ⟨(k + 1 + 1 + 1 + 1 + 1 + 1 + 1 + 1), (mkL (fun _ => 1) (fun _ k => k) x.attr.deps (k + 1 + 1 + 1 + 1 + 1 + 1 + 1 + 1 + 1))⟩⟩
theorem ctu_TRow (x : TRow) : ct_TRow x = 9 + ctL (fun _ => 1) x.attr.deps := by
 unfold ct_TRow
 simp only [ctu_TCmd]
 simp only [ctu_TAttr]
 try omega
theorem szu_TRow (x : TRow) : sz_TRow x = x.attr.deps.length := by
 unfold sz_TRow
 simp only [szL_zero, szu_TAttr]
 try omega
theorem ctb_TRow (x : TRow) : ct_TRow x ≤ 16 + 16 * sz_TRow x := by
 have h0 := ctL_le (c := (fun _ => 1)) (f := (fun _ => 0)) (m := 16) (by omega) (fun _ => by simp) x.attr.deps
 rw [ctu_TRow, szu_TRow]
 try simp only [szL_zero] at *
 omega
theorem dec_TRow (ds : List D) (h : WTs [.int .i64, .int .i64, .int .i64, .int .i64, .int .i64, .int .i64, .int .i64, .int .i64, .int .i64, .sl 8 [.int .i64]] ds) : ∃ x : TRow, ds = Enc.enc x ∧ wf_TRow x := by
 simp only [WTs] at h
 obtain ⟨d0, r0, rfl, w0, d1, r1, rfl, w1, d2, r2, rfl, w2, d3, r3, rfl, w3, d4, r4, rfl, w4, d5, r5, rfl, w5, d6, r6, rfl, w6, d7, r7, rfl, w7, d8, r8, rfl, w8, d9, r9, rfl, w9, rfl⟩ := h
 obtain ⟨x0, rfl, -, -⟩ := WT_int w0
 obtain ⟨x1, rfl, -, -⟩ := WT_int w1
 obtain ⟨x2, rfl, -, -⟩ := WT_int w2
 obtain ⟨x3, rfl, -, -⟩ := WT_int w3
 obtain ⟨x4, rfl, -, -⟩ := WT_int w4
 obtain ⟨x5, rfl, -, -⟩ := WT_int w5
 obtain ⟨x6, rfl, -, -⟩ := WT_int w6
 obtain ⟨x7, rfl, -, -⟩ := WT_int w7
 obtain ⟨x8, rfl, -, -⟩ := WT_int w8
 obtain ⟨x9, rfl, l9, p9⟩ := WT_rL (α := Int) (P := fun _ => True) rfl dec_int w9
 exact ⟨⟨x0, x1, x2, ⟨x3, x4, x5, x6, x7⟩, ⟨x8, x9⟩⟩, rfl, reach_len l9 (by decide)⟩
theorem dec_LTRow (ds : List D) (h : WTs [.sl 96 [.int .i64, .int .i64, .int .i64, .int .i64, .int .i64, .int .i64, .int .i64, .int .i64, .int .i64, .sl 8 [.int .i64]]] ds) : ∃ x : (List TRow), ds = Enc.enc x ∧ x.length ≤ 140737488351232 ∧ ∀ y0 ∈ x, wf_TRow y0 := by
 simp only [WTs] at h
 obtain ⟨d, r, rfl, w, rfl⟩ := h
 obtain ⟨x, rfl, l, p⟩ := WT_rL (α := TRow) (P := fun y => wf_TRow y) rfl dec_TRow w
 exact ⟨x, rfl, ⟨reach_len l (by decide), p⟩⟩
def sz_TTable (x : TTable) : Nat := szL (szL sz_TRow) x.rows
def wf_TTable (x : TTable) : Prop := (x.rows.length ≤ 140737488351232 ∧ ∀ y0 ∈ x.rows, y0.length ≤ 140737488351232 ∧ ∀ y1 ∈ y0, wf_TRow y1)
theorem szu_TTable (x : TTable) : sz_TTable x = szL (szL sz_TRow) x.rows := by
 unfold sz_TTable
 simp only [szL_zero]
 try omega
theorem dec_TTable (ds : List D) (h : WTs [.int .i64, .sl 24 [.sl 96 [.int .i64, .int .i64, .int .i64, .int .i64, .int .i64, .int .i64, .int .i64, .int .i64, .int .i64, .sl 8 [.int .i64]]]] ds) : ∃ x : TTable, ds = Enc.enc x ∧ wf_TTable x := by
 simp only [WTs] at h
 obtain ⟨d0, r0, rfl, w0, d1, r1, rfl, w1, rfl⟩ := h
 obtain ⟨x0, rfl, -, -⟩ := WT_int w0
 obtain ⟨x1, rfl, l1, p1⟩ := WT_rL (α := (List TRow)) (P := fun y => y.length ≤ 140737488351232 ∧ ∀ y0 ∈ y, wf_TRow y0) rfl (dec_LTRow) w1
 exact ⟨⟨x0, x1⟩, rfl, ⟨reach_len l1 (by decide), p1⟩⟩
end Go.Proofs.Ytmpakpgonfnadaa.Rf

namespace Go.Proofs.Ytmpakpgonfnadaa.Rf
set_option linter.unusedVariables false
set_option linter.unusedSimpArgs false
theorem SZ : (∀ b : Bool, (b && true) = b) ∧ (∀ b : Bool, (true && b) = b) ∧ (∀ b : Bool, (b && false) = false) ∧ (∀ b : Bool, (false && b) = false) ∧
  (∀ b : Bool, (b || true) = true) ∧ (∀ b : Bool, (true || b) = true) ∧ (∀ b : Bool, (b || false) = b) ∧ (∀ b : Bool, (false || b) = b) ∧ ((!true) = false) ∧ ((!false) = true) :=
 ⟨Bool.and_true, Bool.true_and, Bool.and_false, Bool.false_and, Bool.or_true, Bool.true_or, Bool.or_false, Bool.false_or, rfl, rfl⟩
theorem fork_in {γ : Type} {a r : γ} (h : forkT true a r = r) : a = r := h
theorem S0 : type_of% (And.intro @SA (And.intro @SB (And.intro @SC (And.intro @SP (And.intro @SQ (And.intro @SZ (And.intro @beq_self_eq_true.{0} (And.intro @decide_true (And.intro @decide_false (And.intro @cast1 @S_eta)))))))))) := And.intro @SA (And.intro @SB (And.intro @SC (And.intro @SP (And.intro @SQ (And.intro @SZ (And.intro @beq_self_eq_true.{0} (And.intro @decide_true (And.intro @decide_false (And.intro @cast1 @S_eta)))))))))
theorem bool_fin {x y : Bool} (h : x = true ↔ y = true) : some [D.bool x] = some [D.bool y] := by rw [Bool.eq_iff_iff.2 h]
def isGrp (n : Int) : Bool := n == 3 || n == 5
theorem isGrp_rng {n : Int} (h : isGrp n = true) : n = 3 ∨ n = 5 := by simpa [isGrp] using h
def inst (n rep no : Int) : Bool := inR rep 0 (n - 1) && inR no 1 6
def cmdOk (c : TCmd) : Bool :=
 if c.kind == 0 then decide (c = ⟨0, 0, 0, 0, 0⟩) else if c.kind == 1 then inR c.id 1 999 && inR c.src 0 3 && inR c.dst 0 3 && !(c.src == c.dst) && inR c.amt 1 1000
 else c.kind == 2 && inR c.id 1 999 && inR c.src 0 3 && c.dst == 0 && c.amt == 0
def cmdCode (c : TCmd) : Int :=
 if !inR c.src 0 3 || (c.kind == 1 && !inR c.dst 0 3) then 4 else if c.kind == 1 && c.src == c.dst then 5 else if !inR c.id 1 999 || (c.kind == 1 && !inR c.amt 1 1000) then 6 else 0
def attrOk (n : Int) (a : TAttr) : Bool := inR a.seq 0 999 && (a.deps.length : Int) == n && a.deps.all fun x => inR x 0 6
def none0 (n : Int) : TAttr := ⟨0, List.replicate n.toNat 0⟩
def rowOk (n : Int) (r : TRow) : Bool :=
 inR r.ballot 0 9999 && inR r.vote 0 r.ballot && inR r.state 0 3 && (if r.state == 0 then r.vote == 0 && decide (r.cmd = ⟨0, 0, 0, 0, 0⟩) && decide (r.attr = none0 n) else cmdOk r.cmd && attrOk n r.attr)
theorem none0_ok {n : Int} (h : isGrp n = true) : attrOk n (none0 n) = true := by
 rcases isGrp_rng h with rfl | rfl <;> rfl
theorem cmdZ_ok {c : TCmd} (h : decide (c = ⟨0, 0, 0, 0, 0⟩) = true) : cmdOk c = true := by
 rw [of_decide_eq_true h]; rfl
theorem cmdCode0 {c : TCmd} : (cmdCode c == 0) = (inR c.src 0 3 && inR c.id 1 999 && (!(c.kind == 1) || (inR c.dst 0 3 && !(c.src == c.dst) && inR c.amt 1 1000))) := by
 unfold cmdCode
 cases inR c.src 0 3 <;> cases inR c.id 1 999 <;> cases c.kind == 1 <;> cases inR c.dst 0 3 <;> cases c.src == c.dst <;> cases inR c.amt 1 1000 <;> rfl
def smRows (xs : List TRow) : Prop := xs.length ≤ 10000000000 ∧ ∀ r ∈ xs, r.attr.deps.length ≤ 10000000000
def smTab (rows : List (List TRow)) : Prop := rows.length ≤ 10000000000 ∧ ∀ l ∈ rows, smRows l
theorem sz_row (r : TRow) : sz_TRow r = r.attr.deps.length := szL_zero
theorem smRows_of {xs : List TRow} (h : szL sz_TRow xs ≤ 1048576) : smRows xs := by
 refine ⟨Nat.le_trans (szL_len (f := sz_TRow)) (by omega), fun r hr => ?_⟩
 have h1 := szL_mem (f := sz_TRow) hr
 rw [sz_row] at h1
 omega
theorem smTab_of {rows : List (List TRow)} (h : szL (szL sz_TRow) rows ≤ 1048576) : smTab rows := by
 refine ⟨Nat.le_trans (szL_len (f := szL sz_TRow)) (by omega), fun l hl => smRows_of ?_⟩
 have h1 := szL_mem (f := szL sz_TRow) hl
 omega
def tabOk (t : TTable) : Bool := isGrp t.n && (t.rows.length : Int) == t.n && t.rows.all fun l => l.all (fun r => rowOk t.n r) && decide ((l.length : Int) ≤ 6)
def row0 (n : Int) : TRow := ⟨0, 0, 0, ⟨0, 0, 0, 0, 0⟩, none0 n⟩
def trow (t : TTable) (rep no : Int) : TRow := if no ≤ (atI t.rows rep).length then atI (atI t.rows rep) (no - 1) else row0 t.n
theorem S_nil : (rL ([] : List Int) = .rows 1 []) ∧ (rL ([] : List (List Int)) = .rows 1 []) ∧ (rL ([] : List TRow) = .rows 10 []) ∧ (rL ([] : List (List TRow)) = .rows 1 []) ∧ (rL ([] : List TLead) = .rows 16 []) ∧ (rL ([] : List TMsg) = .rows 15 []) ∧
  (rL ([] : List TAsk) = .rows 7 []) ∧ (rL ([] : List TTold) = .rows 2 []) := ⟨rfl, rfl, rfl, rfl, rfl, rfl, rfl, rfl⟩
theorem inst_rng {n rep no : Int} (h : inst n rep no = true) : 0 ≤ rep ∧ rep ≤ n - 1 ∧ 1 ≤ no ∧ no ≤ 6 := by
 simp only [inst, inR, Bool.and_eq_true, decide_eq_true_eq] at h
 omega
theorem tabOk_grp {t : TTable} (h : tabOk t = true) : isGrp t.n = true := by
 simp only [tabOk, Bool.and_eq_true] at h; exact h.1.1
theorem tabOk_len {t : TTable} (h : tabOk t = true) : (t.rows.length : Int) = t.n := by
 simp only [tabOk, Bool.and_eq_true, beq_iff_eq] at h; exact h.1.2
theorem tabOk_in {t : TTable} {rep no : Int} (h : tabOk t = true) (hi : inst t.n rep no = true) : InB t.rows rep := by
 have := tabOk_len h
 have := inst_rng hi
 unfold InB; omega
theorem tabOk_rows {t : TTable} (h : tabOk t = true) {l : List TRow} (hl : l ∈ t.rows) : l.length ≤ 6 ∧ ∀ r ∈ l, rowOk t.n r = true := by
 simp only [tabOk, Bool.and_eq_true, List.all_eq_true, decide_eq_true_eq] at h
 have := h.2 l hl
 exact ⟨by omega, this.1⟩
theorem rowOk_deps {n : Int} {r : TRow} (h : rowOk n r = true) (hg : isGrp n = true) : (r.attr.deps.length : Int) = n := by
 have h2 : attrOk n r.attr = true := by
  simp only [rowOk, Bool.and_eq_true] at h
  have h3 := h.2
  split at h3
  ·simp only [Bool.and_eq_true] at h3
   rw [of_decide_eq_true h3.2]
   exact none0_ok hg
  ·simp only [Bool.and_eq_true] at h3
   exact h3.2
 simp only [attrOk, Bool.and_eq_true, beq_iff_eq] at h2
 exact h2.1.2
theorem at_memI {α : Type} [Inhabited α] {xs : List α} {k : Int} (h : InB xs k) : atI xs k ∈ xs := by
 have h2 := h.lt
 have e : ((k.toNat : Nat) : Int) = k := by unfold InB at h; omega
 rw [← e]
 exact at_mem h2
theorem trow_ok {t : TTable} {rep no : Int} (h : tabOk t = true) (hi : inst t.n rep no = true) : rowOk t.n (trow t rep no) = true := by
 unfold trow
 have hb := tabOk_in h hi
 have hr := inst_rng hi
 split
 ·exact (tabOk_rows h (at_memI hb)).2 _ (at_memI (by unfold InB; omega))
 ·rcases isGrp_rng (tabOk_grp h) with e | e <;> rw [e] <;> rfl
theorem trow_deps {t : TTable} {rep no : Int} (h : tabOk t = true) (hi : inst t.n rep no = true) : ((trow t rep no).attr.deps.length : Int) = t.n := rowOk_deps (trow_ok h hi) (tabOk_grp h)
def ext (n : Int) (l : List TRow) (no : Int) : List TRow := l ++ List.replicate (no - l.length).toNat (row0 n)
def nb (b me : Int) : Int := if b < 8 + me then 8 + me else b + 1 + (me - b - 1) % 8
theorem inR_rng {x lo hi : Int} (h : inR x lo hi = true) : lo ≤ x ∧ x ≤ hi := by
 simpa [inR] using h
end Go.Proofs.Ytmpakpgonfnadaa.Rf

namespace Go.Proofs.Ytmpakpgonfnadaa.Rf
set_option linter.unusedVariables false
set_option linter.unusedSimpArgs false
end Go.Proofs.Ytmpakpgonfnadaa.Rf

namespace Go.Proofs.Ytmpakpgonfnadaa.Rf
set_option linter.unusedVariables false
set_option linter.unusedSimpArgs false
def putK (xs : List Int) (n : Int) : Nat := (xs.takeWhile fun x => decide (x < n)).length
def putM (xs : List Int) (n : Int) : List Int := if decide ((putK xs n : Int) < xs.length) && (atI xs (putK xs n : Nat) == n) then xs else xs.take (putK xs n) ++ [n] ++ xs.drop (putK xs n)
theorem putK_le (xs : List Int) (n : Int) : putK xs n ≤ xs.length := (List.takeWhile_sublist _).length_le
theorem putK_lt : ∀ {xs : List Int} {n : Int} {k : Nat}, k < putK xs n → atI xs (k : Int) < n
 | [], n, k, h => by simp [putK] at h
 | x :: xs, n, k, h => by
  unfold putK at h
  rw [List.takeWhile_cons] at h
  by_cases hx : x < n
  ·rw [if_pos (by simpa using hx)] at h
   cases k with
   | zero => exact hx
   | succ k => exact putK_lt (xs := xs) (k := k) (by simpa [putK] using h)
  ·rw [if_neg (by simpa using hx)] at h
   simp at h
theorem putK_ge : ∀ {xs : List Int} {n : Int}, putK xs n < xs.length → ¬ atI xs (putK xs n : Nat) < n
 | [], n, h => by simp at h
 | x :: xs, n, h => by
  unfold putK at h ⊢
  rw [List.takeWhile_cons] at h ⊢
  by_cases hx : x < n
  ·rw [if_pos (by simpa using hx)] at h ⊢
   exact putK_ge (xs := xs) (n := n) (by simpa [putK] using h)
  ·rw [if_neg (by simpa using hx)]
   exact hx
def comRowN (l : List TRow) (k : Int) (m : Nat) : List (List Int) := (List.range m).flatMap fun i : Nat => if (atI l (i : Int)).state == 3 then [[k, (i : Int) + 1]] else []
def comN (rows : List (List TRow)) (m : Nat) : List (List Int) := (List.range m).flatMap fun k : Nat => comRowN (atI rows (k : Int)) k (atI rows (k : Int)).length
def comM (rows : List (List TRow)) : List (List Int) := comN rows rows.length
theorem comRowN_succ (l : List TRow) (k : Int) (m : Nat) : comRowN l k (m + 1) = comRowN l k m ++ if (atI l (m : Int)).state == 3 then [[k, (m : Int) + 1]] else [] := by
 simp [comRowN, List.range_succ, List.flatMap_append]
theorem comN_succ (rows : List (List TRow)) (m : Nat) : comN rows (m + 1) = comN rows m ++ comRowN (atI rows (m : Int)) m (atI rows (m : Int)).length := by
 simp [comN, List.range_succ, List.flatMap_append]
theorem comRowN_len (l : List TRow) (k : Int) : ∀ m, (comRowN l k m).length ≤ m
 | 0 => by simp [comRowN]
 | m + 1 => by
  have := comRowN_len l k m
  rw [comRowN_succ, List.length_append]
  split <;> simp <;> omega
theorem comN_len {rows : List (List TRow)} (h : ∀ l ∈ rows, l.length ≤ 6) : ∀ {m}, m ≤ rows.length → (comN rows m).length ≤ 6 * m
 | 0, _ => by simp [comN]
 | m + 1, hm => by
  have h1 := comN_len h (m := m) (by omega)
  have h2 := comRowN_len (atI rows (m : Int)) m (atI rows (m : Int)).length
  have h3 := h _ (at_mem (show m < rows.length by omega))
  rw [comN_succ, List.length_append]
  omega
theorem comM_mem {rows : List (List TRow)} {x : List Int} (h : x ∈ comM rows) : ∃ k i : Nat, k < rows.length ∧ i < (atI rows (k : Int)).length ∧ x = [(k : Int), (i : Int) + 1] ∧ (atI (atI rows (k : Int)) (i : Int)).state = 3 := by
 unfold comM comN comRowN at h
 simp only [List.mem_flatMap, List.mem_range] at h
 obtain ⟨k, hk, i, hi, hx⟩ := h
 split at hx
 ·rename_i hs
  exact ⟨k, i, hk, hi, by simpa using hx, by simpa using hs⟩
 ·cases hx
theorem comM_spec {t : TTable} (ht : tabOk t = true) {x : List Int} (h : x ∈ comM t.rows) : InB x 0 ∧ InB x 1 ∧ x.length = 2 ∧ inst t.n (atI x 0) (atI x 1) = true ∧ (trow t (atI x 0) (atI x 1)).state = 3 := by
 obtain ⟨k, i, hk, hi, rfl, hs⟩ := comM_mem h
 have h1 := (tabOk_rows ht (at_mem hk)).1
 have h2 := tabOk_len ht
 refine ⟨by unfold InB; simp, by unfold InB; simp, rfl, ?_, ?_⟩
 ·simp only [atI, inst, inR, Bool.and_eq_true, decide_eq_true_eq]
  simp
  omega
 ·show (trow t (k : Int) ((i : Int) + 1)).state = 3
  unfold trow
  rw [if_pos (by omega), show (i : Int) + 1 - 1 = i by omega]
  exact hs
theorem trow_in {t : TTable} (ht : tabOk t = true) {x y : List Int} (hx : inst t.n (atI x 0) (atI x 1) = true) (hy : inst t.n (atI y 0) (atI y 1) = true) : InB (trow t (atI x 0) (atI x 1)).attr.deps (atI y 0) := by
 have h1 := trow_deps ht hx
 have h2 := inst_rng hy
 unfold InB
 omega
end Go.Proofs.Ytmpakpgonfnadaa.Rf

namespace Go.Proofs.Ytmpakpgonfnadaa.Rf
set_option linter.unusedVariables false
set_option linter.unusedSimpArgs false
end Go.Proofs.Ytmpakpgonfnadaa.Rf

namespace Go.Proofs.Ytmpakpgonfnadaa.Rf
set_option linter.unusedVariables false
set_option linter.unusedSimpArgs false
def findM (l : List (List Int)) (x : List Int) : Int := ixF (fun y => decide (x = y)) l
def depRow (k : Int) (rep no : Int) (m : Nat) : List (List Int) := (List.range m).flatMap fun i : Nat => if !(k == rep) || !((i : Int) + 1 == no) then [[k, (i : Int) + 1]] else []
def depN (deps : List Int) (rep no : Int) (m : Nat) : List (List Int) := (List.range m).flatMap fun k : Nat => depRow k rep no (atI deps (k : Int)).toNat
theorem depRow_succ (k rep no : Int) (m : Nat) : depRow k rep no (m + 1) = depRow k rep no m ++ if !(k == rep) || !((m : Int) + 1 == no) then [[k, (m : Int) + 1]] else [] := by
 simp [depRow, List.range_succ, List.flatMap_append]
theorem depN_succ (deps : List Int) (rep no : Int) (m : Nat) : depN deps rep no (m + 1) = depN deps rep no m ++ depRow m rep no (atI deps (m : Int)).toNat := by
 simp [depN, List.range_succ, List.flatMap_append]
def depM (t : TTable) (rep no : Int) : List (List Int) := depN (trow t rep no).attr.deps rep no (trow t rep no).attr.deps.length
theorem depRow_len (k rep no : Int) : ∀ m, (depRow k rep no m).length ≤ m
 | 0 => by simp [depRow]
 | m + 1 => by
  have := depRow_len k rep no m
  rw [depRow_succ, List.length_append]
  split <;> simp <;> omega
theorem depN_len {deps : List Int} {rep no : Int} (h : ∀ d ∈ deps, d ≤ 6) : ∀ {m}, m ≤ deps.length → (depN deps rep no m).length ≤ 6 * m
 | 0, _ => by simp [depN]
 | m + 1, hm => by
  have h1 := depN_len (rep := rep) (no := no) h (m := m) (by omega)
  have h2 := depRow_len (m : Int) rep no (atI deps (m : Int)).toNat
  have h3 := h _ (at_mem (show m < deps.length by omega))
  rw [depN_succ, List.length_append]
  omega
theorem rowOk_dep6 {n : Int} {r : TRow} (h : rowOk n r = true) (hg : isGrp n = true) : ∀ d ∈ r.attr.deps, 0 ≤ d ∧ d ≤ 6 := by
 have h2 : attrOk n r.attr = true := by
  simp only [rowOk, Bool.and_eq_true] at h
  have h3 := h.2
  split at h3
  ·simp only [Bool.and_eq_true] at h3
   rw [of_decide_eq_true h3.2]
   exact none0_ok hg
  ·simp only [Bool.and_eq_true] at h3
   exact h3.2
 simp only [attrOk, Bool.and_eq_true, List.all_eq_true] at h2
 exact fun d hd => inR_rng (h2.2 d hd)
theorem depN_mem {deps : List Int} {rep no : Int} {m : Nat} {y : List Int} : y ∈ depN deps rep no m ↔ ∃ k i : Nat, k < m ∧ (i : Int) < atI deps (k : Int) ∧ ¬((k : Int) = rep ∧ (i : Int) + 1 = no) ∧ y = [(k : Int), (i : Int) + 1] := by
 unfold depN depRow
 simp only [List.mem_flatMap, List.mem_range]
 constructor
 ·rintro ⟨k, hk, i, hi, hy⟩
  split at hy
  ·rename_i hc
   refine ⟨k, i, hk, by omega, ?_, by simpa using hy⟩
   simp only [Bool.or_eq_true, Bool.not_eq_true', beq_eq_false_iff_ne, ne_eq] at hc
   omega
  ·cases hy
 ·rintro ⟨k, i, hk, hi, hne, rfl⟩
  refine ⟨k, hk, i, by omega, ?_⟩
  rw [if_pos]
  ·simp
  ·simp only [Bool.or_eq_true, Bool.not_eq_true', beq_eq_false_iff_ne, ne_eq]
   omega
def Rising (xs : List Int) : Prop := xs.Pairwise (· < ·)
theorem rising_ext : ∀ {xs ys : List Int}, Rising xs → Rising ys → (∀ x, x ∈ xs ↔ x ∈ ys) → xs = ys
 | [], [], _, _, _ => rfl
 | [], y :: ys, _, _, h => by have := (h y).2 List.mem_cons_self; cases this
 | x :: xs, [], _, _, h => by have := (h x).1 List.mem_cons_self; cases this
 | x :: xs, y :: ys, hx, hy, h => by
  unfold Rising at hx hy
  rw [List.pairwise_cons] at hx hy
  have e : x = y := by
   rcases List.mem_cons.1 ((h x).1 List.mem_cons_self) with h1 | h1
   ·exact h1
   ·rcases List.mem_cons.1 ((h y).2 List.mem_cons_self) with h2 | h2
    ·exact h2.symm
    ·have := hx.1 y h2
     have := hy.1 x h1
     omega
  subst e
  congr 1
  refine rising_ext hx.2 hy.2 fun z => ?_
  constructor
  ·intro hz
   rcases List.mem_cons.1 ((h z).1 (List.mem_cons_of_mem _ hz)) with h1 | h1
   ·subst h1
    exact absurd (hx.1 z hz) (by omega)
   ·exact h1
  ·intro hz
   rcases List.mem_cons.1 ((h z).2 (List.mem_cons_of_mem _ hz)) with h1 | h1
   ·subst h1
    exact absurd (hy.1 z hz) (by omega)
   ·exact h1
theorem putM_cons {x n : Int} {xs : List Int} : putM (x :: xs) n = if x < n then x :: putM xs n else if x == n then x :: xs else n :: x :: xs := by
 by_cases h : x < n
 ·rw [if_pos h]
  have e : putK (x :: xs) n = putK xs n + 1 := by simp [putK, h]
  have ea : atI (x :: xs) ((putK xs n + 1 : Nat) : Int) = atI xs (putK xs n : Nat) := by
   rw [atI_nat, atI_nat, List.getD_cons_succ]
  have el : decide (((putK xs n + 1 : Nat) : Int) < (x :: xs).length) = decide (((putK xs n : Nat) : Int) < xs.length) := by
   simp only [List.length_cons, decide_eq_decide]; omega
  unfold putM
  rw [e, ea, el]
  split
  ·rfl
  ·simp
 ·rw [if_neg h]
  have e : putK (x :: xs) n = 0 := by simp [putK, h]
  unfold putM
  rw [e]
  have ea : atI (x :: xs) ((0 : Nat) : Int) = x := rfl
  rw [ea]
  have el : decide (((0 : Nat) : Int) < (x :: xs).length) = true := by simp
  rw [el, Bool.true_and]
  split
  ·rfl
  ·simp
theorem putM_mem : ∀ {xs : List Int} {n x : Int}, x ∈ putM xs n ↔ x ∈ xs ∨ x = n
 | [], n, x => by simp [putM, putK]
 | y :: ys, n, x => by
  rw [putM_cons]
  split
  ·rw [List.mem_cons, putM_mem, List.mem_cons, or_assoc]
  ·split
   ·rename_i h
    have : y = n := by simpa using h
    subst this
    simp [or_comm]
   ·simp only [List.mem_cons]
    constructor
    ·rintro (h | h | h)
     ·exact .inr h
     ·exact .inl (.inl h)
     ·exact .inl (.inr h)
    ·rintro ((h | h) | h)
     ·exact .inr (.inl h)
     ·exact .inr (.inr h)
     ·exact .inl h
theorem putM_rising : ∀ {xs : List Int} {n : Int}, Rising xs → Rising (putM xs n)
 | [], n, _ => by simp [putM, putK, Rising]
 | y :: ys, n, h => by
  have h' := h
  unfold Rising at h
  rw [List.pairwise_cons] at h
  rw [putM_cons]
  split
  ·unfold Rising
   rw [List.pairwise_cons]
   refine ⟨fun z hz => ?_, putM_rising h.2⟩
   rcases putM_mem.1 hz with h1 | h1
   ·exact h.1 z h1
   ·omega
  ·split
   ·exact h'
   ·rename_i h1 h2
    have : y ≠ n := by simpa using h2
    unfold Rising
    rw [List.pairwise_cons]
    refine ⟨fun z hz => ?_, h'⟩
    rcases List.mem_cons.1 hz with h3 | h3
    ·omega
    ·have := h.1 z h3
     omega
theorem putM_len (xs : List Int) (n : Int) : (putM xs n).length ≤ xs.length + 1 := by
 unfold putM
 split
 ·omega
 ·simp only [List.length_append, List.length_cons, List.length_nil, List.length_take, List.length_drop]; omega
def putN (pts ys : List (List Int)) : Nat → List Int
 | 0 => []
 | m + 1 => if decide (0 ≤ findM pts (atI ys (m : Int))) then putM (putN pts ys m) (findM pts (atI ys (m : Int))) else putN pts ys m
theorem putN_succ (pts ys : List (List Int)) (m : Nat) : putN pts ys (m + 1) = if decide (0 ≤ findM pts (atI ys (m : Int))) then putM (putN pts ys m) (findM pts (atI ys (m : Int))) else putN pts ys m := rfl
theorem putN_rising (pts ys : List (List Int)) : ∀ m, Rising (putN pts ys m)
 | 0 => List.Pairwise.nil
 | m + 1 => by
  rw [putN_succ]
  split
  ·exact putM_rising (putN_rising pts ys m)
  ·exact putN_rising pts ys m
theorem putN_len (pts ys : List (List Int)) : ∀ m, (putN pts ys m).length ≤ m
 | 0 => by simp [putN]
 | m + 1 => by
  have := putN_len pts ys m
  rw [putN_succ]
  split
  ·have := putM_len (putN pts ys m) (findM pts (atI ys (m : Int)))
   omega
  ·omega
theorem putN_mem {pts ys : List (List Int)} : ∀ {m : Nat} {j : Int}, j ∈ putN pts ys m ↔ ∃ i, i < m ∧ 0 ≤ findM pts (atI ys (i : Nat)) ∧ findM pts (atI ys (i : Nat)) = j
 | 0, j => by simp [putN]
 | m + 1, j => by
  rw [putN_succ]
  split
  ·rename_i h
   have h' : 0 ≤ findM pts (atI ys (m : Int)) := by simpa using h
   rw [putM_mem, putN_mem]
   constructor
   ·rintro (⟨i, h1, h2⟩ | h1)
    ·exact ⟨i, by omega, h2⟩
    ·exact ⟨m, by omega, h', h1.symm⟩
   ·rintro ⟨i, h1, h2, h3⟩
    rcases Nat.lt_or_ge i m with h4 | h4
    ·exact .inl ⟨i, h4, h2, h3⟩
    ·obtain rfl : i = m := by omega
     exact .inr h3.symm
  ·rename_i h
   have h' : ¬ 0 ≤ findM pts (atI ys (m : Int)) := by simpa using h
   rw [putN_mem]
   constructor
   ·rintro ⟨i, h1, h2⟩; exact ⟨i, by omega, h2⟩
   ·rintro ⟨i, h1, h2, h3⟩
    rcases Nat.lt_or_ge i m with h4 | h4
    ·exact ⟨i, h4, h2, h3⟩
    ·obtain rfl : i = m := by omega
     exact absurd h2 h'
def hangB (pts : List (List Int)) (deps : List Int) (x : List Int) (j : Nat) : Bool := !decide (x = atI pts (j : Int)) && decide (atI (atI pts (j : Int)) 1 ≤ atI deps (atI (atI pts (j : Int)) 0))
def hangN (pts : List (List Int)) (deps : List Int) (x : List Int) (m : Nat) : List Int := (List.range m).flatMap fun j : Nat => if hangB pts deps x j then [(j : Int)] else []
theorem hangN_succ (pts : List (List Int)) (deps : List Int) (x : List Int) (m : Nat) : hangN pts deps x (m + 1) = hangN pts deps x m ++ if hangB pts deps x m then [(m : Int)] else [] := by
 simp [hangN, List.range_succ, List.flatMap_append]
theorem hangN_len (pts : List (List Int)) (deps : List Int) (x : List Int) : ∀ m, (hangN pts deps x m).length ≤ m
 | 0 => by simp [hangN]
 | m + 1 => by
  have := hangN_len pts deps x m
  rw [hangN_succ, List.length_append]
  split <;> simp <;> omega
theorem hangN_mem {pts : List (List Int)} {deps : List Int} {x : List Int} {m : Nat} {j : Int} : j ∈ hangN pts deps x m ↔ ∃ k : Nat, k < m ∧ hangB pts deps x k = true ∧ (k : Int) = j := by
 unfold hangN
 simp only [List.mem_flatMap, List.mem_range]
 constructor
 ·rintro ⟨k, hk, h⟩
  split at h
  ·rename_i hb
   have : j = (k : Int) := by simpa using h
   exact ⟨k, hk, hb, this.symm⟩
  ·cases h
 ·rintro ⟨k, hk, hb, rfl⟩
  exact ⟨k, hk, by rw [if_pos hb]; simp⟩
theorem hangN_rising (pts : List (List Int)) (deps : List Int) (x : List Int) : ∀ m, Rising (hangN pts deps x m)
 | 0 => by simp [hangN, Rising]
 | m + 1 => by
  rw [hangN_succ]
  unfold Rising
  rw [List.pairwise_append]
  refine ⟨hangN_rising pts deps x m, by split <;> simp, fun a ha b hb => ?_⟩
  obtain ⟨k, hk, -, rfl⟩ := hangN_mem.1 ha
  split at hb
  ·have : b = (m : Int) := by simpa using hb
   omega
  ·cases hb
theorem ixF_spec {α : Type} [Inhabited α] {p : α → Bool} {xs : List α} (h : 0 ≤ ixF p xs) : InB xs (ixF p xs) ∧ p (atI xs (ixF p xs)) = true ∧ ∀ k : Nat, (k : Int) < ixF p xs → p (atI xs (k : Int)) = false := by
 unfold ixF at h ⊢
 cases e : xs.findIdx? p with
 | none => rw [e] at h; simp at h
 | some i =>
  rw [List.findIdx?_eq_some_iff_getElem] at e
  obtain ⟨hi, hp, hmin⟩ := e
  refine ⟨InB_nat.2 hi, by simp only; rw [atI_get hi]; exact hp, fun k hk => ?_⟩
  have hk' : k < i := by simp only at hk; omega
  rw [atI_get (by omega)]
  have := hmin k hk'
  simpa using this
theorem ixF_ge {α : Type} [Inhabited α] {p : α → Bool} {xs : List α} {k : Nat} (hk : k < xs.length) (hp : p (atI xs (k : Int)) = true) : 0 ≤ ixF p xs := by
 have h : xs.any p = true := List.any_eq_true.2 ⟨_, at_mem hk, hp⟩
 rw [← ixF_any] at h
 exact of_decide_eq_true h
theorem findM_spec {l : List (List Int)} {x : List Int} (h : 0 ≤ findM l x) : InB l (findM l x) ∧ x = atI l (findM l x) ∧ ∀ k : Nat, (k : Int) < findM l x → ¬ x = atI l (k : Int) := by
 obtain ⟨h1, h2, h3⟩ := ixF_spec (p := fun y => decide (x = y)) h
 exact ⟨h1, of_decide_eq_true h2, fun k hk => of_decide_eq_false (h3 k hk)⟩
theorem comRowN_at {l : List TRow} {k : Int} {m : Nat} {y : List Int} (h : y ∈ comRowN l k m) : ∃ i : Nat, i < m ∧ y = [k, (i : Int) + 1] := by
 unfold comRowN at h
 simp only [List.mem_flatMap, List.mem_range] at h
 obtain ⟨i, hi, h⟩ := h
 split at h
 ·exact ⟨i, hi, by simpa using h⟩
 ·cases h
theorem comRowN_nodup (l : List TRow) (k : Int) : ∀ m, (comRowN l k m).Nodup
 | 0 => by simp [comRowN]
 | m + 1 => by
  rw [comRowN_succ, List.nodup_append]
  refine ⟨comRowN_nodup l k m, by split <;> simp, fun a ha b hb => ?_⟩
  obtain ⟨i, hi, rfl⟩ := comRowN_at ha
  split at hb
  ·have : b = [k, (m : Int) + 1] := by simpa using hb
   rw [this]
   simp
   omega
  ·cases hb
theorem comN_nodup (rows : List (List TRow)) : ∀ m, (comN rows m).Nodup
 | 0 => by simp [comN]
 | m + 1 => by
  rw [comN_succ, List.nodup_append]
  refine ⟨comN_nodup rows m, comRowN_nodup .., fun a ha b hb => ?_⟩
  obtain ⟨i, hi, rfl⟩ := comRowN_at hb
  unfold comN at ha
  simp only [List.mem_flatMap, List.mem_range] at ha
  obtain ⟨k, hk, ha⟩ := ha
  obtain ⟨i', hi', rfl⟩ := comRowN_at ha
  simp
  omega
theorem graph_row {t : TTable} (ht : tabOk t = true) {x : List Int} (hx : x ∈ comM t.rows) :
  putN (comM t.rows) (depM t (atI x 0) (atI x 1)) (depM t (atI x 0) (atI x 1)).length = hangN (comM t.rows) (trow t (atI x 0) (atI x 1)).attr.deps x (comM t.rows).length := by
 refine rising_ext (putN_rising ..) (hangN_rising ..) fun j => ?_
 rw [putN_mem, hangN_mem]
 obtain ⟨-, -, hlen, hinst, -⟩ := comM_spec ht hx
 have hdl := trow_deps ht hinst
 have hxe : x = [atI x 0, atI x 1] := by
  match x, hlen with
  | [a, b], _ => rfl
 have hnd : (comM t.rows).Nodup := comN_nodup ..
 have htl := tabOk_len ht
 constructor
 ·rintro ⟨i, hi, h0, rfl⟩
  have hy : atI (depM t (atI x 0) (atI x 1)) (i : Int) ∈ depM t (atI x 0) (atI x 1) := at_mem hi
  generalize atI (depM t (atI x 0) (atI x 1)) (i : Int) = y at hy h0 ⊢
  obtain ⟨hb, hye, -⟩ := findM_spec h0
  have hk := hb.lt
  refine ⟨(findM (comM t.rows) y).toNat, hk, ?_, by omega⟩
  have e : (((findM (comM t.rows) y).toNat : Nat) : Int) = findM (comM t.rows) y := by omega
  unfold hangB
  rw [e, ← hye]
  obtain ⟨k, i', h1, h2, h3, rfl⟩ := depN_mem.1 hy
  have a0 : atI [(k : Int), (i' : Int) + 1] 0 = k := rfl
  have a1 : atI [(k : Int), (i' : Int) + 1] 1 = (i' : Int) + 1 := rfl
  rw [a0, a1]
  simp only [Bool.and_eq_true, Bool.not_eq_true', decide_eq_false_iff_not, decide_eq_true_eq]
  refine ⟨fun h => ?_, by omega⟩
  rw [hxe] at h
  simp only [List.cons.injEq, and_true] at h
  exact h3 ⟨h.1.symm, h.2.symm⟩
 ·rintro ⟨k, hk, hb, rfl⟩
  obtain ⟨k', i', h1, h2, h3, h4⟩ := comM_mem (at_mem hk)
  unfold hangB at hb
  rw [h3] at hb
  have a0 : atI [(k' : Int), (i' : Int) + 1] 0 = k' := rfl
  have a1 : atI [(k' : Int), (i' : Int) + 1] 1 = (i' : Int) + 1 := rfl
  rw [a0, a1] at hb
  simp only [Bool.and_eq_true, Bool.not_eq_true', decide_eq_false_iff_not, decide_eq_true_eq] at hb
  have hmem : [(k' : Int), (i' : Int) + 1] ∈ depM t (atI x 0) (atI x 1) := by
   refine depN_mem.2 ⟨k', i', by omega, by omega, fun h => hb.1 ?_, rfl⟩
   rw [hxe, ← h.1, ← h.2]
  obtain ⟨q, hq, he⟩ := List.getElem_of_mem hmem
  have hq' : atI (depM t (atI x 0) (atI x 1)) (q : Int) = atI (comM t.rows) (k : Int) := by rw [atI_get hq, he, h3]
  have h0 : 0 ≤ findM (comM t.rows) (atI (comM t.rows) (k : Int)) := ixF_ge hk (by simp)
  refine ⟨q, hq, by rw [hq']; exact h0, ?_⟩
  rw [hq']
  obtain ⟨hb2, hp', -⟩ := findM_spec h0
  generalize findM (comM t.rows) (atI (comM t.rows) (k : Int)) = f at *
  have hf := hb2.lt
  have e : ((f.toNat : Nat) : Int) = f := by unfold InB at hb2; omega
  rw [← e, atI_get hk, atI_get hf] at hp'
  have := (List.getElem_inj hnd).1 hp'
  omega
def graphN (t : TTable) (m : Nat) : List (List Int) := (List.range m).map fun i : Nat => hangN (comM t.rows) (trow t (atI (atI (comM t.rows) (i : Int)) 0) (atI (atI (comM t.rows) (i : Int)) 1)).attr.deps (atI (comM t.rows) (i : Int)) (comM t.rows).length
def graphM (t : TTable) : List (List Int) := graphN t (comM t.rows).length
theorem graphN_succ (t : TTable) (m : Nat) : graphN t (m + 1) = graphN t m ++ [hangN (comM t.rows) (trow t (atI (atI (comM t.rows) (m : Int)) 0) (atI (atI (comM t.rows) (m : Int)) 1)).attr.deps (atI (comM t.rows) (m : Int)) (comM t.rows).length] := by
 simp [graphN, List.range_succ]
theorem graphN_len (t : TTable) (m : Nat) : (graphN t m).length = m := by simp [graphN]
def graphR (t : TTable) : List (List Int) × List (List Int) × Bool := if tabOk t && decide (((comM t.rows).length : Int) ≤ 40) then (comM t.rows, graphM t, true) else ([], [], false)
theorem graphR_sz (t : TTable) : szL (szL fun _ => 0) (graphR t).1 ≤ 10000 ∧ szL (szL fun _ => 0) (graphR t).2.1 ≤ 10000 := by
 have key : ∀ (l : List (List Int)) (a b : Nat), l.length ≤ a → (∀ x ∈ l, x.length ≤ b) → szL (szL fun _ => 0) l ≤ a * (1 + b) := by
  intro l
  induction l with
  | nil => intro a b _ _; simp [szL]
  | cons x l ih =>
   intro a b h1 h2
   rw [szL_cons, szL_zero]
   cases a with
   | zero => simp at h1
   | succ a =>
    have := ih a b (by simpa using h1) fun y hy => h2 y (List.mem_cons_of_mem _ hy)
    have := h2 x List.mem_cons_self
    rw [Nat.succ_mul]
    omega
 unfold graphR
 split
 ·rename_i h
  simp only [Bool.and_eq_true, decide_eq_true_eq] at h
  have hl : (comM t.rows).length ≤ 40 := by omega
  refine ⟨Nat.le_trans (key _ 40 2 hl fun x hx => ?_) (by omega), Nat.le_trans (key _ 40 40 (by simp only [graphM, graphN_len]; exact hl) fun x hx => ?_) (by omega)⟩
  ·have := (comM_spec h.1 hx).2.2.1
   omega
  ·unfold graphM graphN at hx
   simp only [List.mem_map, List.mem_range] at hx
   obtain ⟨i, hi, rfl⟩ := hx
   exact Nat.le_trans (hangN_len ..) hl
 ·simp [szL]
end Go.Proofs.Ytmpakpgonfnadaa.Rf

namespace Go.Proofs.Ytmpakpgonfnadaa.Rf
set_option linter.unusedVariables false
set_option linter.unusedSimpArgs false
section
variable {T : Nat → Ent} {β : Type}
end
end Go.Proofs.Ytmpakpgonfnadaa.Rf

namespace Go.Proofs.Ytmpakpgonfnadaa.Rf
set_option linter.unusedVariables false
set_option linter.unusedSimpArgs false
end Go.Proofs.Ytmpakpgonfnadaa.Rf

namespace Go.Proofs.Ytmpakpgonfnadaa.Rf
set_option linter.unusedVariables false
set_option linter.unusedSimpArgs false
end Go.Proofs.Ytmpakpgonfnadaa.Rf
