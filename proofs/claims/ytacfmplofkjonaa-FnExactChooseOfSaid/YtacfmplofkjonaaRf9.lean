/- Terms for the program's functions, and that they are right: part 9 of 9. -/
import Derived.Test.YtacfmplofkjonaaRf8
set_option linter.unusedSimpArgs false
set_option linter.unusedVariables false
set_option linter.unnecessarySimpa false
set_option linter.unusedSectionVars false
/- Loops over typed lists. Nothing of Go here. -/
namespace Go.Proofs.Ytacfmplofkjonaa.Rf
set_option linter.unusedVariables false
set_option linter.unusedSimpArgs false

section
variable {T : Nat → Ent} {β : Type} {α : Type} [Inhabited α]
/-- What one round does: on with a state, or out. -/
inductive Rd1 (σ : Type) where
  | go (s : σ)
  | out (r : Kind × List D)
def foldX {σ : Type} (f : Nat → α → σ → Rd1 σ) : Nat → List α → σ → Rd1 σ
  | _, [], s => .go s
  | i, x :: xs, s => match f i x s with
    | .go s' => foldX f (i + 1) xs s'
    | .out r => .out r
def rndK {σ : Type} (vs : Int → σ → List D) (i : Int) : Rd1 σ → Kind × List D
  | .go s => (.cont, vs (i + 1) s)
  | .out r => r
/-- A loop over the places of a list, with a state; it may end early. -/
theorem loopX {σ : Type} {body : Tm β} {ρ : List D} {init : List Atom} (xs : List α) (vs : Int → σ → List D) (s0 : σ) (f : Nat → α → σ → Rd1 σ) (inv : Nat → σ → Prop) (fin : σ → Kind × List D)
    (h0 : init.map (·.val ρ) = vs 0 s0) (hi : inv 0 s0)
    (h1 : ∀ (i : Nat) s, i < xs.length → inv i s → Er T body (ρ ++ vs i s) = some (rndK vs i (f i (atI xs i) s)) ∧ (∀ s', f i (atI xs i) s = .go s' → inv (i + 1) s') ∧ ∀ r, f i (atI xs i) s = .out r → r.1 ≠ .cont)
    (h2 : ∀ s, inv xs.length s → Er T body (ρ ++ vs xs.length s) = some (fin s) ∧ (fin s).1 ≠ .cont) :
    ∃ r, Er T (.loop init body) ρ = some r ∧ ((∃ s, foldX f 0 xs s0 = .go s ∧ inv xs.length s ∧ r = fin s) ∨ foldX f 0 xs s0 = .out r) := by
  have key := loopR (T := T) (body := body) (ρ := ρ) (γ := Nat × σ) (fun c => xs.length - c.1) (fun c => c.1 ≤ xs.length ∧ inv c.1 c.2 ∧ foldX f c.1 (xs.drop c.1) c.2 = foldX f 0 xs s0) (fun c => vs (c.1 : Int) c.2)
    (fun r => (∃ s, foldX f 0 xs s0 = .go s ∧ inv xs.length s ∧ r = fin s) ∨ foldX f 0 xs s0 = .out r)
    (fun ⟨i, s⟩ ⟨hle, hv, hf⟩ => by
      simp only at hle hv hf ⊢
      rcases Nat.lt_or_ge i xs.length with hlt | hge
      · obtain ⟨h3, h4, h5⟩ := h1 i s hlt hv
        have hd : xs.drop i = atI xs i :: xs.drop (i + 1) := by
          rw [List.drop_eq_getElem_cons hlt, atI_get hlt]
        rw [hd, foldX] at hf
        refine ⟨_, h3, ?_⟩
        cases e : f i (atI xs i) s with
        | go s' =>
          rw [e] at hf
          exact .inl ⟨rfl, (i + 1, s'), ⟨by simp only; omega, h4 s' e, hf⟩, by simp only; omega, rfl⟩
        | out r =>
          rw [e] at hf
          exact .inr ⟨h5 r e, .inr hf.symm⟩
      · obtain rfl : i = xs.length := by omega
        obtain ⟨h3, h4⟩ := h2 s hv
        rw [List.drop_length, foldX] at hf
        exact ⟨_, h3, .inr ⟨h4, .inl ⟨s, hf.symm, hv, rfl⟩⟩⟩)
    xs.length (0, s0) (by simp) ⟨by simp, hi, by simp⟩ init h0
  exact key

/-- All places are looked at; at the first that is not right the function returns. -/
theorem scanX {body : Tm β} {ρ : List D} (j : Nat) (n : Nat) (p : Nat → Bool) (r : List D)
    (h1 : ∀ i : Nat, i < n → p i = true → Er T body (ρ ++ [i64 i]) = some (.cont, [i64 ((i : Int) + 1)]))
    (h2 : ∀ i : Nat, i < n → p i = false → Er T body (ρ ++ [i64 i]) = some (.ret, r))
    (h3 : Er T body (ρ ++ [i64 n]) = some (.yield j, [])) :
    Er T (.loop [.c (i64 0)] body) ρ = forkT (allB p n) (some (.yield j, [])) (some (.ret, r)) := by
  have key := loopR (T := T) (body := body) (ρ := ρ) (fun i => n - i) (fun i => i ≤ n ∧ ∀ j, j < i → p j = true) (fun i => [i64 (i : Nat)])
    (fun q => (∀ j, j < n → p j = true) ∧ q = (.yield j, []) ∨ (∃ j, j < n ∧ p j = false) ∧ q = (.ret, r))
    (fun i ⟨hi, hall⟩ => by
      rcases Nat.lt_or_ge i n with hlt | hge
      · cases e : p i with
        | true => exact ⟨_, h1 i hlt e, .inl ⟨rfl, i + 1, ⟨by omega, fun j hj => by
            rcases Nat.lt_or_ge j i with h | h
            · exact hall j h
            · obtain rfl : j = i := by omega
              exact e⟩, by omega, rfl⟩⟩
        | false => exact ⟨_, h2 i hlt e, .inr ⟨by simp, .inr ⟨⟨i, hlt, e⟩, rfl⟩⟩⟩
      · obtain rfl : i = n := by omega
        exact ⟨_, h3, .inr ⟨by simp, .inl ⟨hall, rfl⟩⟩⟩)
    n 0 (by omega) ⟨by omega, fun j hj => by omega⟩ [.c (i64 0)] (by simp [Atom.val])
  obtain ⟨q, h4, h5⟩ := key
  rw [h4]
  rcases h5 with ⟨h6, rfl⟩ | ⟨h6, rfl⟩
  · rw [allB_true.2 h6]; rfl
  · rw [allB_false.2 h6]; rfl
theorem allB_all (xs : List α) (p : α → Bool) : allB (fun i => p (atI xs i)) xs.length = xs.all p := by
  cases e : xs.all p with
  | true =>
    rw [List.all_eq_true] at e
    rw [allB_true]
    intro i hi
    rw [atI_get hi]
    exact e _ (List.getElem_mem hi)
  | false =>
    rw [List.all_eq_false] at e
    obtain ⟨x, hx, hp⟩ := e
    obtain ⟨i, hi, rfl⟩ := List.getElem_of_mem hx
    exact allB_false.2 ⟨i, hi, by rw [atI_get hi]; simpa using hp⟩
theorem allB_eq [DecidableEq α] {xs ys : List α} (hl : xs.length = ys.length) : allB (fun i => decide (atI xs i = atI ys i)) xs.length = decide (xs = ys) := by
  by_cases e : xs = ys
  · subst e
    rw [decide_eq_true rfl, allB_true]
    exact fun i _ => decide_eq_true rfl
  · rw [decide_eq_false e]
    cases h : allB (fun i => decide (atI xs i = atI ys i)) xs.length with
    | false => rfl
    | true =>
      rw [allB_true] at h
      refine absurd (List.ext_getElem hl fun i h1 h2 => ?_) e
      have := of_decide_eq_true (h i h1)
      rwa [atI_get h1, atI_get h2] at this
theorem eq_len {xs ys : List α} [DecidableEq α] (h : ¬ xs.length = ys.length) : decide (xs = ys) = false := decide_eq_false fun e => h (by rw [e])
/-- All elements are looked at. -/
theorem allX {body : Tm β} {ρ : List D} (j : Nat) (xs : List α) (p : α → Bool) (r : List D)
    (h1 : ∀ i : Nat, i < xs.length → InB xs (i : Int) → decide ((i : Int) < xs.length) = true → p (atI xs i) = true → Er T body (ρ ++ [i64 i]) = some (.cont, [i64 ((i : Int) + 1)]))
    (h2 : ∀ i : Nat, i < xs.length → InB xs (i : Int) → decide ((i : Int) < xs.length) = true → p (atI xs i) = false → Er T body (ρ ++ [i64 i]) = some (.ret, r))
    (h3 : decide ((xs.length : Int) < xs.length) = false → Er T body (ρ ++ [i64 xs.length]) = some (.yield j, [])) :
    Er T (.loop [.c (i64 0)] body) ρ = forkT (xs.all p) (some (.yield j, [])) (some (.ret, r)) := by
  rw [scanX j xs.length (fun i => p (atI xs i)) r (fun i hi hp => h1 i hi (InB_nat.2 hi) (by simp; omega) hp) (fun i hi hp => h2 i hi (InB_nat.2 hi) (by simp; omega) hp) (h3 (by simp)), allB_all]

omit [Inhabited α] in
theorem scanF {body : Tm β} {ρ : List D} (j : Nat) (n : Nat) (p : Nat → Bool) (r : List D)
    (h1 : ∀ i : Nat, i < n → decide ((i : Int) < n) = true → Er T body (ρ ++ [i64 i]) = forkT (p i) (some (.cont, [i64 ((i : Int) + 1)])) (some (.ret, r)))
    (h3 : decide ((n : Int) < n) = false → Er T body (ρ ++ [i64 n]) = some (.yield j, [])) :
    Er T (.loop [.c (i64 0)] body) ρ = forkT (allB p n) (some (.yield j, [])) (some (.ret, r)) :=
  scanX j n p r (fun i hi hp => by rw [h1 i hi (by simp; omega), hp]; rfl) (fun i hi hp => by rw [h1 i hi (by simp; omega), hp]; rfl) (h3 (by simp))
/-- The same, in one. -/
theorem allF {body : Tm β} {ρ : List D} (j : Nat) (xs : List α) (p : α → Bool) (r : List D)
    (h1 : ∀ i : Nat, i < xs.length → InB xs (i : Int) → decide ((i : Int) < xs.length) = true → atI xs (i : Int) ∈ xs → Er T body (ρ ++ [i64 i]) = forkT (p (atI xs i)) (some (.cont, [i64 ((i : Int) + 1)])) (some (.ret, r)))
    (h3 : decide ((xs.length : Int) < xs.length) = false → Er T body (ρ ++ [i64 xs.length]) = some (.yield j, [])) :
    Er T (.loop [.c (i64 0)] body) ρ = forkT (xs.all p) (some (.yield j, [])) (some (.ret, r)) :=
  allX j xs p r (fun i hi hb hl hp => by rw [h1 i hi hb hl (by rw [atI_get hi]; exact List.getElem_mem hi), hp]; rfl) (fun i hi hb hl hp => by rw [h1 i hi hb hl (by rw [atI_get hi]; exact List.getElem_mem hi), hp]; rfl) h3
/-- The place of the first right one, -1 if there is none. -/
def ixF (p : α → Bool) (xs : List α) : Int := match xs.findIdx? p with
  | some i => i
  | none => -1
omit [Inhabited α] in
theorem ixF_any (p : α → Bool) (xs : List α) : decide (0 ≤ ixF p xs) = xs.any p := by
  unfold ixF
  cases h : xs.findIdx? p with
  | none =>
    rw [List.findIdx?_eq_none_iff] at h
    have : xs.any p = false := by
      rw [List.any_eq_false]
      exact fun x hx => by simp [h x hx]
    rw [this]; rfl
  | some i =>
    have : xs.any p = true := by
      rw [List.findIdx?_eq_some_iff_getElem] at h
      obtain ⟨hi, hp, -⟩ := h
      rw [List.any_eq_true]
      exact ⟨_, List.getElem_mem hi, hp⟩
    rw [this]; simp
/-- A loop that returns at the first right one. -/
theorem findX {body : Tm β} {ρ : List D} (j : Nat) (xs : List α) (p : α → Bool) (rf : Int → List D)
    (h1 : ∀ i : Nat, i < xs.length → InB xs (i : Int) → decide ((i : Int) < xs.length) = true → p (atI xs i) = true → Er T body (ρ ++ [i64 i]) = some (.ret, rf i))
    (h2 : ∀ i : Nat, i < xs.length → InB xs (i : Int) → decide ((i : Int) < xs.length) = true → p (atI xs i) = false → Er T body (ρ ++ [i64 i]) = some (.cont, [i64 ((i : Int) + 1)]))
    (h3 : decide ((xs.length : Int) < xs.length) = false → Er T body (ρ ++ [i64 xs.length]) = some (.yield j, [])) :
    Er T (.loop [.c (i64 0)] body) ρ = forkT (xs.any p) (some (.ret, rf (ixF p xs))) (some (.yield j, [])) := by
  have hall : ∀ (i : Nat) (ys : List α), foldX (fun (i : Nat) x (_ : Unit) => if p x then Rd1.out (.ret, rf i) else .go ()) i ys () = match ys.findIdx? p with | some k => .out (.ret, rf ((i + k : Nat) : Int)) | none => .go () := by
    intro i ys
    induction ys generalizing i with
    | nil => rfl
    | cons y ys ih =>
      rw [foldX, List.findIdx?_cons]
      cases p y with
      | true => simp
      | false =>
        simp only [Bool.false_eq_true, if_false]
        rw [ih (i + 1)]
        cases ys.findIdx? p with
        | none => rfl
        | some k => simp only [Option.map_some]; congr 4; omega
  obtain ⟨q, h4, h5⟩ := loopX (T := T) (body := body) (ρ := ρ) (init := [.c (i64 0)]) xs (fun i (_ : Unit) => [i64 i]) () (fun i x _ => if p x then .out (.ret, rf i) else .go ()) (fun _ _ => True) (fun _ => (.yield j, [])) rfl trivial
    (fun i _ hi _ => by
      cases e : p (atI xs i) with
      | true => exact ⟨by rw [h1 i hi (InB_nat.2 hi) (by simp; omega) e]; rfl, fun _ _ => trivial, fun r h => by simp at h; rw [← h]; simp⟩
      | false => exact ⟨by rw [h2 i hi (InB_nat.2 hi) (by simp; omega) e]; rfl, fun _ _ => trivial, fun r h => by simp at h⟩)
    (fun _ _ => ⟨h3 (by simp), by simp⟩)
  rw [h4, ← ixF_any]
  rw [hall] at h5
  unfold ixF
  cases e : xs.findIdx? p with
  | none =>
    rw [e] at h5
    rcases h5 with ⟨s, -, -, rfl⟩ | h5
    · rfl
    · simp at h5
  | some k =>
    rw [e] at h5
    rcases h5 with ⟨s, h5, -⟩ | h5
    · simp at h5
    · simp only [Nat.zero_add, Rd1.out.injEq] at h5
      rw [← h5]
      simp [forkT]
theorem at_mem {xs : List α} {i : Nat} (h : i < xs.length) : atI xs (i : Int) ∈ xs := by rw [atI_get h]; exact List.getElem_mem h

omit [Inhabited α] in
/-- A loop whose state at each round is told. -/
theorem loopN {body : Tm β} {ρ : List D} {init : List Atom} (n : Nat) (vs : Nat → List D) (r : Kind × List D) (h0 : init.map (·.val ρ) = vs 0) (hr : r.1 ≠ .cont)
    (h1 : ∀ i : Nat, i < n → decide ((i : Int) < n) = true → Er T body (ρ ++ vs i) = some (.cont, vs (i + 1)))
    (h2 : decide ((n : Int) < n) = false → Er T body (ρ ++ vs n) = some r) : Er T (.loop init body) ρ = some r := by
  obtain ⟨q, h3, rfl⟩ := loopR (T := T) (body := body) (ρ := ρ) (fun i => n - i) (fun i => i ≤ n) vs (fun q => q = r)
    (fun i hi => by
      rcases Nat.lt_or_ge i n with hlt | hge
      · exact ⟨_, h1 i hlt (by simp; omega), .inl ⟨rfl, i + 1, by omega, by omega, rfl⟩⟩
      · obtain rfl : i = n := by omega
        exact ⟨_, h2 (by simp), .inr ⟨hr, rfl⟩⟩) n 0 (by omega) (by omega) init h0
  exact h3
omit [Inhabited α] in
/-- A loop of any kind that ends with r. -/
theorem whileE {γ : Type} {body : Tm β} {ρ : List D} {init : List Atom} (r : Kind × List D) (m : γ → Nat) (inv : γ → Prop) (vs : γ → List D) (c0 : γ) (h0 : init.map (·.val ρ) = vs c0) (hi : inv c0) (hr : r.1 ≠ .cont)
    (h : ∀ c, inv c → (∃ c', Er T body (ρ ++ vs c) = some (.cont, vs c') ∧ inv c' ∧ m c' < m c) ∨ Er T body (ρ ++ vs c) = some r) : Er T (.loop init body) ρ = some r := by
  obtain ⟨q, h1, rfl⟩ := loopR (T := T) (body := body) (ρ := ρ) m inv vs (fun q => q = r)
    (fun c hc => by
      rcases h c hc with ⟨c', h2, h3, h4⟩ | h2
      · exact ⟨_, h2, .inl ⟨rfl, c', h3, h4, rfl⟩⟩
      · exact ⟨_, h2, .inr ⟨hr, rfl⟩⟩) (m c0) c0 (Nat.le_refl _) hi init h0
  exact h1
/-- A loop over a list with a state, to its end. -/
theorem foldS {σ : Type} {body : Tm β} {ρ : List D} {init : List Atom} (j : Nat) (xs : List α) (vs : Int → σ → List D) (s0 : σ) (f : σ → α → σ) (inv : Nat → σ → Prop) (out : σ → List D)
    (h0 : init.map (·.val ρ) = vs 0 s0) (hi : inv 0 s0)
    (h1 : ∀ (i : Nat) s, i < xs.length → InB xs (i : Int) → decide ((i : Int) < xs.length) = true → inv i s → Er T body (ρ ++ vs i s) = some (.cont, vs ((i : Int) + 1) (f s (atI xs i))) ∧ inv (i + 1) (f s (atI xs i)))
    (h2 : ∀ s, decide ((xs.length : Int) < xs.length) = false → inv xs.length s → Er T body (ρ ++ vs xs.length s) = some (.yield j, out s)) :
    Er T (.loop init body) ρ = some (.yield j, out (xs.foldl f s0)) ∧ inv xs.length (xs.foldl f s0) := by
  have hall : ∀ i xs s, foldX (fun (_ : Nat) (x : α) s => Rd1.go (f s x)) i xs s = .go (xs.foldl f s) := by
    intro i xs
    induction xs generalizing i with
    | nil => exact fun _ => rfl
    | cons x xs ih => exact fun s => ih (i + 1) _
  obtain ⟨q, h4, h5⟩ := loopX (T := T) (body := body) (ρ := ρ) (init := init) xs vs s0 (fun _ x s => .go (f s x)) inv (fun s => (.yield j, out s)) h0 hi
    (fun i s hl hv => by
      obtain ⟨h5, h6⟩ := h1 i s hl (InB_nat.2 hl) (by simp; omega) hv
      exact ⟨h5, fun s' h => by simp only [Rd1.go.injEq] at h; rw [← h]; exact h6, fun r h => by cases h⟩)
    (fun s hv => ⟨h2 s (by simp) hv, by simp⟩)
  rw [hall] at h5
  rcases h5 with ⟨s, h5, h6, rfl⟩ | h5
  · simp only [Rd1.go.injEq] at h5
    subst h5
    exact ⟨h4, h6⟩
  · cases h5
/-- A loop over a list with a state, that ends early at the first that is not right. -/
theorem foldAll {σ : Type} {body : Tm β} {ρ : List D} {init : List Atom} (j : Nat) (xs : List α) (p : α → Bool) (vs : Int → σ → List D) (s0 : σ) (g : σ → α → σ) (r : List D) (inv : Nat → σ → Prop) (out : σ → List D)
    (h0 : init.map (·.val ρ) = vs 0 s0) (hi : inv 0 s0)
    (h1 : ∀ (i : Nat) s, i < xs.length → InB xs (i : Int) → decide ((i : Int) < xs.length) = true → inv i s → Er T body (ρ ++ vs i s) = forkT (p (atI xs i)) (some (.cont, vs ((i : Int) + 1) (g s (atI xs i)))) (some (.ret, r)) ∧ (p (atI xs i) = true → inv (i + 1) (g s (atI xs i))))
    (h2 : ∀ s, decide ((xs.length : Int) < xs.length) = false → inv xs.length s → Er T body (ρ ++ vs xs.length s) = some (.yield j, out s)) :
    Er T (.loop init body) ρ = forkT (xs.all p) (some (.yield j, out (xs.foldl g s0))) (some (.ret, r)) := by
  have hall : ∀ i xs s, foldX (fun (_ : Nat) (x : α) s => if p x then Rd1.go (g s x) else .out (.ret, r)) i xs s = if xs.all p then .go (xs.foldl g s) else .out (.ret, r) := by
    intro i xs
    induction xs generalizing i with
    | nil => exact fun _ => rfl
    | cons x xs ih =>
      intro s
      rw [foldX, List.all_cons, List.foldl_cons]
      cases p x with
      | true => simp only [if_true, Bool.true_and]; exact ih (i + 1) _
      | false => rfl
  obtain ⟨q, h4, h5⟩ := loopX (T := T) (body := body) (ρ := ρ) (init := init) xs vs s0 (fun _ x s => if p x then .go (g s x) else .out (.ret, r)) inv (fun s => (.yield j, out s)) h0 hi
    (fun i s hl hv => by
      obtain ⟨h6, h7⟩ := h1 i s hl (InB_nat.2 hl) (by simp; omega) hv
      cases e : p (atI xs i) with
      | true =>
        rw [e] at h6
        exact ⟨h6, fun s' h => by simp only [if_true, Rd1.go.injEq] at h; rw [← h]; exact h7 e, fun r h => by simp at h⟩
      | false =>
        rw [e] at h6
        exact ⟨h6, fun s' h => by simp at h, fun r h => by simp at h; rw [← h]; simp⟩)
    (fun s hv => ⟨h2 s (by simp) hv, by simp⟩)
  rw [h4]
  rw [hall] at h5
  cases e : xs.all p with
  | true =>
    rw [e] at h5
    rcases h5 with ⟨s, h5, -, rfl⟩ | h5
    · simp only [if_true, Rd1.go.injEq] at h5
      rw [← h5]; rfl
    · simp at h5
  | false =>
    rw [e] at h5
    rcases h5 with ⟨s, h5, -⟩ | h5
    · simp at h5
    · simp only [Bool.false_eq_true, if_false, Rd1.out.injEq] at h5
      rw [← h5]; rfl
end
theorem take_at {α : Type} [Inhabited α] {xs : List α} {i : Nat} (h : i < xs.length) : xs.take i ++ [atI xs (i : Int)] = xs.take (i + 1) := by rw [List.take_succ_eq_append_getElem h, atI_get h]
theorem setI_at {α : Type} [Inhabited α] {xs : List α} {k : Int} (h : InB xs k) : setI xs k (atI xs k) = xs := by
  have h2 := h.lt
  unfold setI atI
  rw [List.getD_eq_getElem?_getD, List.getElem?_eq_getElem h2]
  exact List.set_getElem_self h2
/-- A list of slices, one of which is taken out for a while. -/
def holeL {α : Type} [Enc α] (xs : List (List α)) (k : Int) : D := .rows 1 ((xs.map Enc.enc).set k.toNat [.hole])
theorem S_hole : (∀ {α : Type} [Enc α] {xs : List (List α)} {k : Int}, InB xs k → (Prim.set 1 0 1).run [rL xs, i64 k, .hole] = some [holeL xs k]) ∧ (∀ {α : Type} [Enc α] {xs : List (List α)} {k j : Int}, InB xs j → Prim.inb.run [holeL xs k, i64 j] = some []) ∧
    (∀ {α : Type} [Enc α] {xs : List (List α)} {k : Int} {l : List α}, InB xs k → (Prim.set 1 0 1).run [holeL xs k, i64 k, rL l] = some [rL (setI xs k l)]) := by
  refine ⟨?_, ?_, ?_⟩
  · intro α _ xs k h
    have h2 := h.lt
    unfold InB at h
    have e : (xs.map Enc.enc)[k.toNat]? = some [rL xs[k.toNat]] := by rw [List.getElem?_map, List.getElem?_eq_getElem h2]; rfl
    show (if _ then _ else _) = _
    rw [if_pos ⟨rfl, h.1⟩, e]
    rfl
  · intro α _ xs k j h
    unfold InB at h
    show (if _ then _ else _) = _
    rw [if_pos ⟨h.1, by simpa using h.2⟩]
  · intro α _ xs k l h
    have h2 := h.lt
    unfold InB at h
    have e : ((xs.map Enc.enc).set k.toNat [.hole])[k.toNat]? = some [.hole] := by rw [List.getElem?_set_self (by simpa using h2)]
    show (if _ then _ else _) = _
    rw [if_pos ⟨rfl, h.1⟩, e]
    show some _ = _
    simp only [rL, setI, List.map_set, List.set_set]
    rfl
theorem SQ : (∀ {a b : Int}, -9223372036854775808 ≤ a + b → a + b ≤ 9223372036854775807 → (Prim.bin .add).run [i64 a, i64 b] = some [i64 (a + b)]) ∧
    (∀ {a b : Int}, -9223372036854775808 ≤ a - b → a - b ≤ 9223372036854775807 → (Prim.bin .sub).run [i64 a, i64 b] = some [i64 (a - b)]) ∧
    (∀ {a b : Int}, 0 ≤ a → a ≤ 9223372036854775807 → 0 < b → (Prim.bin .quo).run [i64 a, i64 b] = some [i64 (a / b)]) ∧ (∀ {a b : Int}, 0 ≤ a → 0 < b → (Prim.bin .rem).run [i64 a, i64 b] = some [i64 (a % b)]) :=
  ⟨run_add, run_sub, run_quoI, run_remI⟩
end Go.Proofs.Ytacfmplofkjonaa.Rf

/- Sizes, copies, comparisons and marks of typed lists: the loops. Nothing of Go here. -/
namespace Go.Proofs.Ytacfmplofkjonaa.Rf
set_option linter.unusedVariables false
set_option linter.unusedSimpArgs false

theorem S_upd : (∀ {α : Type} [Inhabited α] {xs : List α} {k : Int} {a : α}, InB xs k → atI (setI xs k a) k = a) ∧ (∀ {α : Type} {xs : List α} {k : Int} {a b : α}, setI (setI xs k a) k b = setI xs k b) ∧
    (∀ {α : Type} {xs : List α} {j k : Int} {a : α}, InB (setI xs j a) k = InB xs k) ∧ (∀ {α : Type} {xs : List α} {j : Int} {a : α}, (setI xs j a).length = xs.length) := by
  refine ⟨?_, ?_, ?_, ?_⟩
  · intro α _ xs k a h
    have := h.lt
    rw [setI, atI, List.getD_eq_getElem?_getD, List.getElem?_set_self this]; rfl
  · intro α xs k a b
    rw [setI, setI, setI, List.set_set]
  · intro α xs j k a
    unfold InB setI
    rw [List.length_set]
  · intro α xs j a
    exact List.length_set ..

/-! ### How long -/
def szL {α : Type} (f : α → Nat) (xs : List α) : Nat := xs.length + (xs.map f).sum
def szR (l : Int) (n : Nat) : Int := if (n : Int) ≤ l then l - n else -1
theorem szL_cons {α : Type} {f : α → Nat} {x : α} {xs : List α} : szL f (x :: xs) = 1 + f x + szL f xs := by simp [szL]; omega
theorem szL_mem {α : Type} {f : α → Nat} : ∀ {xs : List α} {x : α}, x ∈ xs → 1 + f x ≤ szL f xs
  | [], x, h => by cases h
  | y :: ys, x, h => by
    rw [szL_cons]
    rcases List.mem_cons.1 h with rfl | h
    · omega
    · have := szL_mem (f := f) h
      omega
theorem szL_zero {α : Type} {xs : List α} : szL (fun _ => 0) xs = xs.length := by
  have : ∀ xs : List α, (xs.map fun _ => 0).sum = 0 := fun xs => by
    induction xs with
    | nil => rfl
    | cons x xs ih => simp only [List.map_cons, List.sum_cons, ih]
  rw [szL, this]; rfl
theorem szL_len {α : Type} {f : α → Nat} {xs : List α} : xs.length ≤ szL f xs := by unfold szL; omega
section
variable {T : Nat → Ent} {β : Type} {α : Type} [Inhabited α]
theorem szLoop {body : Tm β} {ρ : List D} {a : Atom} (xs : List α) (f : α → Nat) (l : Int) (h0 : a.val ρ = i64 l) (hl : 0 ≤ l) (hl' : l ≤ 1048576)
    (h1 : ∀ (i : Nat) (m : Int), i < xs.length → InB xs (i : Int) → decide ((i : Int) < xs.length) = true → 0 ≤ m → m ≤ 1048576 → (f (atI xs i) : Int) ≤ m → szR m (f (atI xs i)) = m - f (atI xs i) → decide (m - (f (atI xs i) : Int) < 0) = false → Er T body (ρ ++ [i64 m, i64 i]) = some (.cont, [i64 (m - f (atI xs i)), i64 ((i : Int) + 1)]))
    (h2 : ∀ (i : Nat) (m : Int), i < xs.length → InB xs (i : Int) → decide ((i : Int) < xs.length) = true → 0 ≤ m → m ≤ 1048576 → m < f (atI xs i) → szR m (f (atI xs i)) = -1 → decide ((-1 : Int) < 0) = true → Er T body (ρ ++ [i64 m, i64 i]) = some (.ret, [i64 (-1)]))
    (h3 : ∀ m : Int, decide ((xs.length : Int) < xs.length) = false → Er T body (ρ ++ [i64 m, i64 xs.length]) = some (.yield 1, [i64 m])) :
    Er T (.loop [a, .c (i64 0)] body) ρ = forkT (decide (((xs.map f).sum : Int) ≤ l)) (some (.yield 1, [i64 (l - (xs.map f).sum)])) (some (.ret, [i64 (-1)])) := by
  have hall : ∀ (ys : List α) (i : Nat) (m : Int), 0 ≤ m → foldX (fun (_ : Nat) x (m : Int) => if (f x : Int) ≤ m then Rd1.go (m - f x) else .out (.ret, [i64 (-1)])) i ys m = if ((ys.map f).sum : Int) ≤ m then .go (m - (ys.map f).sum) else .out (.ret, [i64 (-1)]) := by
    intro ys
    induction ys with
    | nil =>
      intro i m hm
      simp only [foldX, List.map_nil, List.sum_nil]
      rw [if_pos (by simpa using hm)]
      simp
    | cons y ys ih =>
      intro i m hm
      simp only [foldX, List.map_cons, List.sum_cons]
      by_cases h : (f y : Int) ≤ m
      · rw [if_pos h]
        simp only
        rw [ih (i + 1) _ (by omega)]
        by_cases h4 : ((ys.map f).sum : Int) ≤ m - f y
        · rw [if_pos h4, if_pos (by omega)]
          congr 1
          omega
        · rw [if_neg h4, if_neg (by omega)]
      · rw [if_neg h]
        simp only
        rw [if_neg (by omega)]
  obtain ⟨q, h4, h5⟩ := loopX (T := T) (body := body) (ρ := ρ) (init := [a, .c (i64 0)]) xs (fun i (m : Int) => [i64 m, i64 i]) l (fun _ x m => if (f x : Int) ≤ m then .go (m - f x) else .out (.ret, [i64 (-1)])) (fun _ m => 0 ≤ m ∧ m ≤ 1048576) (fun m => (.yield 1, [i64 m])) (by show [a.val ρ, _] = _; rw [h0]; rfl) ⟨hl, hl'⟩
    (fun i m hi hm => by
      by_cases e : (f (atI xs i) : Int) ≤ m
      · rw [if_pos e]
        refine ⟨h1 i m hi (InB_nat.2 hi) (by simp; omega) hm.1 hm.2 e (by rw [szR, if_pos e]) (by simp; omega), fun s' h => ?_, fun r h => by cases h⟩
        simp only [Rd1.go.injEq] at h
        omega
      · rw [if_neg e]
        refine ⟨h2 i m hi (InB_nat.2 hi) (by simp; omega) hm.1 hm.2 (by omega) (by rw [szR, if_neg e]) rfl, fun s' h => by simp at h, fun r h => ?_⟩
        simp only [Rd1.out.injEq] at h
        rw [← h]; simp)
    (fun m hm => ⟨h3 m (by simp), by simp⟩)
  rw [h4]
  rw [hall xs 0 l hl] at h5
  by_cases h : ((xs.map f).sum : Int) ≤ l
  · rw [if_pos h] at h5
    rw [decide_eq_true h]
    rcases h5 with ⟨s, h5, -, rfl⟩ | h5
    · simp only [Rd1.go.injEq] at h5
      rw [← h5]; rfl
    · cases h5
  · rw [if_neg h] at h5
    rw [decide_eq_false h]
    rcases h5 with ⟨s, h5, -⟩ | h5
    · cases h5
    · simp only [Rd1.out.injEq] at h5
      rw [← h5]; rfl

/-- A copy, place by place. -/
theorem toLoop {body : Tm β} {ρ : List D} {a : Atom} [Enc α] (xs : List α) (h0 : a.val ρ = rL (List.replicate xs.length (default : α)))
    (h1 : ∀ (i : Nat) (ys : List α), i < xs.length → InB xs (i : Int) → InB ys (i : Int) → decide ((i : Int) < xs.length) = true → Er T body (ρ ++ [rL ys, i64 i]) = some (.cont, [rL (setI ys i (atI xs i)), i64 ((i : Int) + 1)]))
    (h2 : ∀ ys : List α, decide ((xs.length : Int) < xs.length) = false → Er T body (ρ ++ [rL ys, i64 xs.length]) = some (.yield 1, [rL ys])) :
    Er T (.loop [a, .c (i64 0)] body) ρ = some (.yield 1, [rL xs]) := by
  have key := loopR (T := T) (body := body) (ρ := ρ) (fun i => xs.length - i) (fun i => i ≤ xs.length) (fun i => [rL (upto default xs i), i64 (i : Nat)]) (fun q => q = (.yield 1, [rL xs]))
    (fun i hi => by
      rcases Nat.lt_or_ge i xs.length with hlt | hge
      · refine ⟨_, h1 i (upto default xs i) hlt (InB_nat.2 hlt) (InB_nat.2 (by rw [upto_len _ _ hi]; exact hlt)) (by simp; omega), .inl ⟨rfl, i + 1, by omega, by omega, ?_⟩⟩
        have : setI (upto default xs i) (i : Int) (atI xs i) = upto default xs (i + 1) := by
          rw [setI]
          exact upto_set default xs (by rw [atI_get hlt]; exact List.getElem?_eq_getElem hlt)
        rw [this]; simp
      · obtain rfl : i = xs.length := by omega
        refine ⟨_, h2 _ (by simp), .inr ⟨by simp, ?_⟩⟩
        rw [upto_all])
    xs.length 0 (by omega) (by omega) [a, .c (i64 0)] (by show [a.val ρ, _] = _; rw [h0, upto_zero]; rfl)
  obtain ⟨q, h4, rfl⟩ := key
  exact h4

/-! ### Marks -/
def mkL {α : Type} (c : α → Nat) (f : α → Int → α) : List α → Int → List α
  | [], _ => []
  | x :: xs, k => f x k :: mkL c f xs (k + c x)
def ctL {α : Type} (c : α → Nat) (xs : List α) : Nat := (xs.map c).sum
theorem mkL_len {α : Type} {c : α → Nat} {f : α → Int → α} : ∀ {xs : List α} {k : Int}, (mkL c f xs k).length = xs.length
  | [], _ => rfl
  | x :: xs, k => by simp [mkL, mkL_len]
theorem mkL_at {c : α → Nat} {f : α → Int → α} : ∀ {xs : List α} {k : Int} {i : Nat}, i < xs.length → atI (mkL c f xs k) (i : Int) = f (atI xs i) (k + ctL c (xs.take i))
  | x :: xs, k, 0, h => by simp [mkL, atI, ctL]
  | x :: xs, k, i + 1, h => by
    have ih := mkL_at (c := c) (f := f) (xs := xs) (k := k + c x) (i := i) (by simpa using h)
    rw [mkL, atI_nat, atI_nat, List.getD_cons_succ, List.getD_cons_succ, ← atI_nat, ih, ← atI_nat]
    congr 1
    simp only [ctL, List.take_succ_cons, List.map_cons, List.sum_cons]
    omega
theorem ctL_take {c : α → Nat} {xs : List α} {i : Nat} (h : i < xs.length) : ctL c (xs.take (i + 1)) = ctL c (xs.take i) + c (atI xs i) := by
  rw [List.take_succ_eq_append_getElem h, atI_get h]
  unfold ctL
  rw [List.map_append, List.sum_append]
  simp
omit [Inhabited α] in
theorem ctL_take_le {c : α → Nat} : ∀ {xs : List α} {i : Nat}, ctL c (xs.take i) ≤ ctL c xs
  | [], i => by simp
  | x :: xs, 0 => by simp [ctL]
  | x :: xs, i + 1 => by
    have := ctL_take_le (c := c) (xs := xs) (i := i)
    simp only [ctL, List.take_succ_cons, List.map_cons, List.sum_cons] at this ⊢
    omega
theorem ctL_get_le {c : α → Nat} {xs : List α} {i : Nat} (h : i < xs.length) : ctL c (xs.take i) + c (atI xs i) ≤ ctL c xs := by
  rw [← ctL_take h]; exact ctL_take_le
def upM (c : α → Nat) (f : α → Int → α) (xs : List α) (k : Int) (i : Nat) : List α := (mkL c f xs k).take i ++ xs.drop i
omit [Inhabited α] in
theorem upM_len {c : α → Nat} {f : α → Int → α} {xs : List α} {k : Int} {i : Nat} (h : i ≤ xs.length) : (upM c f xs k i).length = xs.length := by
  simp [upM, mkL_len]; omega
theorem upM_at {c : α → Nat} {f : α → Int → α} {xs : List α} {k : Int} {i : Nat} (h : i < xs.length) : atI (upM c f xs k i) (i : Int) = atI xs i := by
  rw [atI_get (by rw [upM_len (by omega)]; exact h), atI_get h]
  unfold upM
  rw [List.getElem_append_right (by simp [mkL_len]; omega)]
  simp [mkL_len, Nat.min_eq_left (Nat.le_of_lt h)]
theorem upM_set {c : α → Nat} {f : α → Int → α} {xs : List α} {k : Int} {i : Nat} (h : i < xs.length) : setI (upM c f xs k i) (i : Int) (f (atI xs i) (k + ctL c (xs.take i))) = upM c f xs k (i + 1) := by
  have hm : i < (mkL c f xs k).length := by rw [mkL_len]; exact h
  unfold upM setI
  rw [Int.toNat_natCast, List.set_append_right _ _ (by simp [mkL_len]; omega), List.take_succ_eq_append_getElem hm, List.append_assoc]
  congr 1
  have e : i - ((mkL c f xs k).take i).length = 0 := by simp [mkL_len]; omega
  rw [e, List.drop_eq_getElem_cons h, List.set_cons_zero]
  have := mkL_at (c := c) (f := f) (k := k) h
  rw [atI_get hm] at this
  rw [this]; rfl
theorem markLoop {body : Tm β} {ρ : List D} {a b d : Atom} [Enc α] (xs : List α) (c : α → Nat) (f : α → Int → α) (k : Int) (h0 : a.val ρ = rL xs) (h0' : b.val ρ = i64 k) (hd : d.val ρ = .undef) (hk : 0 ≤ k) (hb : k + ctL c xs ≤ 1152921504606846976)
    (h1 : ∀ (i : Nat) (ys : List α) (m : Int), i < xs.length → ys.length = xs.length → InB ys (i : Int) → decide ((i : Int) < xs.length) = true → atI ys i = atI xs i → 0 ≤ m → m + c (atI xs i) ≤ 1152921504606846976 → xs.length ≤ 1152921504606846976 → Er T body (ρ ++ [rL ys, .undef, i64 m, i64 i]) = some (.cont, [rL (setI ys i (f (atI xs i) m)), .undef, i64 (m + c (atI xs i)), i64 ((i : Int) + 1)]))
    (h2 : ∀ (ys : List α) (m : Int), ys.length = xs.length → decide ((xs.length : Int) < xs.length) = false → Er T body (ρ ++ [rL ys, .undef, i64 m, i64 xs.length]) = some (.yield 1, [rL ys, i64 m])) (hlen : xs.length ≤ 1152921504606846976) :
    Er T (.loop [a, d, b, .c (i64 0)] body) ρ = some (.yield 1, [rL (mkL c f xs k), i64 (k + ctL c xs)]) := by
  have key := loopR (T := T) (body := body) (ρ := ρ) (fun i => xs.length - i) (fun i => i ≤ xs.length) (fun i => [rL (upM c f xs k i), .undef, i64 (k + ctL c (xs.take i)), i64 (i : Nat)]) (fun q => q = (.yield 1, [rL (mkL c f xs k), i64 (k + ctL c xs)]))
    (fun i hi => by
      rcases Nat.lt_or_ge i xs.length with hlt | hge
      · have h3 := ctL_get_le (c := c) hlt
        refine ⟨_, h1 i (upM c f xs k i) (k + ctL c (xs.take i)) hlt (upM_len hi) (InB_nat.2 (by rw [upM_len hi]; exact hlt)) (by simp; omega) (upM_at hlt) (by omega) (by omega) hlen, .inl ⟨rfl, i + 1, by omega, by omega, ?_⟩⟩
        rw [upM_set hlt, ctL_take hlt]
        simp only [Int.natCast_add, Int.add_assoc]; rfl
      · obtain rfl : i = xs.length := by omega
        refine ⟨_, h2 _ _ (upM_len hi) (by simp), .inr ⟨by simp, ?_⟩⟩
        have e : upM c f xs k xs.length = mkL c f xs k := by
          unfold upM
          rw [List.drop_length, List.append_nil, List.take_of_length_le (by rw [mkL_len]; omega)]
        rw [e, List.take_length])
    xs.length 0 (by omega) (by omega) [a, d, b, .c (i64 0)] (by show [a.val ρ, d.val ρ, b.val ρ, _] = _; rw [h0, h0', hd]; simp [upM, ctL, Atom.val])
  obtain ⟨q, h4, rfl⟩ := key
  exact h4
theorem heldLoop {body : Tm β} {ρ : List D} {b : Atom} (xs : List α) (c : α → Nat) (f : α → Int → α) (k : Int) (h0' : b.val ρ = i64 k) (hk : 0 ≤ k) (hb : k + ctL c xs ≤ 1152921504606846976) (hlen : xs.length ≤ 1152921504606846976)
    (h1 : ∀ (i : Nat) (m : Int), i < xs.length → InB (mkL c f xs k) (i : Int) → (mkL c f xs k).length = xs.length → decide ((i : Int) < xs.length) = true → atI (mkL c f xs k) i = f (atI xs i) m → 0 ≤ m → m + c (atI xs i) ≤ 1152921504606846976 → xs.length ≤ 1152921504606846976 → Er T body (ρ ++ [i64 m, i64 i]) = some (.cont, [i64 (m + c (atI xs i)), i64 ((i : Int) + 1)]))
    (h2 : ∀ m : Int, (mkL c f xs k).length = xs.length → decide ((xs.length : Int) < xs.length) = false → Er T body (ρ ++ [i64 m, i64 xs.length]) = some (.yield 1, [i64 m])) :
    Er T (.loop [b, .c (i64 0)] body) ρ = some (.yield 1, [i64 (k + ctL c xs)]) := by
  have key := loopR (T := T) (body := body) (ρ := ρ) (fun i => xs.length - i) (fun i => i ≤ xs.length) (fun i => [i64 (k + ctL c (xs.take i)), i64 (i : Nat)]) (fun q => q = (.yield 1, [i64 (k + ctL c xs)]))
    (fun i hi => by
      rcases Nat.lt_or_ge i xs.length with hlt | hge
      · have h3 := ctL_get_le (c := c) hlt
        refine ⟨_, h1 i (k + ctL c (xs.take i)) hlt (InB_nat.2 (by rw [mkL_len]; exact hlt)) mkL_len (by simp; omega) (mkL_at hlt) (by omega) (by omega) hlen, .inl ⟨rfl, i + 1, by omega, by omega, ?_⟩⟩
        rw [ctL_take hlt]
        simp only [Int.natCast_add, Int.add_assoc]; rfl
      · obtain rfl : i = xs.length := by omega
        refine ⟨_, h2 _ mkL_len (by simp), .inr ⟨by simp, ?_⟩⟩
        rw [List.take_length])
    xs.length 0 (by omega) (by omega) [b, .c (i64 0)] (by show [b.val ρ, _] = _; rw [h0']; simp [ctL, Atom.val])
  obtain ⟨q, h4, rfl⟩ := key
  exact h4
end
theorem ctL_le {α : Type} {c f : α → Nat} {m : Nat} (hm : 1 ≤ m) (h : ∀ x, c x ≤ m + m * f x) : ∀ xs : List α, ctL c xs ≤ m * szL f xs
  | [] => by simp [ctL]
  | x :: xs => by
    have ih := ctL_le hm h xs
    have h1 := h x
    rw [szL_cons]
    simp only [ctL, List.map_cons, List.sum_cons] at ih ⊢
    rw [Nat.mul_add, Nat.mul_add]
    omega
theorem ctL_one {xs : List Int} : ctL (fun _ => 1) xs = xs.length := by
  have : ∀ xs : List Int, (xs.map fun _ => 1).sum = xs.length := fun xs => by
    induction xs with
    | nil => rfl
    | cons x xs ih => simp only [List.map_cons, List.sum_cons, ih, List.length_cons]; omega
  exact this xs
theorem lt0 {k : Int} (h : 0 ≤ k) : decide (k < 0) = false := by simp; omega
theorem ltm1 : decide ((-1 : Int) < 0) = true := rfl
/-! ### What comes in -/
theorem WT_rL {α : Type} [Enc α] {tys : List Ty} {bytes : Nat} {P : α → Prop} {d : D} (hs : tys.length = Enc.sz α) (hd : ∀ ds, WTs tys ds → ∃ a : α, ds = Enc.enc a ∧ P a) (h : WT (.sl bytes tys) d) : ∃ xs : List α, d = rL xs ∧ xs.length * bytes ≤ reachBytes ∧ ∀ x ∈ xs, P x := by
  simp only [WT] at h
  obtain ⟨rs, rfl, h1, h2⟩ := h
  have key : ∀ rs : List (List D), (∀ r ∈ rs, WTs tys r) → ∃ xs : List α, rs = xs.map Enc.enc ∧ ∀ x ∈ xs, P x := by
    intro rs
    induction rs with
    | nil => exact fun _ => ⟨[], rfl, by simp⟩
    | cons r rs ih =>
      intro h
      obtain ⟨xs, hx, hp⟩ := ih fun r hr => h r (List.mem_cons_of_mem _ hr)
      obtain ⟨a, ha, hpa⟩ := hd r (h r List.mem_cons_self)
      exact ⟨a :: xs, by rw [hx, ha]; rfl, by simpa using ⟨hpa, hp⟩⟩
  obtain ⟨xs, rfl, hp⟩ := key rs h2
  exact ⟨xs, by rw [hs]; rfl, by simpa using h1, hp⟩
theorem WT_int {d : D} (h : WT (.int .i64) d) : ∃ n : Int, d = i64 n ∧ -9223372036854775808 ≤ n ∧ n ≤ 9223372036854775807 := by
  obtain ⟨n, rfl, h1, h2⟩ := h
  exact ⟨n, rfl, h1, h2⟩
theorem WT_bool {d : D} (h : WT .bool d) : ∃ b : Bool, d = .bool b := h
theorem WT_str {d : D} (h : WT .str d) : ∃ s : List UInt8, d = .str s ∧ s.length ≤ reachBytes := h
theorem reach_len {n b : Nat} (h : n * b ≤ reachBytes) (hb : 0 < b) : n ≤ reachBytes := Nat.le_trans (Nat.le_mul_of_pos_right n hb) h
end Go.Proofs.Ytacfmplofkjonaa.Rf

/- Sizes, marks and what comes in, by types (printed by fam.py). -/
namespace Go.Proofs.Ytacfmplofkjonaa.Rf
set_option linter.unusedVariables false
set_option linter.unusedSimpArgs false
theorem dec_int (ds : List D) (h : WTs [.int .i64] ds) : ∃ x : Int, ds = Enc.enc x ∧ True := by
  simp only [WTs] at h
  obtain ⟨d, r, rfl, w, rfl⟩ := h
  obtain ⟨x, rfl, -, -⟩ := WT_int w
  exact ⟨x, rfl, trivial⟩
theorem dec_LI (ds : List D) (h : WTs [.sl 8 [.int .i64]] ds) : ∃ x : (List Int), ds = Enc.enc x ∧ x.length ≤ 140737488351232 := by
  simp only [WTs] at h
  obtain ⟨d, r, rfl, w, rfl⟩ := h
  obtain ⟨x, rfl, l, p⟩ := WT_rL (α := Int) (P := fun _ => True) rfl dec_int w
  exact ⟨x, rfl, reach_len l (by decide)⟩
def ct_TCmd (x : TCmd) : Nat := 1 + 1 + 1 + 1 + 1
def mk_TCmd (x : TCmd) (k : Int) : TCmd := ⟨(k), (k + 1), (k + 1 + 1), (k + 1 + 1 + 1), (k + 1 + 1 + 1 + 1)⟩
theorem ctu_TCmd (x : TCmd) : ct_TCmd x = 5 := by
  unfold ct_TCmd
  try omega
theorem ctb_TCmd (x : TCmd) : ct_TCmd x ≤ 16 + 16 * (fun _ : TCmd => 0) x := by
  rw [ctu_TCmd]
  simp
theorem dec_TCmd (ds : List D) (h : WTs [.int .i64, .int .i64, .int .i64, .int .i64, .int .i64] ds) : ∃ x : TCmd, ds = Enc.enc x ∧ True := by
  simp only [WTs] at h
  obtain ⟨d0, r0, rfl, w0, d1, r1, rfl, w1, d2, r2, rfl, w2, d3, r3, rfl, w3, d4, r4, rfl, w4, rfl⟩ := h
  obtain ⟨x0, rfl, -, -⟩ := WT_int w0
  obtain ⟨x1, rfl, -, -⟩ := WT_int w1
  obtain ⟨x2, rfl, -, -⟩ := WT_int w2
  obtain ⟨x3, rfl, -, -⟩ := WT_int w3
  obtain ⟨x4, rfl, -, -⟩ := WT_int w4
  exact ⟨⟨x0, x1, x2, x3, x4⟩, rfl, trivial⟩
def sz_TAttr (x : TAttr) : Nat := szL (fun _ => 0) x.deps
def wf_TAttr (x : TAttr) : Prop := (x.deps.length ≤ 140737488351232)
def ct_TAttr (x : TAttr) : Nat := 1 + ctL (fun _ => 1) x.deps
def mk_TAttr (x : TAttr) (k : Int) : TAttr := ⟨(k), (mkL (fun _ => 1) (fun _ k => k) x.deps (k + 1))⟩
theorem ctu_TAttr (x : TAttr) : ct_TAttr x = 1 + ctL (fun _ => 1) x.deps := by
  unfold ct_TAttr
  try omega
theorem szu_TAttr (x : TAttr) : sz_TAttr x = x.deps.length := by
  unfold sz_TAttr
  simp only [szL_zero]
  try omega
theorem ctb_TAttr (x : TAttr) : ct_TAttr x ≤ 16 + 16 * sz_TAttr x := by
  have h0 := ctL_le (c := (fun _ => 1)) (f := (fun _ => 0)) (m := 16) (by omega) (fun _ => by simp) x.deps
  rw [ctu_TAttr, szu_TAttr]
  try simp only [szL_zero] at *
  omega
theorem dec_TAttr (ds : List D) (h : WTs [.int .i64, .sl 8 [.int .i64]] ds) : ∃ x : TAttr, ds = Enc.enc x ∧ wf_TAttr x := by
  simp only [WTs] at h
  obtain ⟨d0, r0, rfl, w0, d1, r1, rfl, w1, rfl⟩ := h
  obtain ⟨x0, rfl, -, -⟩ := WT_int w0
  obtain ⟨x1, rfl, l1, p1⟩ := WT_rL (α := Int) (P := fun _ => True) rfl dec_int w1
  exact ⟨⟨x0, x1⟩, rfl, reach_len l1 (by decide)⟩
def sz_TRow (x : TRow) : Nat := sz_TAttr x.attr
def wf_TRow (x : TRow) : Prop := (wf_TAttr x.attr)
def ct_TRow (x : TRow) : Nat := 1 + 1 + 1 + ct_TCmd x.cmd + ct_TAttr x.attr
def mk_TRow (x : TRow) (k : Int) : TRow := ⟨(k), (k + 1), (k + 1 + 1), ⟨(k + 1 + 1 + 1), (k + 1 + 1 + 1 + 1), (k + 1 + 1 + 1 + 1 + 1), (k + 1 + 1 + 1 + 1 + 1 + 1), (k + 1 + 1 + 1 + 1 + 1 + 1 + 1)⟩, ⟨(k + 1 + 1 + 1 + 1 + 1 + 1 + 1 + 1), (mkL (fun _ => 1) (fun _ k => k) x.attr.deps (k + 1 + 1 + 1 + 1 + 1 + 1 + 1 + 1 + 1))⟩⟩
theorem ctu_TRow (x : TRow) : ct_TRow x = 9 + ctL (fun _ => 1) x.attr.deps := by
  unfold ct_TRow
  simp only [ctu_TCmd]
  simp only [ctu_TAttr]
  try omega
theorem szu_TRow (x : TRow) : sz_TRow x = x.attr.deps.length := by
  unfold sz_TRow
  simp only [szL_zero, szu_TAttr]
  try omega
theorem ctb_TRow (x : TRow) : ct_TRow x ≤ 16 + 16 * sz_TRow x := by
  have h0 := ctL_le (c := (fun _ => 1)) (f := (fun _ => 0)) (m := 16) (by omega) (fun _ => by simp) x.attr.deps
  rw [ctu_TRow, szu_TRow]
  try simp only [szL_zero] at *
  omega
theorem dec_TRow (ds : List D) (h : WTs [.int .i64, .int .i64, .int .i64, .int .i64, .int .i64, .int .i64, .int .i64, .int .i64, .int .i64, .sl 8 [.int .i64]] ds) : ∃ x : TRow, ds = Enc.enc x ∧ wf_TRow x := by
  simp only [WTs] at h
  obtain ⟨d0, r0, rfl, w0, d1, r1, rfl, w1, d2, r2, rfl, w2, d3, r3, rfl, w3, d4, r4, rfl, w4, d5, r5, rfl, w5, d6, r6, rfl, w6, d7, r7, rfl, w7, d8, r8, rfl, w8, d9, r9, rfl, w9, rfl⟩ := h
  obtain ⟨x0, rfl, -, -⟩ := WT_int w0
  obtain ⟨x1, rfl, -, -⟩ := WT_int w1
  obtain ⟨x2, rfl, -, -⟩ := WT_int w2
  obtain ⟨x3, rfl, -, -⟩ := WT_int w3
  obtain ⟨x4, rfl, -, -⟩ := WT_int w4
  obtain ⟨x5, rfl, -, -⟩ := WT_int w5
  obtain ⟨x6, rfl, -, -⟩ := WT_int w6
  obtain ⟨x7, rfl, -, -⟩ := WT_int w7
  obtain ⟨x8, rfl, -, -⟩ := WT_int w8
  obtain ⟨x9, rfl, l9, p9⟩ := WT_rL (α := Int) (P := fun _ => True) rfl dec_int w9
  exact ⟨⟨x0, x1, x2, ⟨x3, x4, x5, x6, x7⟩, ⟨x8, x9⟩⟩, rfl, reach_len l9 (by decide)⟩
theorem dec_LTRow (ds : List D) (h : WTs [.sl 96 [.int .i64, .int .i64, .int .i64, .int .i64, .int .i64, .int .i64, .int .i64, .int .i64, .int .i64, .sl 8 [.int .i64]]] ds) : ∃ x : (List TRow), ds = Enc.enc x ∧ x.length ≤ 140737488351232 ∧ ∀ y0 ∈ x, wf_TRow y0 := by
  simp only [WTs] at h
  obtain ⟨d, r, rfl, w, rfl⟩ := h
  obtain ⟨x, rfl, l, p⟩ := WT_rL (α := TRow) (P := fun y => wf_TRow y) rfl dec_TRow w
  exact ⟨x, rfl, ⟨reach_len l (by decide), p⟩⟩
def sz_TTable (x : TTable) : Nat := szL (szL sz_TRow) x.rows
def wf_TTable (x : TTable) : Prop := (x.rows.length ≤ 140737488351232 ∧ ∀ y0 ∈ x.rows, y0.length ≤ 140737488351232 ∧ ∀ y1 ∈ y0, wf_TRow y1)
def ct_TTable (x : TTable) : Nat := 1 + ctL (ctL ct_TRow) x.rows
def mk_TTable (x : TTable) (k : Int) : TTable := ⟨(k), (mkL (ctL ct_TRow) (mkL ct_TRow mk_TRow) x.rows (k + 1))⟩
theorem ctu_TTable (x : TTable) : ct_TTable x = 1 + ctL (ctL ct_TRow) x.rows := by
  unfold ct_TTable
  try omega
theorem szu_TTable (x : TTable) : sz_TTable x = szL (szL sz_TRow) x.rows := by
  unfold sz_TTable
  simp only [szL_zero]
  try omega
theorem ctb_TTable (x : TTable) : ct_TTable x ≤ 16 + 16 * sz_TTable x := by
  have h0 := ctL_le (c := (ctL ct_TRow)) (f := (szL sz_TRow)) (m := 16) (by omega) (fun xs => Nat.le_trans (ctL_le (c := ct_TRow) (f := sz_TRow) (m := 16) (by omega) ctb_TRow xs) (Nat.le_add_left _ _)) x.rows
  rw [ctu_TTable, szu_TTable]
  try simp only [szL_zero] at *
  omega
theorem dec_TTable (ds : List D) (h : WTs [.int .i64, .sl 24 [.sl 96 [.int .i64, .int .i64, .int .i64, .int .i64, .int .i64, .int .i64, .int .i64, .int .i64, .int .i64, .sl 8 [.int .i64]]]] ds) : ∃ x : TTable, ds = Enc.enc x ∧ wf_TTable x := by
  simp only [WTs] at h
  obtain ⟨d0, r0, rfl, w0, d1, r1, rfl, w1, rfl⟩ := h
  obtain ⟨x0, rfl, -, -⟩ := WT_int w0
  obtain ⟨x1, rfl, l1, p1⟩ := WT_rL (α := (List TRow)) (P := fun y => y.length ≤ 140737488351232 ∧ ∀ y0 ∈ y, wf_TRow y0) rfl (dec_LTRow) w1
  exact ⟨⟨x0, x1⟩, rfl, ⟨reach_len l1 (by decide), p1⟩⟩
def sz_TLead (x : TLead) : Nat := sz_TAttr x.first + sz_TAttr x.attr + szL (fun _ => 0) x.who + szL sz_TRow x.seen
def wf_TLead (x : TLead) : Prop := (wf_TAttr x.first) ∧ (wf_TAttr x.attr) ∧ (x.who.length ≤ 140737488351232) ∧ (x.seen.length ≤ 140737488351232 ∧ ∀ y0 ∈ x.seen, wf_TRow y0)
def ct_TLead (x : TLead) : Nat := 1 + 1 + 1 + 1 + ct_TCmd x.cmd + ct_TAttr x.first + ct_TAttr x.attr + 1 + ctL (fun _ => 1) x.who + ctL ct_TRow x.seen
def mk_TLead (x : TLead) (k : Int) : TLead := ⟨(k), (k + 1), (k + 1 + 1), (k + 1 + 1 + 1), ⟨(k + 1 + 1 + 1 + 1), (k + 1 + 1 + 1 + 1 + 1), (k + 1 + 1 + 1 + 1 + 1 + 1), (k + 1 + 1 + 1 + 1 + 1 + 1 + 1), (k + 1 + 1 + 1 + 1 + 1 + 1 + 1 + 1)⟩, ⟨(k + 1 + 1 + 1 + 1 + 1 + 1 + 1 + 1 + 1), (mkL (fun _ => 1) (fun _ k => k) x.first.deps (k + 1 + 1 + 1 + 1 + 1 + 1 + 1 + 1 + 1 + 1))⟩, ⟨(k + 1 + 1 + 1 + 1 + 1 + 1 + 1 + 1 + 1 + 1 + (ctL (fun _ => 1) x.first.deps : Nat)), (mkL (fun _ => 1) (fun _ k => k) x.attr.deps (k + 1 + 1 + 1 + 1 + 1 + 1 + 1 + 1 + 1 + 1 + (ctL (fun _ => 1) x.first.deps : Nat) + 1))⟩, ((k + 1 + 1 + 1 + 1 + 1 + 1 + 1 + 1 + 1 + 1 + (ctL (fun _ => 1) x.first.deps : Nat) + 1 + (ctL (fun _ => 1) x.attr.deps : Nat)) % 3 == 0), (mkL (fun _ => 1) (fun _ k => k) x.who (k + 1 + 1 + 1 + 1 + 1 + 1 + 1 + 1 + 1 + 1 + (ctL (fun _ => 1) x.first.deps : Nat) + 1 + (ctL (fun _ => 1) x.attr.deps : Nat) + 1)), (mkL ct_TRow mk_TRow x.seen (k + 1 + 1 + 1 + 1 + 1 + 1 + 1 + 1 + 1 + 1 + (ctL (fun _ => 1) x.first.deps : Nat) + 1 + (ctL (fun _ => 1) x.attr.deps : Nat) + 1 + (ctL (fun _ => 1) x.who : Nat)))⟩
theorem ctu_TLead (x : TLead) : ct_TLead x = 12 + ctL (fun _ => 1) x.first.deps + ctL (fun _ => 1) x.attr.deps + ctL (fun _ => 1) x.who + ctL ct_TRow x.seen := by
  unfold ct_TLead
  simp only [ctu_TCmd]
  simp only [ctu_TAttr]
  try omega
theorem szu_TLead (x : TLead) : sz_TLead x = x.first.deps.length + x.attr.deps.length + x.who.length + szL sz_TRow x.seen := by
  unfold sz_TLead
  simp only [szL_zero, szu_TAttr]
  try omega
theorem ctb_TLead (x : TLead) : ct_TLead x ≤ 16 + 16 * sz_TLead x := by
  have h0 := ctL_le (c := (fun _ => 1)) (f := (fun _ => 0)) (m := 16) (by omega) (fun _ => by simp) x.first.deps
  have h1 := ctL_le (c := (fun _ => 1)) (f := (fun _ => 0)) (m := 16) (by omega) (fun _ => by simp) x.attr.deps
  have h2 := ctL_le (c := (fun _ => 1)) (f := (fun _ => 0)) (m := 16) (by omega) (fun _ => by simp) x.who
  have h3 := ctL_le (c := ct_TRow) (f := sz_TRow) (m := 16) (by omega) ctb_TRow x.seen
  rw [ctu_TLead, szu_TLead]
  try simp only [szL_zero] at *
  omega
theorem dec_TLead (ds : List D) (h : WTs [.int .i64, .int .i64, .int .i64, .int .i64, .int .i64, .int .i64, .int .i64, .int .i64, .int .i64, .int .i64, .sl 8 [.int .i64], .int .i64, .sl 8 [.int .i64], .bool, .sl 8 [.int .i64], .sl 96 [.int .i64, .int .i64, .int .i64, .int .i64, .int .i64, .int .i64, .int .i64, .int .i64, .int .i64, .sl 8 [.int .i64]]] ds) : ∃ x : TLead, ds = Enc.enc x ∧ wf_TLead x := by
  simp only [WTs] at h
  obtain ⟨d0, r0, rfl, w0, d1, r1, rfl, w1, d2, r2, rfl, w2, d3, r3, rfl, w3, d4, r4, rfl, w4, d5, r5, rfl, w5, d6, r6, rfl, w6, d7, r7, rfl, w7, d8, r8, rfl, w8, d9, r9, rfl, w9, d10, r10, rfl, w10, d11, r11, rfl, w11, d12, r12, rfl, w12, d13, r13, rfl, w13, d14, r14, rfl, w14, d15, r15, rfl, w15, rfl⟩ := h
  obtain ⟨x0, rfl, -, -⟩ := WT_int w0
  obtain ⟨x1, rfl, -, -⟩ := WT_int w1
  obtain ⟨x2, rfl, -, -⟩ := WT_int w2
  obtain ⟨x3, rfl, -, -⟩ := WT_int w3
  obtain ⟨x4, rfl, -, -⟩ := WT_int w4
  obtain ⟨x5, rfl, -, -⟩ := WT_int w5
  obtain ⟨x6, rfl, -, -⟩ := WT_int w6
  obtain ⟨x7, rfl, -, -⟩ := WT_int w7
  obtain ⟨x8, rfl, -, -⟩ := WT_int w8
  obtain ⟨x9, rfl, -, -⟩ := WT_int w9
  obtain ⟨x10, rfl, l10, p10⟩ := WT_rL (α := Int) (P := fun _ => True) rfl dec_int w10
  obtain ⟨x11, rfl, -, -⟩ := WT_int w11
  obtain ⟨x12, rfl, l12, p12⟩ := WT_rL (α := Int) (P := fun _ => True) rfl dec_int w12
  obtain ⟨x13, rfl⟩ := WT_bool w13
  obtain ⟨x14, rfl, l14, p14⟩ := WT_rL (α := Int) (P := fun _ => True) rfl dec_int w14
  obtain ⟨x15, rfl, l15, p15⟩ := WT_rL (α := TRow) (P := fun y => wf_TRow y) rfl dec_TRow w15
  exact ⟨⟨x0, x1, x2, x3, ⟨x4, x5, x6, x7, x8⟩, ⟨x9, x10⟩, ⟨x11, x12⟩, x13, x14, x15⟩, rfl, ⟨reach_len l10 (by decide), reach_len l12 (by decide), reach_len l14 (by decide), ⟨reach_len l15 (by decide), p15⟩⟩⟩
def sz_TRep (x : TRep) : Nat := sz_TTable x.table + szL sz_TLead x.leads
def wf_TRep (x : TRep) : Prop := (wf_TTable x.table) ∧ (x.leads.length ≤ 140737488351232 ∧ ∀ y0 ∈ x.leads, wf_TLead y0)
def ct_TRep (x : TRep) : Nat := 1 + ct_TTable x.table + ctL ct_TLead x.leads
def mk_TRep (x : TRep) (k : Int) : TRep := ⟨(k), ⟨(k + 1), (mkL (ctL ct_TRow) (mkL ct_TRow mk_TRow) x.table.rows (k + 1 + 1))⟩, (mkL ct_TLead mk_TLead x.leads (k + 1 + 1 + (ctL (ctL ct_TRow) x.table.rows : Nat)))⟩
theorem ctu_TRep (x : TRep) : ct_TRep x = 2 + ctL (ctL ct_TRow) x.table.rows + ctL ct_TLead x.leads := by
  unfold ct_TRep
  simp only [ctu_TTable]
  try omega
theorem szu_TRep (x : TRep) : sz_TRep x = szL (szL sz_TRow) x.table.rows + szL sz_TLead x.leads := by
  unfold sz_TRep
  simp only [szL_zero, szu_TTable]
  try omega
theorem ctb_TRep (x : TRep) : ct_TRep x ≤ 16 + 16 * sz_TRep x := by
  have h0 := ctL_le (c := (ctL ct_TRow)) (f := (szL sz_TRow)) (m := 16) (by omega) (fun xs => Nat.le_trans (ctL_le (c := ct_TRow) (f := sz_TRow) (m := 16) (by omega) ctb_TRow xs) (Nat.le_add_left _ _)) x.table.rows
  have h1 := ctL_le (c := ct_TLead) (f := sz_TLead) (m := 16) (by omega) ctb_TLead x.leads
  rw [ctu_TRep, szu_TRep]
  try simp only [szL_zero] at *
  omega
theorem dec_TRep (ds : List D) (h : WTs [.int .i64, .int .i64, .sl 24 [.sl 96 [.int .i64, .int .i64, .int .i64, .int .i64, .int .i64, .int .i64, .int .i64, .int .i64, .int .i64, .sl 8 [.int .i64]]], .sl 192 [.int .i64, .int .i64, .int .i64, .int .i64, .int .i64, .int .i64, .int .i64, .int .i64, .int .i64, .int .i64, .sl 8 [.int .i64], .int .i64, .sl 8 [.int .i64], .bool, .sl 8 [.int .i64], .sl 96 [.int .i64, .int .i64, .int .i64, .int .i64, .int .i64, .int .i64, .int .i64, .int .i64, .int .i64, .sl 8 [.int .i64]]]] ds) : ∃ x : TRep, ds = Enc.enc x ∧ wf_TRep x := by
  simp only [WTs] at h
  obtain ⟨d0, r0, rfl, w0, d1, r1, rfl, w1, d2, r2, rfl, w2, d3, r3, rfl, w3, rfl⟩ := h
  obtain ⟨x0, rfl, -, -⟩ := WT_int w0
  obtain ⟨x1, rfl, -, -⟩ := WT_int w1
  obtain ⟨x2, rfl, l2, p2⟩ := WT_rL (α := (List TRow)) (P := fun y => y.length ≤ 140737488351232 ∧ ∀ y0 ∈ y, wf_TRow y0) rfl (dec_LTRow) w2
  obtain ⟨x3, rfl, l3, p3⟩ := WT_rL (α := TLead) (P := fun y => wf_TLead y) rfl dec_TLead w3
  exact ⟨⟨x0, ⟨x1, x2⟩, x3⟩, rfl, ⟨⟨reach_len l2 (by decide), p2⟩, ⟨reach_len l3 (by decide), p3⟩⟩⟩
def sz_TMsg (x : TMsg) : Nat := sz_TAttr x.attr
def wf_TMsg (x : TMsg) : Prop := (wf_TAttr x.attr)
def ct_TMsg (x : TMsg) : Nat := 1 + 1 + 1 + 1 + 1 + 1 + 1 + 1 + ct_TCmd x.cmd + ct_TAttr x.attr
def mk_TMsg (x : TMsg) (k : Int) : TMsg := ⟨(k), (k + 1), (k + 1 + 1), (k + 1 + 1 + 1), (k + 1 + 1 + 1 + 1), (k + 1 + 1 + 1 + 1 + 1), (k + 1 + 1 + 1 + 1 + 1 + 1), (k + 1 + 1 + 1 + 1 + 1 + 1 + 1), ⟨(k + 1 + 1 + 1 + 1 + 1 + 1 + 1 + 1), (k + 1 + 1 + 1 + 1 + 1 + 1 + 1 + 1 + 1), (k + 1 + 1 + 1 + 1 + 1 + 1 + 1 + 1 + 1 + 1), (k + 1 + 1 + 1 + 1 + 1 + 1 + 1 + 1 + 1 + 1 + 1), (k + 1 + 1 + 1 + 1 + 1 + 1 + 1 + 1 + 1 + 1 + 1 + 1)⟩, ⟨(k + 1 + 1 + 1 + 1 + 1 + 1 + 1 + 1 + 1 + 1 + 1 + 1 + 1), (mkL (fun _ => 1) (fun _ k => k) x.attr.deps (k + 1 + 1 + 1 + 1 + 1 + 1 + 1 + 1 + 1 + 1 + 1 + 1 + 1 + 1))⟩⟩
theorem ctu_TMsg (x : TMsg) : ct_TMsg x = 14 + ctL (fun _ => 1) x.attr.deps := by
  unfold ct_TMsg
  simp only [ctu_TCmd]
  simp only [ctu_TAttr]
  try omega
theorem szu_TMsg (x : TMsg) : sz_TMsg x = x.attr.deps.length := by
  unfold sz_TMsg
  simp only [szL_zero, szu_TAttr]
  try omega
theorem ctb_TMsg (x : TMsg) : ct_TMsg x ≤ 16 + 16 * sz_TMsg x := by
  have h0 := ctL_le (c := (fun _ => 1)) (f := (fun _ => 0)) (m := 16) (by omega) (fun _ => by simp) x.attr.deps
  rw [ctu_TMsg, szu_TMsg]
  try simp only [szL_zero] at *
  omega
theorem dec_TMsg (ds : List D) (h : WTs [.int .i64, .int .i64, .int .i64, .int .i64, .int .i64, .int .i64, .int .i64, .int .i64, .int .i64, .int .i64, .int .i64, .int .i64, .int .i64, .int .i64, .sl 8 [.int .i64]] ds) : ∃ x : TMsg, ds = Enc.enc x ∧ wf_TMsg x := by
  simp only [WTs] at h
  obtain ⟨d0, r0, rfl, w0, d1, r1, rfl, w1, d2, r2, rfl, w2, d3, r3, rfl, w3, d4, r4, rfl, w4, d5, r5, rfl, w5, d6, r6, rfl, w6, d7, r7, rfl, w7, d8, r8, rfl, w8, d9, r9, rfl, w9, d10, r10, rfl, w10, d11, r11, rfl, w11, d12, r12, rfl, w12, d13, r13, rfl, w13, d14, r14, rfl, w14, rfl⟩ := h
  obtain ⟨x0, rfl, -, -⟩ := WT_int w0
  obtain ⟨x1, rfl, -, -⟩ := WT_int w1
  obtain ⟨x2, rfl, -, -⟩ := WT_int w2
  obtain ⟨x3, rfl, -, -⟩ := WT_int w3
  obtain ⟨x4, rfl, -, -⟩ := WT_int w4
  obtain ⟨x5, rfl, -, -⟩ := WT_int w5
  obtain ⟨x6, rfl, -, -⟩ := WT_int w6
  obtain ⟨x7, rfl, -, -⟩ := WT_int w7
  obtain ⟨x8, rfl, -, -⟩ := WT_int w8
  obtain ⟨x9, rfl, -, -⟩ := WT_int w9
  obtain ⟨x10, rfl, -, -⟩ := WT_int w10
  obtain ⟨x11, rfl, -, -⟩ := WT_int w11
  obtain ⟨x12, rfl, -, -⟩ := WT_int w12
  obtain ⟨x13, rfl, -, -⟩ := WT_int w13
  obtain ⟨x14, rfl, l14, p14⟩ := WT_rL (α := Int) (P := fun _ => True) rfl dec_int w14
  exact ⟨⟨x0, x1, x2, x3, x4, x5, x6, x7, ⟨x8, x9, x10, x11, x12⟩, ⟨x13, x14⟩⟩, rfl, reach_len l14 (by decide)⟩
def ct_TAsked (x : TAsked) : Nat := 1 + 1 + ct_TCmd x.cmd
def mk_TAsked (x : TAsked) (k : Int) : TAsked := ⟨(k), (k + 1), ⟨(k + 1 + 1), (k + 1 + 1 + 1), (k + 1 + 1 + 1 + 1), (k + 1 + 1 + 1 + 1 + 1), (k + 1 + 1 + 1 + 1 + 1 + 1)⟩⟩
theorem ctu_TAsked (x : TAsked) : ct_TAsked x = 7 := by
  unfold ct_TAsked
  simp only [ctu_TCmd]
  try omega
theorem ctb_TAsked (x : TAsked) : ct_TAsked x ≤ 16 + 16 * (fun _ : TAsked => 0) x := by
  rw [ctu_TAsked]
  simp
theorem dec_TAsked (ds : List D) (h : WTs [.int .i64, .int .i64, .int .i64, .int .i64, .int .i64, .int .i64, .int .i64] ds) : ∃ x : TAsked, ds = Enc.enc x ∧ True := by
  simp only [WTs] at h
  obtain ⟨d0, r0, rfl, w0, d1, r1, rfl, w1, d2, r2, rfl, w2, d3, r3, rfl, w3, d4, r4, rfl, w4, d5, r5, rfl, w5, d6, r6, rfl, w6, rfl⟩ := h
  obtain ⟨x0, rfl, -, -⟩ := WT_int w0
  obtain ⟨x1, rfl, -, -⟩ := WT_int w1
  obtain ⟨x2, rfl, -, -⟩ := WT_int w2
  obtain ⟨x3, rfl, -, -⟩ := WT_int w3
  obtain ⟨x4, rfl, -, -⟩ := WT_int w4
  obtain ⟨x5, rfl, -, -⟩ := WT_int w5
  obtain ⟨x6, rfl, -, -⟩ := WT_int w6
  exact ⟨⟨x0, x1, ⟨x2, x3, x4, x5, x6⟩⟩, rfl, trivial⟩
def sz_TNet (x : TNet) : Nat := szL sz_TRep x.reps + szL sz_TMsg x.bag + szL (fun _ => 0) x.asked
def wf_TNet (x : TNet) : Prop := (x.reps.length ≤ 140737488351232 ∧ ∀ y0 ∈ x.reps, wf_TRep y0) ∧ (x.bag.length ≤ 140737488351232 ∧ ∀ y0 ∈ x.bag, wf_TMsg y0) ∧ (x.asked.length ≤ 140737488351232)
def ct_TNet (x : TNet) : Nat := ctL ct_TRep x.reps + ctL ct_TMsg x.bag + ctL ct_TAsked x.asked
def mk_TNet (x : TNet) (k : Int) : TNet := ⟨(mkL ct_TRep mk_TRep x.reps (k)), (mkL ct_TMsg mk_TMsg x.bag (k + (ctL ct_TRep x.reps : Nat))), (mkL ct_TAsked mk_TAsked x.asked (k + (ctL ct_TRep x.reps : Nat) + (ctL ct_TMsg x.bag : Nat)))⟩
theorem ctu_TNet (x : TNet) : ct_TNet x = 0 + ctL ct_TRep x.reps + ctL ct_TMsg x.bag + ctL ct_TAsked x.asked := by
  unfold ct_TNet
  try omega
theorem szu_TNet (x : TNet) : sz_TNet x = szL sz_TRep x.reps + szL sz_TMsg x.bag + x.asked.length := by
  unfold sz_TNet
  simp only [szL_zero]
  try omega
theorem ctb_TNet (x : TNet) : ct_TNet x ≤ 16 + 16 * sz_TNet x := by
  have h0 := ctL_le (c := ct_TRep) (f := sz_TRep) (m := 16) (by omega) ctb_TRep x.reps
  have h1 := ctL_le (c := ct_TMsg) (f := sz_TMsg) (m := 16) (by omega) ctb_TMsg x.bag
  have h2 := ctL_le (c := ct_TAsked) (f := (fun _ => 0)) (m := 16) (by omega) ctb_TAsked x.asked
  rw [ctu_TNet, szu_TNet]
  try simp only [szL_zero] at *
  omega
theorem dec_TNet (ds : List D) (h : WTs [.sl 64 [.int .i64, .int .i64, .sl 24 [.sl 96 [.int .i64, .int .i64, .int .i64, .int .i64, .int .i64, .int .i64, .int .i64, .int .i64, .int .i64, .sl 8 [.int .i64]]], .sl 192 [.int .i64, .int .i64, .int .i64, .int .i64, .int .i64, .int .i64, .int .i64, .int .i64, .int .i64, .int .i64, .sl 8 [.int .i64], .int .i64, .sl 8 [.int .i64], .bool, .sl 8 [.int .i64], .sl 96 [.int .i64, .int .i64, .int .i64, .int .i64, .int .i64, .int .i64, .int .i64, .int .i64, .int .i64, .sl 8 [.int .i64]]]], .sl 136 [.int .i64, .int .i64, .int .i64, .int .i64, .int .i64, .int .i64, .int .i64, .int .i64, .int .i64, .int .i64, .int .i64, .int .i64, .int .i64, .int .i64, .sl 8 [.int .i64]], .sl 56 [.int .i64, .int .i64, .int .i64, .int .i64, .int .i64, .int .i64, .int .i64]] ds) : ∃ x : TNet, ds = Enc.enc x ∧ wf_TNet x := by
  simp only [WTs] at h
  obtain ⟨d0, r0, rfl, w0, d1, r1, rfl, w1, d2, r2, rfl, w2, rfl⟩ := h
  obtain ⟨x0, rfl, l0, p0⟩ := WT_rL (α := TRep) (P := fun y => wf_TRep y) rfl dec_TRep w0
  obtain ⟨x1, rfl, l1, p1⟩ := WT_rL (α := TMsg) (P := fun y => wf_TMsg y) rfl dec_TMsg w1
  obtain ⟨x2, rfl, l2, p2⟩ := WT_rL (α := TAsked) (P := fun y => True) rfl dec_TAsked w2
  exact ⟨⟨x0, x1, x2⟩, rfl, ⟨⟨reach_len l0 (by decide), p0⟩, ⟨reach_len l1 (by decide), p1⟩, reach_len l2 (by decide)⟩⟩
def ct_TTold (x : TTold) : Nat := 1 + 1
def mk_TTold (x : TTold) (k : Int) : TTold := ⟨(k), (k + 1)⟩
theorem ctu_TTold (x : TTold) : ct_TTold x = 2 := by
  unfold ct_TTold
  try omega
theorem ctb_TTold (x : TTold) : ct_TTold x ≤ 16 + 16 * (fun _ : TTold => 0) x := by
  rw [ctu_TTold]
  simp
theorem dec_TTold (ds : List D) (h : WTs [.int .i64, .int .i64] ds) : ∃ x : TTold, ds = Enc.enc x ∧ True := by
  simp only [WTs] at h
  obtain ⟨d0, r0, rfl, w0, d1, r1, rfl, w1, rfl⟩ := h
  obtain ⟨x0, rfl, -, -⟩ := WT_int w0
  obtain ⟨x1, rfl, -, -⟩ := WT_int w1
  exact ⟨⟨x0, x1⟩, rfl, trivial⟩
def ct_TEntry (x : TEntry) : Nat := 1 + 1 + ct_TCmd x.cmd + ct_TTold x.told
def mk_TEntry (x : TEntry) (k : Int) : TEntry := ⟨(k), (k + 1), ⟨(k + 1 + 1), (k + 1 + 1 + 1), (k + 1 + 1 + 1 + 1), (k + 1 + 1 + 1 + 1 + 1), (k + 1 + 1 + 1 + 1 + 1 + 1)⟩, ⟨(k + 1 + 1 + 1 + 1 + 1 + 1 + 1), (k + 1 + 1 + 1 + 1 + 1 + 1 + 1 + 1)⟩⟩
theorem ctu_TEntry (x : TEntry) : ct_TEntry x = 9 := by
  unfold ct_TEntry
  simp only [ctu_TCmd]
  simp only [ctu_TTold]
  try omega
theorem ctb_TEntry (x : TEntry) : ct_TEntry x ≤ 16 + 16 * (fun _ : TEntry => 0) x := by
  rw [ctu_TEntry]
  simp
theorem dec_TEntry (ds : List D) (h : WTs [.int .i64, .int .i64, .int .i64, .int .i64, .int .i64, .int .i64, .int .i64, .int .i64, .int .i64] ds) : ∃ x : TEntry, ds = Enc.enc x ∧ True := by
  simp only [WTs] at h
  obtain ⟨d0, r0, rfl, w0, d1, r1, rfl, w1, d2, r2, rfl, w2, d3, r3, rfl, w3, d4, r4, rfl, w4, d5, r5, rfl, w5, d6, r6, rfl, w6, d7, r7, rfl, w7, d8, r8, rfl, w8, rfl⟩ := h
  obtain ⟨x0, rfl, -, -⟩ := WT_int w0
  obtain ⟨x1, rfl, -, -⟩ := WT_int w1
  obtain ⟨x2, rfl, -, -⟩ := WT_int w2
  obtain ⟨x3, rfl, -, -⟩ := WT_int w3
  obtain ⟨x4, rfl, -, -⟩ := WT_int w4
  obtain ⟨x5, rfl, -, -⟩ := WT_int w5
  obtain ⟨x6, rfl, -, -⟩ := WT_int w6
  obtain ⟨x7, rfl, -, -⟩ := WT_int w7
  obtain ⟨x8, rfl, -, -⟩ := WT_int w8
  exact ⟨⟨x0, x1, ⟨x2, x3, x4, x5, x6⟩, ⟨x7, x8⟩⟩, rfl, trivial⟩
def sz_TClerk (x : TClerk) : Nat := szL (fun _ => 0) x.sums + szL (fun _ => 0) x.last + szL (fun _ => 0) x.told
def wf_TClerk (x : TClerk) : Prop := (x.sums.length ≤ 140737488351232) ∧ (x.last.length ≤ 140737488351232) ∧ (x.told.length ≤ 140737488351232)
def ct_TClerk (x : TClerk) : Nat := ctL (fun _ => 1) x.sums + ctL (fun _ => 1) x.last + ctL ct_TTold x.told
def mk_TClerk (x : TClerk) (k : Int) : TClerk := ⟨(mkL (fun _ => 1) (fun _ k => k) x.sums (k)), (mkL (fun _ => 1) (fun _ k => k) x.last (k + (ctL (fun _ => 1) x.sums : Nat))), (mkL ct_TTold mk_TTold x.told (k + (ctL (fun _ => 1) x.sums : Nat) + (ctL (fun _ => 1) x.last : Nat)))⟩
theorem ctu_TClerk (x : TClerk) : ct_TClerk x = 0 + ctL (fun _ => 1) x.sums + ctL (fun _ => 1) x.last + ctL ct_TTold x.told := by
  unfold ct_TClerk
  try omega
theorem szu_TClerk (x : TClerk) : sz_TClerk x = x.sums.length + x.last.length + x.told.length := by
  unfold sz_TClerk
  simp only [szL_zero]
  try omega
theorem ctb_TClerk (x : TClerk) : ct_TClerk x ≤ 16 + 16 * sz_TClerk x := by
  have h0 := ctL_le (c := (fun _ => 1)) (f := (fun _ => 0)) (m := 16) (by omega) (fun _ => by simp) x.sums
  have h1 := ctL_le (c := (fun _ => 1)) (f := (fun _ => 0)) (m := 16) (by omega) (fun _ => by simp) x.last
  have h2 := ctL_le (c := ct_TTold) (f := (fun _ => 0)) (m := 16) (by omega) ctb_TTold x.told
  rw [ctu_TClerk, szu_TClerk]
  try simp only [szL_zero] at *
  omega
theorem dec_TClerk (ds : List D) (h : WTs [.sl 8 [.int .i64], .sl 8 [.int .i64], .sl 16 [.int .i64, .int .i64]] ds) : ∃ x : TClerk, ds = Enc.enc x ∧ wf_TClerk x := by
  simp only [WTs] at h
  obtain ⟨d0, r0, rfl, w0, d1, r1, rfl, w1, d2, r2, rfl, w2, rfl⟩ := h
  obtain ⟨x0, rfl, l0, p0⟩ := WT_rL (α := Int) (P := fun _ => True) rfl dec_int w0
  obtain ⟨x1, rfl, l1, p1⟩ := WT_rL (α := Int) (P := fun _ => True) rfl dec_int w1
  obtain ⟨x2, rfl, l2, p2⟩ := WT_rL (α := TTold) (P := fun y => True) rfl dec_TTold w2
  exact ⟨⟨x0, x1, x2⟩, rfl, ⟨reach_len l0 (by decide), reach_len l1 (by decide), reach_len l2 (by decide)⟩⟩
def ct_TAsk (x : TAsk) : Nat := 1 + 1 + ct_TCmd x.cmd
def mk_TAsk (x : TAsk) (k : Int) : TAsk := ⟨(k), (k + 1), ⟨(k + 1 + 1), (k + 1 + 1 + 1), (k + 1 + 1 + 1 + 1), (k + 1 + 1 + 1 + 1 + 1), (k + 1 + 1 + 1 + 1 + 1 + 1)⟩⟩
theorem ctu_TAsk (x : TAsk) : ct_TAsk x = 7 := by
  unfold ct_TAsk
  simp only [ctu_TCmd]
  try omega
theorem ctb_TAsk (x : TAsk) : ct_TAsk x ≤ 16 + 16 * (fun _ : TAsk => 0) x := by
  rw [ctu_TAsk]
  simp
theorem dec_TAsk (ds : List D) (h : WTs [.int .i64, .int .i64, .int .i64, .int .i64, .int .i64, .int .i64, .int .i64] ds) : ∃ x : TAsk, ds = Enc.enc x ∧ True := by
  simp only [WTs] at h
  obtain ⟨d0, r0, rfl, w0, d1, r1, rfl, w1, d2, r2, rfl, w2, d3, r3, rfl, w3, d4, r4, rfl, w4, d5, r5, rfl, w5, d6, r6, rfl, w6, rfl⟩ := h
  obtain ⟨x0, rfl, -, -⟩ := WT_int w0
  obtain ⟨x1, rfl, -, -⟩ := WT_int w1
  obtain ⟨x2, rfl, -, -⟩ := WT_int w2
  obtain ⟨x3, rfl, -, -⟩ := WT_int w3
  obtain ⟨x4, rfl, -, -⟩ := WT_int w4
  obtain ⟨x5, rfl, -, -⟩ := WT_int w5
  obtain ⟨x6, rfl, -, -⟩ := WT_int w6
  exact ⟨⟨x0, x1, ⟨x2, x3, x4, x5, x6⟩⟩, rfl, trivial⟩
end Go.Proofs.Ytacfmplofkjonaa.Rf

/- What the program's functions come to, in plain Lean: groups, commands, attributes, rows, tables, messages. -/
namespace Go.Proofs.Ytacfmplofkjonaa.Rf
set_option linter.unusedVariables false
set_option linter.unusedSimpArgs false

theorem SZ : (∀ b : Bool, (b && true) = b) ∧ (∀ b : Bool, (true && b) = b) ∧ (∀ b : Bool, (b && false) = false) ∧ (∀ b : Bool, (false && b) = false) ∧
    (∀ b : Bool, (b || true) = true) ∧ (∀ b : Bool, (true || b) = true) ∧ (∀ b : Bool, (b || false) = b) ∧ (∀ b : Bool, (false || b) = b) ∧ ((!true) = false) ∧ ((!false) = true) :=
  ⟨Bool.and_true, Bool.true_and, Bool.and_false, Bool.false_and, Bool.or_true, Bool.true_or, Bool.or_false, Bool.false_or, rfl, rfl⟩

theorem bool_fin {x y : Bool} (h : x = true ↔ y = true) : some [D.bool x] = some [D.bool y] := by rw [Bool.eq_iff_iff.2 h]
/-- Short enough. -/
def big40 : Nat := 1099511627776
def isGrp (n : Int) : Bool := n == 3 || n == 5
theorem isGrp_rng {n : Int} (h : isGrp n = true) : n = 3 ∨ n = 5 := by simpa [isGrp] using h
def inst (n rep no : Int) : Bool := inR rep 0 (n - 1) && inR no 1 6
def cmdZ : TCmd := ⟨0, 0, 0, 0, 0⟩
def cmdOk (c : TCmd) : Bool :=
  if c.kind == 0 then decide (c = ⟨0, 0, 0, 0, 0⟩) else if c.kind == 1 then inR c.id 1 999 && inR c.src 0 3 && inR c.dst 0 3 && !(c.src == c.dst) && inR c.amt 1 1000
  else c.kind == 2 && inR c.id 1 999 && inR c.src 0 3 && c.dst == 0 && c.amt == 0
/-- What is wrong with a command. -/
def cmdCode (c : TCmd) : Int :=
  if !inR c.src 0 3 || (c.kind == 1 && !inR c.dst 0 3) then 4 else if c.kind == 1 && c.src == c.dst then 5 else if !inR c.id 1 999 || (c.kind == 1 && !inR c.amt 1 1000) then 6 else 0
def attrOk (n : Int) (a : TAttr) : Bool := inR a.seq 0 999 && (a.deps.length : Int) == n && a.deps.all fun x => inR x 0 6
def none0 (n : Int) : TAttr := ⟨0, List.replicate n.toNat 0⟩
def rowOk (n : Int) (r : TRow) : Bool :=
  inR r.ballot 0 9999 && inR r.vote 0 r.ballot && inR r.state 0 3 && (if r.state == 0 then r.vote == 0 && decide (r.cmd = ⟨0, 0, 0, 0, 0⟩) && decide (r.attr = none0 n) else cmdOk r.cmd && attrOk n r.attr)
def msgOk (n : Int) (m : TMsg) : Bool :=
  isGrp n && inR m.kind 1 7 && inst n m.rep m.no && inR m.src 0 (n - 1) && inR m.dst 0 (n - 1) && !(m.src == m.dst) && inR m.ballot 0 9999 &&
  (if m.kind == 7 then !(m.state == 3) && rowOk n ⟨m.ballot, m.vote, m.state, m.cmd, m.attr⟩
   else !(m.kind == 5 && !(m.ballot == 0)) && m.vote == 0 && m.state == 0 && cmdOk m.cmd && attrOk n m.attr &&
     (if m.kind == 2 then decide (m.cmd = ⟨0, 0, 0, 0, 0⟩) else if m.kind == 4 || m.kind == 6 then decide (m.cmd = ⟨0, 0, 0, 0, 0⟩) && decide (m.attr = none0 n) else true))

theorem none0_ok {n : Int} (h : isGrp n = true) : attrOk n (none0 n) = true := by
  rcases isGrp_rng h with rfl | rfl <;> rfl
theorem cmdZ_ok {c : TCmd} (h : decide (c = ⟨0, 0, 0, 0, 0⟩) = true) : cmdOk c = true := by
  rw [of_decide_eq_true h]; rfl
theorem cmdCode0 {c : TCmd} : (cmdCode c == 0) = (inR c.src 0 3 && inR c.id 1 999 && (!(c.kind == 1) || (inR c.dst 0 3 && !(c.src == c.dst) && inR c.amt 1 1000))) := by
  unfold cmdCode
  cases inR c.src 0 3 <;> cases inR c.id 1 999 <;> cases c.kind == 1 <;> cases inR c.dst 0 3 <;> cases c.src == c.dst <;> cases inR c.amt 1 1000 <;> rfl
theorem replicate_le {n : Int} (h : isGrp n = true) : (List.replicate n.toNat (0 : Int)).length ≤ big40 := by
  rcases isGrp_rng h with rfl | rfl <;> decide

/-! ### Tables -/
def smRows (xs : List TRow) : Prop := xs.length ≤ 10000000000 ∧ ∀ r ∈ xs, r.attr.deps.length ≤ 10000000000
def smTab (rows : List (List TRow)) : Prop := rows.length ≤ 10000000000 ∧ ∀ l ∈ rows, smRows l
theorem sz_row (r : TRow) : sz_TRow r = r.attr.deps.length := szL_zero
theorem smRows_of {xs : List TRow} (h : szL sz_TRow xs ≤ 1048576) : smRows xs := by
  refine ⟨Nat.le_trans (szL_len (f := sz_TRow)) (by omega), fun r hr => ?_⟩
  have h1 := szL_mem (f := sz_TRow) hr
  rw [sz_row] at h1
  omega
theorem smTab_of {rows : List (List TRow)} (h : szL (szL sz_TRow) rows ≤ 1048576) : smTab rows := by
  refine ⟨Nat.le_trans (szL_len (f := szL sz_TRow)) (by omega), fun l hl => smRows_of ?_⟩
  have h1 := szL_mem (f := szL sz_TRow) hl
  omega
def tabOk (t : TTable) : Bool := isGrp t.n && (t.rows.length : Int) == t.n && t.rows.all fun l => l.all (fun r => rowOk t.n r) && decide ((l.length : Int) ≤ 6)
def row0 (n : Int) : TRow := ⟨0, 0, 0, ⟨0, 0, 0, 0, 0⟩, none0 n⟩
def trow (t : TTable) (rep no : Int) : TRow := if no ≤ (atI t.rows rep).length then atI (atI t.rows rep) (no - 1) else row0 t.n
def rowD : TRow := ⟨0, 0, 0, ⟨0, 0, 0, 0, 0⟩, ⟨0, []⟩⟩
def rowAtR (t : TTable) (rep no : Int) : TRow × Bool := if tabOk t && inst t.n rep no then (trow t rep no, true) else (rowD, false)
theorem S_nil : (rL ([] : List Int) = .rows 1 []) ∧ (rL ([] : List (List Int)) = .rows 1 []) ∧ (rL ([] : List TRow) = .rows 10 []) ∧ (rL ([] : List (List TRow)) = .rows 1 []) ∧ (rL ([] : List TLead) = .rows 16 []) ∧ (rL ([] : List TMsg) = .rows 15 []) ∧
    (rL ([] : List TAsk) = .rows 7 []) ∧ (rL ([] : List TTold) = .rows 2 []) := ⟨rfl, rfl, rfl, rfl, rfl, rfl, rfl, rfl⟩
theorem inst_rng {n rep no : Int} (h : inst n rep no = true) : 0 ≤ rep ∧ rep ≤ n - 1 ∧ 1 ≤ no ∧ no ≤ 6 := by
  simp only [inst, inR, Bool.and_eq_true, decide_eq_true_eq] at h
  omega
theorem tabOk_grp {t : TTable} (h : tabOk t = true) : isGrp t.n = true := by
  simp only [tabOk, Bool.and_eq_true] at h; exact h.1.1
theorem tabOk_len {t : TTable} (h : tabOk t = true) : (t.rows.length : Int) = t.n := by
  simp only [tabOk, Bool.and_eq_true, beq_iff_eq] at h; exact h.1.2
theorem tabOk_in {t : TTable} {rep no : Int} (h : tabOk t = true) (hi : inst t.n rep no = true) : InB t.rows rep := by
  have := tabOk_len h
  have := inst_rng hi
  unfold InB; omega
theorem tabOk_rows {t : TTable} (h : tabOk t = true) {l : List TRow} (hl : l ∈ t.rows) : l.length ≤ 6 ∧ ∀ r ∈ l, rowOk t.n r = true := by
  simp only [tabOk, Bool.and_eq_true, List.all_eq_true, decide_eq_true_eq] at h
  have := h.2 l hl
  exact ⟨by omega, this.1⟩
theorem rowOk_deps {n : Int} {r : TRow} (h : rowOk n r = true) (hg : isGrp n = true) : (r.attr.deps.length : Int) = n := by
  have h2 : attrOk n r.attr = true := by
    simp only [rowOk, Bool.and_eq_true] at h
    have h3 := h.2
    split at h3
    · simp only [Bool.and_eq_true] at h3
      rw [of_decide_eq_true h3.2]
      exact none0_ok hg
    · simp only [Bool.and_eq_true] at h3
      exact h3.2
  simp only [attrOk, Bool.and_eq_true, beq_iff_eq] at h2
  exact h2.1.2
theorem rowOk_cmd {n : Int} {r : TRow} (h : rowOk n r = true) : cmdOk r.cmd = true := by
  simp only [rowOk, Bool.and_eq_true] at h
  have h3 := h.2
  split at h3
  · simp only [Bool.and_eq_true] at h3
    exact cmdZ_ok h3.1.2
  · simp only [Bool.and_eq_true] at h3
    exact h3.1
theorem at_memI {α : Type} [Inhabited α] {xs : List α} {k : Int} (h : InB xs k) : atI xs k ∈ xs := by
  have h2 := h.lt
  have e : ((k.toNat : Nat) : Int) = k := by unfold InB at h; omega
  rw [← e]
  exact at_mem h2
theorem trow_ok {t : TTable} {rep no : Int} (h : tabOk t = true) (hi : inst t.n rep no = true) : rowOk t.n (trow t rep no) = true := by
  unfold trow
  have hb := tabOk_in h hi
  have hr := inst_rng hi
  split
  · exact (tabOk_rows h (at_memI hb)).2 _ (at_memI (by unfold InB; omega))
  · rcases isGrp_rng (tabOk_grp h) with e | e <;> rw [e] <;> rfl
theorem trow_deps {t : TTable} {rep no : Int} (h : tabOk t = true) (hi : inst t.n rep no = true) : ((trow t rep no).attr.deps.length : Int) = t.n := rowOk_deps (trow_ok h hi) (tabOk_grp h)
theorem rowAtR_len (t : TTable) (rep no : Int) : (rowAtR t rep no).1.attr.deps.length ≤ 5 := by
  unfold rowAtR
  split
  · rename_i h
    simp only [Bool.and_eq_true] at h
    have h2 := trow_deps h.1 h.2
    have h3 := isGrp_rng (tabOk_grp h.1)
    simp only
    omega
  · simp [rowD]

def ext (n : Int) (l : List TRow) (no : Int) : List TRow := l ++ List.replicate (no - l.length).toNat (row0 n)
def tset (t : TTable) (rep no : Int) (r : TRow) : TTable := ⟨t.n, setI t.rows rep (setI (ext t.n (atI t.rows rep) no) (no - 1) r)⟩
def tsetR (t : TTable) (rep no : Int) (r : TRow) : TTable × Bool := if tabOk t && inst t.n rep no && rowOk t.n r then (tset t rep no r, true) else (⟨0, []⟩, false)
theorem ext_len {n : Int} {l : List TRow} {no : Int} (h : 0 ≤ no) : ((ext n l no).length : Int) = max (l.length : Int) no := by
  simp only [ext, List.length_append, List.length_replicate]
  omega
theorem szL_setI {α : Type} [Inhabited α] {f : α → Nat} {xs : List α} {k : Int} {a : α} : szL f (setI xs k a) ≤ szL f xs + f a := by
  unfold setI
  generalize k.toNat = i
  induction xs generalizing i with
  | nil => simp [szL]
  | cons x xs ih =>
    cases i with
    | zero => rw [List.set_cons_zero, szL_cons, szL_cons]; omega
    | succ i =>
      have := ih i
      rw [List.set_cons_succ, szL_cons, szL_cons]; omega
theorem szL_app {α : Type} {f : α → Nat} {xs ys : List α} : szL f (xs ++ ys) = szL f xs + szL f ys := by
  induction xs with
  | nil => simp [szL]
  | cons x xs ih => rw [List.cons_append, szL_cons, szL_cons, ih]; omega
theorem szL_rep {α : Type} {f : α → Nat} {a : α} : ∀ n, szL f (List.replicate n a) = n * (1 + f a)
  | 0 => by simp [szL]
  | n + 1 => by rw [List.replicate_succ, szL_cons, szL_rep n, Nat.succ_mul]; omega
theorem tset_sz {t : TTable} {rep no : Int} {r : TRow} (hb : InB t.rows rep) (hn : t.n ≤ 5) (h2 : no ≤ 1000) : szL (szL sz_TRow) (tset t rep no r).rows ≤ 2 * szL (szL sz_TRow) t.rows + sz_TRow r + 6000 := by
  unfold tset
  simp only
  have h1 := szL_setI (f := szL sz_TRow) (xs := t.rows) (k := rep) (a := setI (ext t.n (atI t.rows rep) no) (no - 1) r)
  have h3 := szL_setI (f := sz_TRow) (xs := ext t.n (atI t.rows rep) no) (k := no - 1) (a := r)
  have h4 : szL sz_TRow (ext t.n (atI t.rows rep) no) ≤ szL sz_TRow (atI t.rows rep) + 6000 := by
    unfold ext
    rw [szL_app, szL_rep]
    have e : sz_TRow (row0 t.n) ≤ 5 := by
      rw [sz_row]; simp only [row0, none0, List.length_replicate]; omega
    have : (no - ((atI t.rows rep).length : Int)).toNat * (1 + sz_TRow (row0 t.n)) ≤ 1000 * 6 := Nat.mul_le_mul (by omega) (by omega)
    omega
  have h5 := szL_mem (f := szL sz_TRow) (at_memI hb)
  omega
theorem tsetR_sz (t : TTable) (rep no : Int) (r : TRow) : szL (szL sz_TRow) (tsetR t rep no r).1.rows ≤ 2 * szL (szL sz_TRow) t.rows + sz_TRow r + 6000 := by
  unfold tsetR
  split
  · rename_i h
    simp only [Bool.and_eq_true] at h
    have h2 := isGrp_rng (tabOk_grp h.1.1)
    have h3 := inst_rng h.1.2
    exact tset_sz (tabOk_in h.1.1 h.1.2) (by omega) (by omega)
  · simp [szL]
/-! ### Ballots -/
def nb (b me : Int) : Int := if b < 8 + me then 8 + me else b + 1 + (me - b - 1) % 8
def nbR (t : TTable) (rep no me : Int) : Int × Bool := if tabOk t && inst t.n rep no && inR me 0 (t.n - 1) && decide (nb (trow t rep no).ballot me ≤ 9999) then (nb (trow t rep no).ballot me, true) else (0, false)
theorem rowOk_ballot {n : Int} {r : TRow} (h : rowOk n r = true) : 0 ≤ r.ballot ∧ r.ballot ≤ 9999 := by
  simp only [rowOk, inR, Bool.and_eq_true, decide_eq_true_eq] at h
  exact h.1.1.1
theorem inR_rng {x lo hi : Int} (h : inR x lo hi = true) : lo ≤ x ∧ x ≤ hi := by
  simpa [inR] using h
end Go.Proofs.Ytacfmplofkjonaa.Rf

/- What the program's functions come to, in plain Lean: the ledger, clerks. -/
namespace Go.Proofs.Ytacfmplofkjonaa.Rf
set_option linter.unusedVariables false
set_option linter.unusedSimpArgs false

def isum (xs : List Int) : Int := xs.foldl (· + ·) 0
def sumsOk (xs : List Int) : Bool := (xs.length : Int) == 4 && (xs.all fun x => inR x 0 400) && isum xs == 400
def toldOk (t : TTold) : Bool := inR t.code 0 3 && inR t.sum 0 400 && (t.code == 3 || t.sum == 0)
def clerkAt (last : List Int) (told : List TTold) (i : Nat) : Bool := toldOk (atI told i) && !(atI last i == 0 && !((atI told i).code == 0))
def clerkOk (c : TClerk) : Bool := sumsOk c.sums && (c.last.length : Int) == 4 && (c.told.length : Int) == 4 && (c.last.all fun x => inR x 0 999) && allB (clerkAt c.last c.told) c.told.length
def askOk (a : TAsk) : Bool := inR a.client 0 3 && inR a.no 1 999 && cmdOk a.cmd
def applyM (s : List Int) (c : TCmd) : List Int × TTold :=
  if c.kind == 2 then (s, ⟨3, atI s c.src⟩) else if c.kind == 1 then
    (if decide (atI s c.src < c.amt) then (s, ⟨2, 0⟩) else (setI (setI s c.src (atI s c.src - c.amt)) c.dst (atI (setI s c.src (atI s c.src - c.amt)) c.dst + c.amt), ⟨1, 0⟩))
  else (s, ⟨0, 0⟩)
def serveM (c : TClerk) (a : TAsk) : TClerk × TTold × Int :=
  if a.no == atI c.last a.client then (c, atI c.told a.client, 1) else if decide (a.no < atI c.last a.client) then (c, ⟨0, 0⟩, 2) else if decide (atI c.last a.client + 1 < a.no) then (c, ⟨0, 0⟩, 3)
  else (⟨(applyM c.sums a.cmd).1, setI c.last a.client a.no, setI c.told a.client (applyM c.sums a.cmd).2⟩, (applyM c.sums a.cmd).2, 0)
def serveR (c : TClerk) (a : TAsk) : TClerk × TTold × Int × Bool := if clerkOk c && askOk a then ((serveM c a).1, (serveM c a).2.1, (serveM c a).2.2, true) else (⟨[], [], []⟩, ⟨0, 0⟩, 0, false)
theorem setI_len {α : Type} {xs : List α} {k : Int} {a : α} : (setI xs k a).length = xs.length := List.length_set ..
theorem atI_ne {α : Type} [Inhabited α] {xs : List α} {j k : Int} {a : α} (hj : 0 ≤ j) (hk : 0 ≤ k) (h : j ≠ k) : atI (setI xs j a) k = atI xs k := by
  unfold atI setI
  rw [List.getD_eq_getElem?_getD, List.getD_eq_getElem?_getD, List.getElem?_set_ne (by omega)]
theorem applyM_len (s : List Int) (c : TCmd) : (applyM s c).1.length = s.length := by
  unfold applyM
  split
  · rfl
  · split
    · split
      · rfl
      · simp only [setI_len]
    · rfl
theorem serveM_len (c : TClerk) (a : TAsk) : (serveM c a).1.sums.length = c.sums.length ∧ (serveM c a).1.last.length = c.last.length ∧ (serveM c a).1.told.length = c.told.length := by
  unfold serveM
  split
  · exact ⟨rfl, rfl, rfl⟩
  · split
    · exact ⟨rfl, rfl, rfl⟩
    · split
      · exact ⟨rfl, rfl, rfl⟩
      · exact ⟨applyM_len _ _, setI_len, setI_len⟩
theorem sumsOk_spec {xs : List Int} (h : sumsOk xs = true) : (xs.length : Int) = 4 ∧ ∀ x ∈ xs, 0 ≤ x ∧ x ≤ 400 := by
  simp only [sumsOk, Bool.and_eq_true, beq_iff_eq, List.all_eq_true] at h
  exact ⟨h.1.1, fun x hx => inR_rng (h.1.2 x hx)⟩
theorem clerkOk_spec {c : TClerk} (h : clerkOk c = true) : sumsOk c.sums = true ∧ (c.last.length : Int) = 4 ∧ (c.told.length : Int) = 4 ∧ ∀ x ∈ c.last, 0 ≤ x ∧ x ≤ 999 := by
  simp only [clerkOk, Bool.and_eq_true, beq_iff_eq, List.all_eq_true] at h
  exact ⟨h.1.1.1.1, h.1.1.1.2, h.1.1.2, fun x hx => inR_rng (h.1.2 x hx)⟩
theorem askOk_spec {a : TAsk} (h : askOk a = true) : (0 ≤ a.client ∧ a.client ≤ 3) ∧ (1 ≤ a.no ∧ a.no ≤ 999) ∧ cmdOk a.cmd = true := by
  simp only [askOk, Bool.and_eq_true] at h
  exact ⟨inR_rng h.1.1, inR_rng h.1.2, h.2⟩
theorem serveR_len (c : TClerk) (a : TAsk) : (serveR c a).1.sums.length ≤ 4 ∧ (serveR c a).1.last.length ≤ 4 ∧ (serveR c a).1.told.length ≤ 4 := by
  unfold serveR
  split
  · rename_i h
    simp only [Bool.and_eq_true] at h
    have h2 := clerkOk_spec h.1
    have h3 := sumsOk_spec h2.1
    have h4 := serveM_len c a
    simp only
    omega
  · simp
/-- A good command's accounts. -/
theorem cmdOk_acc {c : TCmd} (h : cmdOk c = true) : (c.kind = 0 ∨ c.kind = 1 ∨ c.kind = 2) ∧ (c.kind = 1 → (0 ≤ c.src ∧ c.src ≤ 3) ∧ (0 ≤ c.dst ∧ c.dst ≤ 3) ∧ c.src ≠ c.dst ∧ 1 ≤ c.amt ∧ c.amt ≤ 1000) ∧ (c.kind = 2 → 0 ≤ c.src ∧ c.src ≤ 3) := by
  unfold cmdOk at h
  split at h
  · rename_i h0
    have : c.kind = 0 := by simpa using h0
    exact ⟨.inl this, by omega, by omega⟩
  · split at h
    · rename_i h1
      have : c.kind = 1 := by simpa using h1
      simp only [Bool.and_eq_true, inR, decide_eq_true_eq, Bool.not_eq_true', beq_eq_false_iff_ne] at h
      exact ⟨by omega, fun _ => ⟨h.1.1.1.2, h.1.1.2, h.1.2, h.2⟩, by omega⟩
    · simp only [Bool.and_eq_true, inR, decide_eq_true_eq, beq_iff_eq] at h
      exact ⟨by omega, by omega, fun _ => h.1.1.2⟩
end Go.Proofs.Ytacfmplofkjonaa.Rf

/- What the program's functions come to, in plain Lean: accounts that commands touch, committed instances. -/
namespace Go.Proofs.Ytacfmplofkjonaa.Rf
set_option linter.unusedVariables false
set_option linter.unusedSimpArgs false

def hasM (xs : List Int) (n : Int) : Bool := xs.any fun x => x == n
def putK (xs : List Int) (n : Int) : Nat := (xs.takeWhile fun x => decide (x < n)).length
/-- A number is put to its place, once. -/
def putM (xs : List Int) (n : Int) : List Int := if decide ((putK xs n : Int) < xs.length) && (atI xs (putK xs n : Nat) == n) then xs else xs.take (putK xs n) ++ [n] ++ xs.drop (putK xs n)
theorem putK_le (xs : List Int) (n : Int) : putK xs n ≤ xs.length := (List.takeWhile_sublist _).length_le
theorem putK_lt : ∀ {xs : List Int} {n : Int} {k : Nat}, k < putK xs n → atI xs (k : Int) < n
  | [], n, k, h => by simp [putK] at h
  | x :: xs, n, k, h => by
    unfold putK at h
    rw [List.takeWhile_cons] at h
    by_cases hx : x < n
    · rw [if_pos (by simpa using hx)] at h
      cases k with
      | zero => exact hx
      | succ k => exact putK_lt (xs := xs) (k := k) (by simpa [putK] using h)
    · rw [if_neg (by simpa using hx)] at h
      simp at h
theorem putK_ge : ∀ {xs : List Int} {n : Int}, putK xs n < xs.length → ¬ atI xs (putK xs n : Nat) < n
  | [], n, h => by simp at h
  | x :: xs, n, h => by
    unfold putK at h ⊢
    rw [List.takeWhile_cons] at h ⊢
    by_cases hx : x < n
    · rw [if_pos (by simpa using hx)] at h ⊢
      exact putK_ge (xs := xs) (n := n) (by simpa [putK] using h)
    · rw [if_neg (by simpa using hx)]
      exact hx
def touchM (c : TCmd) : List Int := if c.kind == 1 then [min c.src c.dst, max c.src c.dst] else if c.kind == 2 then [c.src] else []
theorem touchM_len (c : TCmd) : (touchM c).length ≤ 2 := by
  unfold touchM
  split
  · simp
  · split <;> simp
def interM (a b : TCmd) : Bool := (touchM a).any fun k => hasM (touchM b) k
theorem interM_comm (a b : TCmd) : interM a b = interM b a := by
  unfold interM hasM
  rw [Bool.eq_iff_iff]
  simp only [List.any_eq_true, beq_iff_eq]
  constructor
  · rintro ⟨x, hx, y, hy, rfl⟩; exact ⟨y, hy, y, hx, rfl⟩
  · rintro ⟨x, hx, y, hy, rfl⟩; exact ⟨y, hy, y, hx, rfl⟩
theorem put2 {a b : Int} (h : a ≠ b) : putM [a] b = [min a b, max a b] := by
  by_cases hx : a < b
  · have e : putK [a] b = 1 := by simp [putK, hx]
    unfold putM
    rw [e]
    simp [Int.min_eq_left (Int.le_of_lt hx), Int.max_eq_right (Int.le_of_lt hx)]
  · have e : putK [a] b = 0 := by simp [putK, hx]
    unfold putM
    rw [e]
    simp [atI, h, Int.min_eq_right (by omega : b ≤ a), Int.max_eq_left (by omega : b ≤ a)]

def comRowN (l : List TRow) (k : Int) (m : Nat) : List (List Int) := (List.range m).flatMap fun i : Nat => if (atI l (i : Int)).state == 3 then [[k, (i : Int) + 1]] else []
def comN (rows : List (List TRow)) (m : Nat) : List (List Int) := (List.range m).flatMap fun k : Nat => comRowN (atI rows (k : Int)) k (atI rows (k : Int)).length
/-- The instances that are committed. -/
def comM (rows : List (List TRow)) : List (List Int) := comN rows rows.length
theorem comRowN_succ (l : List TRow) (k : Int) (m : Nat) : comRowN l k (m + 1) = comRowN l k m ++ if (atI l (m : Int)).state == 3 then [[k, (m : Int) + 1]] else [] := by
  simp [comRowN, List.range_succ, List.flatMap_append]
theorem comN_succ (rows : List (List TRow)) (m : Nat) : comN rows (m + 1) = comN rows m ++ comRowN (atI rows (m : Int)) m (atI rows (m : Int)).length := by
  simp [comN, List.range_succ, List.flatMap_append]
theorem comRowN_len (l : List TRow) (k : Int) : ∀ m, (comRowN l k m).length ≤ m
  | 0 => by simp [comRowN]
  | m + 1 => by
    have := comRowN_len l k m
    rw [comRowN_succ, List.length_append]
    split <;> simp <;> omega
theorem comN_len {rows : List (List TRow)} (h : ∀ l ∈ rows, l.length ≤ 6) : ∀ {m}, m ≤ rows.length → (comN rows m).length ≤ 6 * m
  | 0, _ => by simp [comN]
  | m + 1, hm => by
    have h1 := comN_len h (m := m) (by omega)
    have h2 := comRowN_len (atI rows (m : Int)) m (atI rows (m : Int)).length
    have h3 := h _ (at_mem (show m < rows.length by omega))
    rw [comN_succ, List.length_append]
    omega
theorem comM_mem {rows : List (List TRow)} {x : List Int} (h : x ∈ comM rows) : ∃ k i : Nat, k < rows.length ∧ i < (atI rows (k : Int)).length ∧ x = [(k : Int), (i : Int) + 1] ∧ (atI (atI rows (k : Int)) (i : Int)).state = 3 := by
  unfold comM comN comRowN at h
  simp only [List.mem_flatMap, List.mem_range] at h
  obtain ⟨k, hk, i, hi, hx⟩ := h
  split at hx
  · rename_i hs
    exact ⟨k, i, hk, hi, by simpa using hx, by simpa using hs⟩
  · cases hx
theorem comM_spec {t : TTable} (ht : tabOk t = true) {x : List Int} (h : x ∈ comM t.rows) : InB x 0 ∧ InB x 1 ∧ x.length = 2 ∧ inst t.n (atI x 0) (atI x 1) = true ∧ (trow t (atI x 0) (atI x 1)).state = 3 := by
  obtain ⟨k, i, hk, hi, rfl, hs⟩ := comM_mem h
  have h1 := (tabOk_rows ht (at_mem hk)).1
  have h2 := tabOk_len ht
  refine ⟨by unfold InB; simp, by unfold InB; simp, rfl, ?_, ?_⟩
  · simp only [atI, inst, inR, Bool.and_eq_true, decide_eq_true_eq]
    simp
    omega
  · show (trow t (k : Int) ((i : Int) + 1)).state = 3
    unfold trow
    rw [if_pos (by omega), show (i : Int) + 1 - 1 = i by omega]
    exact hs
def badM (t : TTable) (x y : List Int) : Bool :=
  interM (trow t (atI x 0) (atI x 1)).cmd (trow t (atI y 0) (atI y 1)).cmd && decide (atI (trow t (atI x 0) (atI x 1)).attr.deps (atI y 0) < atI y 1) && decide (atI (trow t (atI y 0) (atI y 1)).attr.deps (atI x 0) < atI x 1)
def holdM (t : TTable) : Bool := allB (fun i => ((comM t.rows).take i).all fun y => !badM t (atI (comM t.rows) (i : Int)) y) (comM t.rows).length
def holdR (t : TTable) : Bool × Bool := if tabOk t then (holdM t, true) else (false, false)
theorem trow_in {t : TTable} (ht : tabOk t = true) {x y : List Int} (hx : inst t.n (atI x 0) (atI x 1) = true) (hy : inst t.n (atI y 0) (atI y 1) = true) : InB (trow t (atI x 0) (atI x 1)).attr.deps (atI y 0) := by
  have h1 := trow_deps ht hx
  have h2 := inst_rng hy
  unfold InB
  omega
end Go.Proofs.Ytacfmplofkjonaa.Rf

/- What the program's functions come to, in plain Lean: what to do about rows. -/
namespace Go.Proofs.Ytacfmplofkjonaa.Rf
set_option linter.unusedVariables false
set_option linter.unusedSimpArgs false

def joinD (xs ys : List Int) (m : Nat) : List Int := (List.range m).map fun i : Nat => max (atI xs (i : Int)) (atI ys (i : Int))
def joinA (a b : TAttr) : TAttr := ⟨max a.seq b.seq, joinD a.deps b.deps a.deps.length⟩
theorem joinD_succ (xs ys : List Int) (m : Nat) : joinD xs ys (m + 1) = joinD xs ys m ++ [max (atI xs (m : Int)) (atI ys (m : Int))] := by simp [joinD, List.range_succ]
theorem joinD_len (xs ys : List Int) (m : Nat) : (joinD xs ys m).length = m := by simp [joinD]
theorem joinA_len (a b : TAttr) : (joinA a b).deps.length = a.deps.length := joinD_len ..

def bestStep (st : Int) (o : Option TRow) (r : TRow) : Option TRow := if r.state == st && (match o with | none => true | some b => decide (b.vote < r.vote)) then some r else o
def bestN (st : Int) (seen : List TRow) : Nat → Option TRow
  | 0 => none
  | m + 1 => bestStep st (bestN st seen m) (atI seen (m : Int))
def accN (st : Int) (seen : List TRow) : Nat → Int
  | 0 => -1
  | m + 1 => if (atI seen (m : Int)).state == st && (decide (accN st seen m < 0) || decide ((atI seen (accN st seen m)).vote < (atI seen (m : Int)).vote)) then m else accN st seen m
theorem accN_rng (st : Int) (seen : List TRow) : ∀ m, -1 ≤ accN st seen m ∧ accN st seen m < m
  | 0 => by simp [accN]
  | m + 1 => by
    have := accN_rng st seen m
    unfold accN
    split <;> omega
theorem accN_succ (st : Int) (seen : List TRow) (m : Nat) : accN st seen (m + 1) = if (atI seen (m : Int)).state == st && (decide (accN st seen m < 0) || decide ((atI seen (accN st seen m)).vote < (atI seen (m : Int)).vote)) then (m : Int) else accN st seen m := rfl
theorem bestN_succ (st : Int) (seen : List TRow) (m : Nat) : bestN st seen (m + 1) = bestStep st (bestN st seen m) (atI seen (m : Int)) := rfl
theorem accN_best (st : Int) (seen : List TRow) : ∀ m, bestN st seen m = if accN st seen m < 0 then none else some (atI seen (accN st seen m))
  | 0 => rfl
  | m + 1 => by
    have ih := accN_best st seen m
    have hr := accN_rng st seen m
    rw [bestN_succ, accN_succ, ih]
    unfold bestStep
    by_cases h : accN st seen m < 0
    · rw [if_pos h]
      have h2 : decide (accN st seen m < 0) = true := by simpa using h
      rw [h2]
      cases (atI seen (m : Int)).state == st
      · simp [h]
      · simp; try omega
    · rw [if_neg h]
      have h2 : decide (accN st seen m < 0) = false := by simpa using h
      rw [h2]
      simp only [Bool.false_or]
      cases (atI seen (m : Int)).state == st && decide ((atI seen (accN st seen m)).vote < (atI seen (m : Int)).vote)
      · simp [h]
      · simp; try omega
def joinN (n : Int) (seen : List TRow) : Nat → TAttr
  | 0 => none0 n
  | m + 1 => if (atI seen (m : Int)).state == 1 then joinA (joinN n seen m) (atI seen (m : Int)).attr else joinN n seen m
theorem joinN_succ (n : Int) (seen : List TRow) (m : Nat) : joinN n seen (m + 1) = if (atI seen (m : Int)).state == 1 then joinA (joinN n seen m) (atI seen (m : Int)).attr else joinN n seen m := rfl
theorem joinN_len (n : Int) (seen : List TRow) : ∀ m, (joinN n seen m).deps.length = n.toNat
  | 0 => by simp [joinN, none0]
  | m + 1 => by
    have := joinN_len n seen m
    unfold joinN
    split
    · rw [joinA_len, this]
    · exact this
def likeM (seen : List TRow) (r : TRow) : Bool := r.state == 1 && r.vote == 0 && decide (r.cmd = (atI seen 0).cmd) && decide (r.attr = (atI seen 0).attr)
def likeN (seen : List TRow) : Nat → Bool := allB fun i => likeM seen (atI seen (i : Int))
def chooseM (n : Int) (seen : List TRow) : Int × TCmd × TAttr :=
  match bestN 2 seen seen.length with
  | some r => (1, r.cmd, r.attr)
  | none => if likeN seen seen.length then (1, (atI seen 0).cmd, (atI seen 0).attr) else
    match bestN 1 seen seen.length with
    | some r => (2, r.cmd, joinN n seen seen.length)
    | none => (3, ⟨0, 0, 0, 0, 0⟩, none0 n)
def seenOk (n : Int) (seen : List TRow) : Bool := isGrp n && decide (n / 2 < (seen.length : Int)) && decide ((seen.length : Int) ≤ n) && seen.all fun r => rowOk n r && !(r.state == 3)
def chooseR (n : Int) (seen : List TRow) : Int × TCmd × TAttr × Bool := if seenOk n seen then ((chooseM n seen).1, (chooseM n seen).2.1, (chooseM n seen).2.2, true) else (0, ⟨0, 0, 0, 0, 0⟩, ⟨0, []⟩, false)
theorem seenOk_spec {n : Int} {seen : List TRow} (h : seenOk n seen = true) : isGrp n = true ∧ n / 2 < (seen.length : Int) ∧ (seen.length : Int) ≤ n ∧ ∀ r ∈ seen, rowOk n r = true ∧ (r.state == 3) = false := by
  simp only [seenOk, Bool.and_eq_true, decide_eq_true_eq, List.all_eq_true, Bool.not_eq_true'] at h
  exact ⟨h.1.1.1, h.1.1.2, h.1.2, h.2⟩
theorem chooseM_len {n : Int} {seen : List TRow} (hg : isGrp n = true) (h0 : 0 < seen.length) (h : ∀ r ∈ seen, rowOk n r = true) : (chooseM n seen).2.2.deps.length ≤ 5 := by
  have hn := isGrp_rng hg
  have hd : ∀ r ∈ seen, r.attr.deps.length ≤ 5 := fun r hr => by have := rowOk_deps (h r hr) hg; omega
  unfold chooseM
  rw [accN_best, accN_best]
  have h1 := accN_rng 2 seen seen.length
  split
  · rename_i r hr
    split at hr
    · cases hr
    · simp only [Option.some.injEq] at hr
      subst hr
      exact hd _ (at_memI (by unfold InB; omega))
  · split
    · exact hd _ (at_memI (by unfold InB; omega))
    · split
      · simp only [joinN_len]; omega
      · simp only [none0, List.length_replicate]; omega
theorem chooseR_len (n : Int) (seen : List TRow) : (chooseR n seen).2.2.1.deps.length ≤ 5 := by
  unfold chooseR
  split
  · rename_i h
    obtain ⟨h1, h2, h3, h4⟩ := seenOk_spec h
    have hn := isGrp_rng h1
    exact chooseM_len h1 (by omega) fun r hr => (h4 r hr).1
  · simp
end Go.Proofs.Ytacfmplofkjonaa.Rf
