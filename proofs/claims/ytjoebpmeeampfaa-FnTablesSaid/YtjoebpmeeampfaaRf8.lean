/- Terms for the program's functions, and that they are right: part 8 of 8. -/
import Derived.Test.YtjoebpmeeampfaaRf7
set_option linter.unusedSimpArgs false
set_option linter.unusedVariables false
set_option linter.unnecessarySimpa false
set_option linter.unusedSectionVars false
namespace Go.Proofs.Ytjoebpmeeampfaa.Rf
set_option linter.unusedVariables false
set_option linter.unusedSimpArgs false
section
variable {T : Nat → Ent} {β : Type} {α : Type} [Inhabited α]
inductive Rd1 (σ : Type) where
 | go (s : σ)
 | out (r : Kind × List D)
def foldX {σ : Type} (f : Nat → α → σ → Rd1 σ) : Nat → List α → σ → Rd1 σ
 | _, [], s => .go s
 | i, x :: xs, s => match f i x s with
  | .go s' => foldX f (i + 1) xs s'
  | .out r => .out r
def rndK {σ : Type} (vs : Int → σ → List D) (i : Int) : Rd1 σ → Kind × List D
 | .go s => (.cont, vs (i + 1) s)
 | .out r => r
theorem loopX {σ : Type} {body : Tm β} {ρ : List D} {init : List Atom} (xs : List α) (vs : Int → σ → List D) (s0 : σ) (f : Nat → α → σ → Rd1 σ) (inv : Nat → σ → Prop) (fin : σ → Kind × List D)
  (h0 : init.map (·.val ρ) = vs 0 s0) (hi : inv 0 s0)
  (h1 : ∀ (i : Nat) s, i < xs.length → inv i s → Er T body (ρ ++ vs i s) = some (rndK vs i (f i (atI xs i) s)) ∧ (∀ s', f i (atI xs i) s = .go s' → inv (i + 1) s') ∧ ∀ r, f i (atI xs i) s = .out r → r.1 ≠ .cont)
  (h2 : ∀ s, inv xs.length s → Er T body (ρ ++ vs xs.length s) = some (fin s) ∧ (fin s).1 ≠ .cont) :
  ∃ r, Er T (.loop init body) ρ = some r ∧ ((∃ s, foldX f 0 xs s0 = .go s ∧ inv xs.length s ∧ r = fin s) ∨ foldX f 0 xs s0 = .out r) := by
 have key := loopR (T := T) (body := body) (ρ := ρ) (γ := Nat × σ) (fun c => xs.length - c.1) (fun c => c.1 ≤ xs.length ∧ inv c.1 c.2 ∧ foldX f c.1 (xs.drop c.1) c.2 = foldX f 0 xs s0) (fun c => vs (c.1 : Int) c.2)
  (fun r => (∃ s, foldX f 0 xs s0 = .go s ∧ inv xs.length s ∧ r = fin s) ∨ foldX f 0 xs s0 = .out r)
  (fun ⟨i, s⟩ ⟨hle, hv, hf⟩ => by
   simp only at hle hv hf ⊢
   rcases Nat.lt_or_ge i xs.length with hlt | hge
   ·obtain ⟨h3, h4, h5⟩ := h1 i s hlt hv
    have hd : xs.drop i = atI xs i :: xs.drop (i + 1) := by
     rw [List.drop_eq_getElem_cons hlt, atI_get hlt]
    rw [hd, foldX] at hf
    refine ⟨_, h3, ?_⟩
    cases e : f i (atI xs i) s with
    | go s' =>
     rw [e] at hf
     exact .inl ⟨rfl, (i + 1, s'), ⟨by simp only; omega, h4 s' e, hf⟩, by simp only; omega, rfl⟩
    | out r =>
     rw [e] at hf
     exact .inr ⟨h5 r e, .inr hf.symm⟩
   ·obtain rfl : i = xs.length := by omega
    obtain ⟨h3, h4⟩ := h2 s hv
    rw [List.drop_length, foldX] at hf
    exact ⟨_, h3, .inr ⟨h4, .inl ⟨s, hf.symm, hv, rfl⟩⟩⟩)
  xs.length (0, s0) (by simp) ⟨by simp, hi, by simp⟩ init h0
 exact key
theorem scanX {body : Tm β} {ρ : List D} (j : Nat) (n : Nat) (p : Nat → Bool) (r : List D)
  (h1 : ∀ i : Nat, i < n → p i = true → Er T body (ρ ++ [i64 i]) = some (.cont, [i64 ((i : Int) + 1)]))
  (h2 : ∀ i : Nat, i < n → p i = false → Er T body (ρ ++ [i64 i]) = some (.ret, r))
  (h3 : Er T body (ρ ++ [i64 n]) = some (.yield j, [])) :
  Er T (.loop [.c (i64 0)] body) ρ = forkT (allB p n) (some (.yield j, [])) (some (.ret, r)) := by
 have key := loopR (T := T) (body := body) (ρ := ρ) (fun i => n - i) (fun i => i ≤ n ∧ ∀ j, j < i → p j = true) (fun i => [i64 (i : Nat)])
  (fun q => (∀ j, j < n → p j = true) ∧ q = (.yield j, []) ∨ (∃ j, j < n ∧ p j = false) ∧ q = (.ret, r))
  (fun i ⟨hi, hall⟩ => by
   rcases Nat.lt_or_ge i n with hlt | hge
   ·cases e : p i with
    | true => exact ⟨_, h1 i hlt e, .inl ⟨rfl, i + 1, ⟨by omega, fun j hj => by
      rcases Nat.lt_or_ge j i with h | h
      ·exact hall j h
      ·obtain rfl : j = i := by omega
       exact e⟩, by omega, rfl⟩⟩
    | false => exact ⟨_, h2 i hlt e, .inr ⟨by simp, .inr ⟨⟨i, hlt, e⟩, rfl⟩⟩⟩
   ·obtain rfl : i = n := by omega
    exact ⟨_, h3, .inr ⟨by simp, .inl ⟨hall, rfl⟩⟩⟩)
  n 0 (by omega) ⟨by omega, fun j hj => by omega⟩ [.c (i64 0)] (by simp [Atom.val])
 obtain ⟨q, h4, h5⟩ := key
 rw [h4]
 rcases h5 with ⟨h6, rfl⟩ | ⟨h6, rfl⟩
 ·rw [allB_true.2 h6]; rfl
 ·rw [allB_false.2 h6]; rfl
theorem allB_all (xs : List α) (p : α → Bool) : allB (fun i => p (atI xs i)) xs.length = xs.all p := by
 cases e : xs.all p with
 | true =>
  rw [List.all_eq_true] at e
  rw [allB_true]
  intro i hi
  rw [atI_get hi]
  exact e _ (List.getElem_mem hi)
 | false =>
  rw [List.all_eq_false] at e
  obtain ⟨x, hx, hp⟩ := e
  obtain ⟨i, hi, rfl⟩ := List.getElem_of_mem hx
  exact allB_false.2 ⟨i, hi, by rw [atI_get hi]; simpa using hp⟩
theorem allB_eq [DecidableEq α] {xs ys : List α} (hl : xs.length = ys.length) : allB (fun i => decide (atI xs i = atI ys i)) xs.length = decide (xs = ys) := by
 by_cases e : xs = ys
 ·subst e
  rw [decide_eq_true rfl, allB_true]
  exact fun i _ => decide_eq_true rfl
 ·rw [decide_eq_false e]
  cases h : allB (fun i => decide (atI xs i = atI ys i)) xs.length with
  | false => rfl
  | true =>
   rw [allB_true] at h
   refine absurd (List.ext_getElem hl fun i h1 h2 => ?_) e
   have := of_decide_eq_true (h i h1)
   rwa [atI_get h1, atI_get h2] at this
theorem eq_len {xs ys : List α} [DecidableEq α] (h : ¬ xs.length = ys.length) : decide (xs = ys) = false := decide_eq_false fun e => h (by rw [e])
theorem allX {body : Tm β} {ρ : List D} (j : Nat) (xs : List α) (p : α → Bool) (r : List D)
  (h1 : ∀ i : Nat, i < xs.length → InB xs (i : Int) → decide ((i : Int) < xs.length) = true → p (atI xs i) = true → Er T body (ρ ++ [i64 i]) = some (.cont, [i64 ((i : Int) + 1)]))
  (h2 : ∀ i : Nat, i < xs.length → InB xs (i : Int) → decide ((i : Int) < xs.length) = true → p (atI xs i) = false → Er T body (ρ ++ [i64 i]) = some (.ret, r))
  (h3 : decide ((xs.length : Int) < xs.length) = false → Er T body (ρ ++ [i64 xs.length]) = some (.yield j, [])) :
  Er T (.loop [.c (i64 0)] body) ρ = forkT (xs.all p) (some (.yield j, [])) (some (.ret, r)) := by
 rw [scanX j xs.length (fun i => p (atI xs i)) r (fun i hi hp => h1 i hi (InB_nat.2 hi) (by simp; omega) hp) (fun i hi hp => h2 i hi (InB_nat.2 hi) (by simp; omega) hp) (h3 (by simp)), allB_all]
omit [Inhabited α] in
theorem scanF {body : Tm β} {ρ : List D} (j : Nat) (n : Nat) (p : Nat → Bool) (r : List D)
  (h1 : ∀ i : Nat, i < n → decide ((i : Int) < n) = true → Er T body (ρ ++ [i64 i]) = forkT (p i) (some (.cont, [i64 ((i : Int) + 1)])) (some (.ret, r)))
  (h3 : decide ((n : Int) < n) = false → Er T body (ρ ++ [i64 n]) = some (.yield j, [])) :
  Er T (.loop [.c (i64 0)] body) ρ = forkT (allB p n) (some (.yield j, [])) (some (.ret, r)) :=
 scanX j n p r (fun i hi hp => by rw [h1 i hi (by simp; omega), hp]; rfl) (fun i hi hp => by rw [h1 i hi (by simp; omega), hp]; rfl) (h3 (by simp))
theorem allF {body : Tm β} {ρ : List D} (j : Nat) (xs : List α) (p : α → Bool) (r : List D)
  (h1 : ∀ i : Nat, i < xs.length → InB xs (i : Int) → decide ((i : Int) < xs.length) = true → atI xs (i : Int) ∈ xs → Er T body (ρ ++ [i64 i]) = forkT (p (atI xs i)) (some (.cont, [i64 ((i : Int) + 1)])) (some (.ret, r)))
  (h3 : decide ((xs.length : Int) < xs.length) = false → Er T body (ρ ++ [i64 xs.length]) = some (.yield j, [])) :
  Er T (.loop [.c (i64 0)] body) ρ = forkT (xs.all p) (some (.yield j, [])) (some (.ret, r)) :=
 allX j xs p r (fun i hi hb hl hp => by rw [h1 i hi hb hl (by rw [atI_get hi]; exact List.getElem_mem hi), hp]; rfl) (fun i hi hb hl hp => by rw [h1 i hi hb hl (by rw [atI_get hi]; exact List.getElem_mem hi), hp]; rfl) h3
def ixF (p : α → Bool) (xs : List α) : Int := match xs.findIdx? p with
 | some i => i
 | none => -1
omit [Inhabited α] in
theorem ixF_any (p : α → Bool) (xs : List α) : decide (0 ≤ ixF p xs) = xs.any p := by
 unfold ixF
 cases h : xs.findIdx? p with
 | none =>
  rw [List.findIdx?_eq_none_iff] at h
  have : xs.any p = false := by
   rw [List.any_eq_false]
   exact fun x hx => by simp [h x hx]
  rw [this]; rfl
 | some i =>
  have : xs.any p = true := by
   rw [List.findIdx?_eq_some_iff_getElem] at h
   obtain ⟨hi, hp, -⟩ := h
   rw [List.any_eq_true]
   exact ⟨_, List.getElem_mem hi, hp⟩
  rw [this]; simp
theorem findX {body : Tm β} {ρ : List D} (j : Nat) (xs : List α) (p : α → Bool) (rf : Int → List D)
  (h1 : ∀ i : Nat, i < xs.length → InB xs (i : Int) → decide ((i : Int) < xs.length) = true → p (atI xs i) = true → Er T body (ρ ++ [i64 i]) = some (.ret, rf i))
  (h2 : ∀ i : Nat, i < xs.length → InB xs (i : Int) → decide ((i : Int) < xs.length) = true → p (atI xs i) = false → Er T body (ρ ++ [i64 i]) = some (.cont, [i64 ((i : Int) + 1)]))
  (h3 : decide ((xs.length : Int) < xs.length) = false → Er T body (ρ ++ [i64 xs.length]) = some (.yield j, [])) :
  Er T (.loop [.c (i64 0)] body) ρ = forkT (xs.any p) (some (.ret, rf (ixF p xs))) (some (.yield j, [])) := by
 have hall : ∀ (i : Nat) (ys : List α), foldX (fun (i : Nat) x (_ : Unit) => if p x then Rd1.out (.ret, rf i) else .go ()) i ys () = match ys.findIdx? p with | some k => .out (.ret, rf ((i + k : Nat) : Int)) | none => .go () := by
  intro i ys
  induction ys generalizing i with
  | nil => rfl
  | cons y ys ih =>
   rw [foldX, List.findIdx?_cons]
   cases p y with
   | true => simp
   | false =>
    simp only [Bool.false_eq_true, if_false]
    rw [ih (i + 1)]
    cases ys.findIdx? p with
    | none => rfl
    | some k => simp only [Option.map_some]; congr 4; omega
 obtain ⟨q, h4, h5⟩ := loopX (T := T) (body := body) (ρ := ρ) (init := [.c (i64 0)]) xs (fun i (_ : Unit) => [i64 i]) () (fun i x _ => if p x then .out (.ret, rf i) else .go ()) (fun _ _ => True) (fun _ => (.yield j, [])) rfl trivial
  (fun i _ hi _ => by
   cases e : p (atI xs i) with
   | true => exact ⟨by rw [h1 i hi (InB_nat.2 hi) (by simp; omega) e]; rfl, fun _ _ => trivial, fun r h => by simp at h; rw [← h]; simp⟩
   | false => exact ⟨by rw [h2 i hi (InB_nat.2 hi) (by simp; omega) e]; rfl, fun _ _ => trivial, fun r h => by simp at h⟩)
  (fun _ _ => ⟨h3 (by simp), by simp⟩)
 rw [h4, ← ixF_any]
 rw [hall] at h5
 unfold ixF
 cases e : xs.findIdx? p with
 | none =>
  rw [e] at h5
  rcases h5 with ⟨s, -, -, rfl⟩ | h5
  ·rfl
  ·simp at h5
 | some k =>
  rw [e] at h5
  rcases h5 with ⟨s, h5, -⟩ | h5
  ·simp at h5
  ·simp only [Nat.zero_add, Rd1.out.injEq] at h5
   rw [← h5]
   simp [forkT]
theorem at_mem {xs : List α} {i : Nat} (h : i < xs.length) : atI xs (i : Int) ∈ xs := by rw [atI_get h]; exact List.getElem_mem h
omit [Inhabited α] in
theorem loopN {body : Tm β} {ρ : List D} {init : List Atom} (n : Nat) (vs : Nat → List D) (r : Kind × List D) (h0 : init.map (·.val ρ) = vs 0) (hr : r.1 ≠ .cont)
  (h1 : ∀ i : Nat, i < n → decide ((i : Int) < n) = true → Er T body (ρ ++ vs i) = some (.cont, vs (i + 1)))
  (h2 : decide ((n : Int) < n) = false → Er T body (ρ ++ vs n) = some r) : Er T (.loop init body) ρ = some r := by
 obtain ⟨q, h3, rfl⟩ := loopR (T := T) (body := body) (ρ := ρ) (fun i => n - i) (fun i => i ≤ n) vs (fun q => q = r)
  (fun i hi => by
   rcases Nat.lt_or_ge i n with hlt | hge
   ·exact ⟨_, h1 i hlt (by simp; omega), .inl ⟨rfl, i + 1, by omega, by omega, rfl⟩⟩
   ·obtain rfl : i = n := by omega
    exact ⟨_, h2 (by simp), .inr ⟨hr, rfl⟩⟩) n 0 (by omega) (by omega) init h0
 exact h3
omit [Inhabited α] in
theorem whileE {γ : Type} {body : Tm β} {ρ : List D} {init : List Atom} (r : Kind × List D) (m : γ → Nat) (inv : γ → Prop) (vs : γ → List D) (c0 : γ) (h0 : init.map (·.val ρ) = vs c0) (hi : inv c0) (hr : r.1 ≠ .cont)
  (h : ∀ c, inv c → (∃ c', Er T body (ρ ++ vs c) = some (.cont, vs c') ∧ inv c' ∧ m c' < m c) ∨ Er T body (ρ ++ vs c) = some r) : Er T (.loop init body) ρ = some r := by
 obtain ⟨q, h1, rfl⟩ := loopR (T := T) (body := body) (ρ := ρ) m inv vs (fun q => q = r)
  (fun c hc => by
   rcases h c hc with ⟨c', h2, h3, h4⟩ | h2
   ·exact ⟨_, h2, .inl ⟨rfl, c', h3, h4, rfl⟩⟩
   ·exact ⟨_, h2, .inr ⟨hr, rfl⟩⟩) (m c0) c0 (Nat.le_refl _) hi init h0
 exact h1
theorem foldS {σ : Type} {body : Tm β} {ρ : List D} {init : List Atom} (j : Nat) (xs : List α) (vs : Int → σ → List D) (s0 : σ) (f : σ → α → σ) (inv : Nat → σ → Prop) (out : σ → List D)
  (h0 : init.map (·.val ρ) = vs 0 s0) (hi : inv 0 s0)
  (h1 : ∀ (i : Nat) s, i < xs.length → InB xs (i : Int) → decide ((i : Int) < xs.length) = true → inv i s → Er T body (ρ ++ vs i s) = some (.cont, vs ((i : Int) + 1) (f s (atI xs i))) ∧ inv (i + 1) (f s (atI xs i)))
  (h2 : ∀ s, decide ((xs.length : Int) < xs.length) = false → inv xs.length s → Er T body (ρ ++ vs xs.length s) = some (.yield j, out s)) :
  Er T (.loop init body) ρ = some (.yield j, out (xs.foldl f s0)) ∧ inv xs.length (xs.foldl f s0) := by
 have hall : ∀ i xs s, foldX (fun (_ : Nat) (x : α) s => Rd1.go (f s x)) i xs s = .go (xs.foldl f s) := by
  intro i xs
  induction xs generalizing i with
  | nil => exact fun _ => rfl
  | cons x xs ih => exact fun s => ih (i + 1) _
 obtain ⟨q, h4, h5⟩ := loopX (T := T) (body := body) (ρ := ρ) (init := init) xs vs s0 (fun _ x s => .go (f s x)) inv (fun s => (.yield j, out s)) h0 hi
  (fun i s hl hv => by
   obtain ⟨h5, h6⟩ := h1 i s hl (InB_nat.2 hl) (by simp; omega) hv
   exact ⟨h5, fun s' h => by simp only [Rd1.go.injEq] at h; rw [← h]; exact h6, fun r h => by cases h⟩)
  (fun s hv => ⟨h2 s (by simp) hv, by simp⟩)
 rw [hall] at h5
 rcases h5 with ⟨s, h5, h6, rfl⟩ | h5
 ·simp only [Rd1.go.injEq] at h5
  subst h5
  exact ⟨h4, h6⟩
 ·cases h5
theorem foldAll {σ : Type} {body : Tm β} {ρ : List D} {init : List Atom} (j : Nat) (xs : List α) (p : α → Bool) (vs : Int → σ → List D) (s0 : σ) (g : σ → α → σ) (r : List D) (inv : Nat → σ → Prop) (out : σ → List D)
  (h0 : init.map (·.val ρ) = vs 0 s0) (hi : inv 0 s0)
  (h1 : ∀ (i : Nat) s, i < xs.length → InB xs (i : Int) → decide ((i : Int) < xs.length) = true → inv i s → Er T body (ρ ++ vs i s) = forkT (p (atI xs i)) (some (.cont, vs ((i : Int) + 1) (g s (atI xs i)))) (some (.ret, r)) ∧ (p (atI xs i) = true → inv (i + 1) (g s (atI xs i))))
  (h2 : ∀ s, decide ((xs.length : Int) < xs.length) = false → inv xs.length s → Er T body (ρ ++ vs xs.length s) = some (.yield j, out s)) :
  Er T (.loop init body) ρ = forkT (xs.all p) (some (.yield j, out (xs.foldl g s0))) (some (.ret, r)) := by
 have hall : ∀ i xs s, foldX (fun (_ : Nat) (x : α) s => if p x then Rd1.go (g s x) else .out (.ret, r)) i xs s = if xs.all p then .go (xs.foldl g s) else .out (.ret, r) := by
  intro i xs
  induction xs generalizing i with
  | nil => exact fun _ => rfl
  | cons x xs ih =>
   intro s
   rw [foldX, List.all_cons, List.foldl_cons]
   cases p x with
   | true => simp only [if_true, Bool.true_and]; exact ih (i + 1) _
   | false => rfl
 obtain ⟨q, h4, h5⟩ := loopX (T := T) (body := body) (ρ := ρ) (init := init) xs vs s0 (fun _ x s => if p x then .go (g s x) else .out (.ret, r)) inv (fun s => (.yield j, out s)) h0 hi
  (fun i s hl hv => by
   obtain ⟨h6, h7⟩ := h1 i s hl (InB_nat.2 hl) (by simp; omega) hv
   cases e : p (atI xs i) with
   | true =>
    rw [e] at h6
    exact ⟨h6, fun s' h => by simp only [if_true, Rd1.go.injEq] at h; rw [← h]; exact h7 e, fun r h => by simp at h⟩
   | false =>
    rw [e] at h6
    exact ⟨h6, fun s' h => by simp at h, fun r h => by simp at h; rw [← h]; simp⟩)
  (fun s hv => ⟨h2 s (by simp) hv, by simp⟩)
 rw [h4]
 rw [hall] at h5
 cases e : xs.all p with
 | true =>
  rw [e] at h5
  rcases h5 with ⟨s, h5, -, rfl⟩ | h5
  ·simp only [if_true, Rd1.go.injEq] at h5
   rw [← h5]; rfl
  ·simp at h5
 | false =>
  rw [e] at h5
  rcases h5 with ⟨s, h5, -⟩ | h5
  ·simp at h5
  ·simp only [Bool.false_eq_true, if_false, Rd1.out.injEq] at h5
   rw [← h5]; rfl
end
theorem take_at {α : Type} [Inhabited α] {xs : List α} {i : Nat} (h : i < xs.length) : xs.take i ++ [atI xs (i : Int)] = xs.take (i + 1) := by rw [List.take_succ_eq_append_getElem h, atI_get h]
theorem setI_at {α : Type} [Inhabited α] {xs : List α} {k : Int} (h : InB xs k) : setI xs k (atI xs k) = xs := by
 have h2 := h.lt
 unfold setI atI
 rw [List.getD_eq_getElem?_getD, List.getElem?_eq_getElem h2]
 exact List.set_getElem_self h2
def holeL {α : Type} [Enc α] (xs : List (List α)) (k : Int) : D := .rows 1 ((xs.map Enc.enc).set k.toNat [.hole])
theorem S_hole : (∀ {α : Type} [Enc α] {xs : List (List α)} {k : Int}, InB xs k → (Prim.set 1 0 1).run [rL xs, i64 k, .hole] = some [holeL xs k]) ∧ (∀ {α : Type} [Enc α] {xs : List (List α)} {k j : Int}, InB xs j → Prim.inb.run [holeL xs k, i64 j] = some []) ∧
  (∀ {α : Type} [Enc α] {xs : List (List α)} {k : Int} {l : List α}, InB xs k → (Prim.set 1 0 1).run [holeL xs k, i64 k, rL l] = some [rL (setI xs k l)]) := by
 refine ⟨?_, ?_, ?_⟩
 ·intro α _ xs k h
  have h2 := h.lt
  unfold InB at h
  have e : (xs.map Enc.enc)[k.toNat]? = some [rL xs[k.toNat]] := by rw [List.getElem?_map, List.getElem?_eq_getElem h2]; rfl
  show (if _ then _ else _) = _
  rw [if_pos ⟨rfl, h.1⟩, e]
  rfl
 ·intro α _ xs k j h
  unfold InB at h
  show (if _ then _ else _) = _
  rw [if_pos ⟨h.1, by simpa using h.2⟩]
 ·intro α _ xs k l h
  have h2 := h.lt
  unfold InB at h
  have e : ((xs.map Enc.enc).set k.toNat [.hole])[k.toNat]? = some [.hole] := by rw [List.getElem?_set_self (by simpa using h2)]
  show (if _ then _ else _) = _
  rw [if_pos ⟨rfl, h.1⟩, e]
  show some _ = _
  simp only [rL, setI, List.map_set, List.set_set]
  rfl
theorem SQ : (∀ {a b : Int}, -9223372036854775808 ≤ a + b → a + b ≤ 9223372036854775807 → (Prim.bin .add).run [i64 a, i64 b] = some [i64 (a + b)]) ∧
  (∀ {a b : Int}, -9223372036854775808 ≤ a - b → a - b ≤ 9223372036854775807 → (Prim.bin .sub).run [i64 a, i64 b] = some [i64 (a - b)]) ∧
  (∀ {a b : Int}, 0 ≤ a → a ≤ 9223372036854775807 → 0 < b → (Prim.bin .quo).run [i64 a, i64 b] = some [i64 (a / b)]) ∧ (∀ {a b : Int}, 0 ≤ a → 0 < b → (Prim.bin .rem).run [i64 a, i64 b] = some [i64 (a % b)]) :=
 ⟨run_add, run_sub, run_quoI, run_remI⟩
end Go.Proofs.Ytjoebpmeeampfaa.Rf

namespace Go.Proofs.Ytjoebpmeeampfaa.Rf
set_option linter.unusedVariables false
set_option linter.unusedSimpArgs false
theorem S_upd : (∀ {α : Type} [Inhabited α] {xs : List α} {k : Int} {a : α}, InB xs k → atI (setI xs k a) k = a) ∧ (∀ {α : Type} {xs : List α} {k : Int} {a b : α}, setI (setI xs k a) k b = setI xs k b) ∧
  (∀ {α : Type} {xs : List α} {j k : Int} {a : α}, InB (setI xs j a) k = InB xs k) ∧ (∀ {α : Type} {xs : List α} {j : Int} {a : α}, (setI xs j a).length = xs.length) := by
 refine ⟨?_, ?_, ?_, ?_⟩
 ·intro α _ xs k a h
  have := h.lt
  rw [setI, atI, List.getD_eq_getElem?_getD, List.getElem?_set_self this]; rfl
 ·intro α xs k a b
  rw [setI, setI, setI, List.set_set]
 ·intro α xs j k a
  unfold InB setI
  rw [List.length_set]
 ·intro α xs j a
  exact List.length_set ..
section
variable {T : Nat → Ent} {β : Type} {α : Type} [Inhabited α]
end
end Go.Proofs.Ytjoebpmeeampfaa.Rf

namespace Go.Proofs.Ytjoebpmeeampfaa.Rf
set_option linter.unusedVariables false
set_option linter.unusedSimpArgs false
end Go.Proofs.Ytjoebpmeeampfaa.Rf

namespace Go.Proofs.Ytjoebpmeeampfaa.Rf
set_option linter.unusedVariables false
set_option linter.unusedSimpArgs false
theorem SZ : (∀ b : Bool, (b && true) = b) ∧ (∀ b : Bool, (true && b) = b) ∧ (∀ b : Bool, (b && false) = false) ∧ (∀ b : Bool, (false && b) = false) ∧
  (∀ b : Bool, (b || true) = true) ∧ (∀ b : Bool, (true || b) = true) ∧ (∀ b : Bool, (b || false) = b) ∧ (∀ b : Bool, (false || b) = b) ∧ ((!true) = false) ∧ ((!false) = true) :=
 ⟨Bool.and_true, Bool.true_and, Bool.and_false, Bool.false_and, Bool.or_true, Bool.true_or, Bool.or_false, Bool.false_or, rfl, rfl⟩
theorem fork_in {γ : Type} {a r : γ} (h : forkT true a r = r) : a = r := h
theorem S0 : type_of% (And.intro @SA (And.intro @SB (And.intro @SC (And.intro @SP (And.intro @SQ (And.intro @SZ (And.intro @beq_self_eq_true.{0} (And.intro @decide_true (And.intro @decide_false (And.intro @cast1 @S_eta)))))))))) := And.intro @SA (And.intro @SB (And.intro @SC (And.intro @SP (And.intro @SQ (And.intro @SZ (And.intro @beq_self_eq_true.{0} (And.intro @decide_true (And.intro @decide_false (And.intro @cast1 @S_eta)))))))))
theorem bool_fin {x y : Bool} (h : x = true ↔ y = true) : some [D.bool x] = some [D.bool y] := by rw [Bool.eq_iff_iff.2 h]
def isGrp (n : Int) : Bool := n == 3 || n == 5
theorem isGrp_rng {n : Int} (h : isGrp n = true) : n = 3 ∨ n = 5 := by simpa [isGrp] using h
def inst (n rep no : Int) : Bool := inR rep 0 (n - 1) && inR no 1 6
def cmdOk (c : TCmd) : Bool :=
 if c.kind == 0 then decide (c = ⟨0, 0, 0, 0, 0⟩) else if c.kind == 1 then inR c.id 1 999 && inR c.src 0 3 && inR c.dst 0 3 && !(c.src == c.dst) && inR c.amt 1 1000
 else c.kind == 2 && inR c.id 1 999 && inR c.src 0 3 && c.dst == 0 && c.amt == 0
def cmdCode (c : TCmd) : Int :=
 if !inR c.src 0 3 || (c.kind == 1 && !inR c.dst 0 3) then 4 else if c.kind == 1 && c.src == c.dst then 5 else if !inR c.id 1 999 || (c.kind == 1 && !inR c.amt 1 1000) then 6 else 0
def attrOk (n : Int) (a : TAttr) : Bool := inR a.seq 0 999 && (a.deps.length : Int) == n && a.deps.all fun x => inR x 0 6
def none0 (n : Int) : TAttr := ⟨0, List.replicate n.toNat 0⟩
def rowOk (n : Int) (r : TRow) : Bool :=
 inR r.ballot 0 9999 && inR r.vote 0 r.ballot && inR r.state 0 3 && (if r.state == 0 then r.vote == 0 && decide (r.cmd = ⟨0, 0, 0, 0, 0⟩) && decide (r.attr = none0 n) else cmdOk r.cmd && attrOk n r.attr)
theorem none0_ok {n : Int} (h : isGrp n = true) : attrOk n (none0 n) = true := by
 rcases isGrp_rng h with rfl | rfl <;> rfl
theorem cmdZ_ok {c : TCmd} (h : decide (c = ⟨0, 0, 0, 0, 0⟩) = true) : cmdOk c = true := by
 rw [of_decide_eq_true h]; rfl
theorem cmdCode0 {c : TCmd} : (cmdCode c == 0) = (inR c.src 0 3 && inR c.id 1 999 && (!(c.kind == 1) || (inR c.dst 0 3 && !(c.src == c.dst) && inR c.amt 1 1000))) := by
 unfold cmdCode
 cases inR c.src 0 3 <;> cases inR c.id 1 999 <;> cases c.kind == 1 <;> cases inR c.dst 0 3 <;> cases c.src == c.dst <;> cases inR c.amt 1 1000 <;> rfl
def smRows (xs : List TRow) : Prop := xs.length ≤ 10000000000 ∧ ∀ r ∈ xs, r.attr.deps.length ≤ 10000000000
def smTab (rows : List (List TRow)) : Prop := rows.length ≤ 10000000000 ∧ ∀ l ∈ rows, smRows l
def tabOk (t : TTable) : Bool := isGrp t.n && (t.rows.length : Int) == t.n && t.rows.all fun l => l.all (fun r => rowOk t.n r) && decide ((l.length : Int) ≤ 6)
def row0 (n : Int) : TRow := ⟨0, 0, 0, ⟨0, 0, 0, 0, 0⟩, none0 n⟩
def trow (t : TTable) (rep no : Int) : TRow := if no ≤ (atI t.rows rep).length then atI (atI t.rows rep) (no - 1) else row0 t.n
def rowD : TRow := ⟨0, 0, 0, ⟨0, 0, 0, 0, 0⟩, ⟨0, []⟩⟩
def rowAtR (t : TTable) (rep no : Int) : TRow × Bool := if tabOk t && inst t.n rep no then (trow t rep no, true) else (rowD, false)
theorem S_nil : (rL ([] : List Int) = .rows 1 []) ∧ (rL ([] : List (List Int)) = .rows 1 []) ∧ (rL ([] : List TRow) = .rows 10 []) ∧ (rL ([] : List (List TRow)) = .rows 1 []) ∧ (rL ([] : List TLead) = .rows 16 []) ∧ (rL ([] : List TMsg) = .rows 15 []) ∧
  (rL ([] : List TAsk) = .rows 7 []) ∧ (rL ([] : List TTold) = .rows 2 []) := ⟨rfl, rfl, rfl, rfl, rfl, rfl, rfl, rfl⟩
theorem inst_rng {n rep no : Int} (h : inst n rep no = true) : 0 ≤ rep ∧ rep ≤ n - 1 ∧ 1 ≤ no ∧ no ≤ 6 := by
 simp only [inst, inR, Bool.and_eq_true, decide_eq_true_eq] at h
 omega
theorem tabOk_grp {t : TTable} (h : tabOk t = true) : isGrp t.n = true := by
 simp only [tabOk, Bool.and_eq_true] at h; exact h.1.1
theorem tabOk_len {t : TTable} (h : tabOk t = true) : (t.rows.length : Int) = t.n := by
 simp only [tabOk, Bool.and_eq_true, beq_iff_eq] at h; exact h.1.2
theorem tabOk_in {t : TTable} {rep no : Int} (h : tabOk t = true) (hi : inst t.n rep no = true) : InB t.rows rep := by
 have := tabOk_len h
 have := inst_rng hi
 unfold InB; omega
theorem tabOk_rows {t : TTable} (h : tabOk t = true) {l : List TRow} (hl : l ∈ t.rows) : l.length ≤ 6 ∧ ∀ r ∈ l, rowOk t.n r = true := by
 simp only [tabOk, Bool.and_eq_true, List.all_eq_true, decide_eq_true_eq] at h
 have := h.2 l hl
 exact ⟨by omega, this.1⟩
theorem rowOk_deps {n : Int} {r : TRow} (h : rowOk n r = true) (hg : isGrp n = true) : (r.attr.deps.length : Int) = n := by
 have h2 : attrOk n r.attr = true := by
  simp only [rowOk, Bool.and_eq_true] at h
  have h3 := h.2
  split at h3
  ·simp only [Bool.and_eq_true] at h3
   rw [of_decide_eq_true h3.2]
   exact none0_ok hg
  ·simp only [Bool.and_eq_true] at h3
   exact h3.2
 simp only [attrOk, Bool.and_eq_true, beq_iff_eq] at h2
 exact h2.1.2
theorem at_memI {α : Type} [Inhabited α] {xs : List α} {k : Int} (h : InB xs k) : atI xs k ∈ xs := by
 have h2 := h.lt
 have e : ((k.toNat : Nat) : Int) = k := by unfold InB at h; omega
 rw [← e]
 exact at_mem h2
theorem trow_ok {t : TTable} {rep no : Int} (h : tabOk t = true) (hi : inst t.n rep no = true) : rowOk t.n (trow t rep no) = true := by
 unfold trow
 have hb := tabOk_in h hi
 have hr := inst_rng hi
 split
 ·exact (tabOk_rows h (at_memI hb)).2 _ (at_memI (by unfold InB; omega))
 ·rcases isGrp_rng (tabOk_grp h) with e | e <;> rw [e] <;> rfl
theorem trow_deps {t : TTable} {rep no : Int} (h : tabOk t = true) (hi : inst t.n rep no = true) : ((trow t rep no).attr.deps.length : Int) = t.n := rowOk_deps (trow_ok h hi) (tabOk_grp h)
theorem rowAtR_len (t : TTable) (rep no : Int) : (rowAtR t rep no).1.attr.deps.length ≤ 5 := by
 unfold rowAtR
 split
 ·rename_i h
  simp only [Bool.and_eq_true] at h
  have h2 := trow_deps h.1 h.2
  have h3 := isGrp_rng (tabOk_grp h.1)
  simp only
  omega
 ·simp [rowD]
def ext (n : Int) (l : List TRow) (no : Int) : List TRow := l ++ List.replicate (no - l.length).toNat (row0 n)
def tset (t : TTable) (rep no : Int) (r : TRow) : TTable := ⟨t.n, setI t.rows rep (setI (ext t.n (atI t.rows rep) no) (no - 1) r)⟩
def tsetR (t : TTable) (rep no : Int) (r : TRow) : TTable × Bool := if tabOk t && inst t.n rep no && rowOk t.n r then (tset t rep no r, true) else (⟨0, []⟩, false)
theorem ext_len {n : Int} {l : List TRow} {no : Int} (h : 0 ≤ no) : ((ext n l no).length : Int) = max (l.length : Int) no := by
 simp only [ext, List.length_append, List.length_replicate]
 omega
def nb (b me : Int) : Int := if b < 8 + me then 8 + me else b + 1 + (me - b - 1) % 8
def nbR (t : TTable) (rep no me : Int) : Int × Bool := if tabOk t && inst t.n rep no && inR me 0 (t.n - 1) && decide (nb (trow t rep no).ballot me ≤ 9999) then (nb (trow t rep no).ballot me, true) else (0, false)
theorem rowOk_ballot {n : Int} {r : TRow} (h : rowOk n r = true) : 0 ≤ r.ballot ∧ r.ballot ≤ 9999 := by
 simp only [rowOk, inR, Bool.and_eq_true, decide_eq_true_eq] at h
 exact h.1.1.1
theorem inR_rng {x lo hi : Int} (h : inR x lo hi = true) : lo ≤ x ∧ x ≤ hi := by
 simpa [inR] using h
end Go.Proofs.Ytjoebpmeeampfaa.Rf

namespace Go.Proofs.Ytjoebpmeeampfaa.Rf
set_option linter.unusedVariables false
set_option linter.unusedSimpArgs false
def isum (xs : List Int) : Int := xs.foldl (· + ·) 0
def sumsOk (xs : List Int) : Bool := (xs.length : Int) == 4 && (xs.all fun x => inR x 0 400) && isum xs == 400
def toldOk (t : TTold) : Bool := inR t.code 0 3 && inR t.sum 0 400 && (t.code == 3 || t.sum == 0)
def clerkAt (last : List Int) (told : List TTold) (i : Nat) : Bool := toldOk (atI told i) && !(atI last i == 0 && !((atI told i).code == 0))
def clerkOk (c : TClerk) : Bool := sumsOk c.sums && (c.last.length : Int) == 4 && (c.told.length : Int) == 4 && (c.last.all fun x => inR x 0 999) && allB (clerkAt c.last c.told) c.told.length
def askOk (a : TAsk) : Bool := inR a.client 0 3 && inR a.no 1 999 && cmdOk a.cmd
def applyM (s : List Int) (c : TCmd) : List Int × TTold :=
 if c.kind == 2 then (s, ⟨3, atI s c.src⟩) else if c.kind == 1 then
  (if decide (atI s c.src < c.amt) then (s, ⟨2, 0⟩) else (setI (setI s c.src (atI s c.src - c.amt)) c.dst (atI (setI s c.src (atI s c.src - c.amt)) c.dst + c.amt), ⟨1, 0⟩))
 else (s, ⟨0, 0⟩)
def serveM (c : TClerk) (a : TAsk) : TClerk × TTold × Int :=
 if a.no == atI c.last a.client then (c, atI c.told a.client, 1) else if decide (a.no < atI c.last a.client) then (c, ⟨0, 0⟩, 2) else if decide (atI c.last a.client + 1 < a.no) then (c, ⟨0, 0⟩, 3)
 else (⟨(applyM c.sums a.cmd).1, setI c.last a.client a.no, setI c.told a.client (applyM c.sums a.cmd).2⟩, (applyM c.sums a.cmd).2, 0)
def serveR (c : TClerk) (a : TAsk) : TClerk × TTold × Int × Bool := if clerkOk c && askOk a then ((serveM c a).1, (serveM c a).2.1, (serveM c a).2.2, true) else (⟨[], [], []⟩, ⟨0, 0⟩, 0, false)
theorem setI_len {α : Type} {xs : List α} {k : Int} {a : α} : (setI xs k a).length = xs.length := List.length_set ..
theorem atI_ne {α : Type} [Inhabited α] {xs : List α} {j k : Int} {a : α} (hj : 0 ≤ j) (hk : 0 ≤ k) (h : j ≠ k) : atI (setI xs j a) k = atI xs k := by
 unfold atI setI
 rw [List.getD_eq_getElem?_getD, List.getD_eq_getElem?_getD, List.getElem?_set_ne (by omega)]
theorem applyM_len (s : List Int) (c : TCmd) : (applyM s c).1.length = s.length := by
 unfold applyM
 split
 ·rfl
 ·split
  ·split
   ·rfl
   ·simp only [setI_len]
  ·rfl
theorem serveM_len (c : TClerk) (a : TAsk) : (serveM c a).1.sums.length = c.sums.length ∧ (serveM c a).1.last.length = c.last.length ∧ (serveM c a).1.told.length = c.told.length := by
 unfold serveM
 split
 ·exact ⟨rfl, rfl, rfl⟩
 ·split
  ·exact ⟨rfl, rfl, rfl⟩
  ·split
   ·exact ⟨rfl, rfl, rfl⟩
   ·exact ⟨applyM_len _ _, setI_len, setI_len⟩
theorem sumsOk_spec {xs : List Int} (h : sumsOk xs = true) : (xs.length : Int) = 4 ∧ ∀ x ∈ xs, 0 ≤ x ∧ x ≤ 400 := by
 simp only [sumsOk, Bool.and_eq_true, beq_iff_eq, List.all_eq_true] at h
 exact ⟨h.1.1, fun x hx => inR_rng (h.1.2 x hx)⟩
theorem clerkOk_spec {c : TClerk} (h : clerkOk c = true) : sumsOk c.sums = true ∧ (c.last.length : Int) = 4 ∧ (c.told.length : Int) = 4 ∧ ∀ x ∈ c.last, 0 ≤ x ∧ x ≤ 999 := by
 simp only [clerkOk, Bool.and_eq_true, beq_iff_eq, List.all_eq_true] at h
 exact ⟨h.1.1.1.1, h.1.1.1.2, h.1.1.2, fun x hx => inR_rng (h.1.2 x hx)⟩
theorem askOk_spec {a : TAsk} (h : askOk a = true) : (0 ≤ a.client ∧ a.client ≤ 3) ∧ (1 ≤ a.no ∧ a.no ≤ 999) ∧ cmdOk a.cmd = true := by
 simp only [askOk, Bool.and_eq_true] at h
 exact ⟨inR_rng h.1.1, inR_rng h.1.2, h.2⟩
theorem serveR_len (c : TClerk) (a : TAsk) : (serveR c a).1.sums.length ≤ 4 ∧ (serveR c a).1.last.length ≤ 4 ∧ (serveR c a).1.told.length ≤ 4 := by
 unfold serveR
 split
 ·rename_i h
  simp only [Bool.and_eq_true] at h
  have h2 := clerkOk_spec h.1
  have h3 := sumsOk_spec h2.1
  have h4 := serveM_len c a
  simp only
  omega
 ·simp
theorem cmdOk_acc {c : TCmd} (h : cmdOk c = true) : (c.kind = 0 ∨ c.kind = 1 ∨ c.kind = 2) ∧ (c.kind = 1 → (0 ≤ c.src ∧ c.src ≤ 3) ∧ (0 ≤ c.dst ∧ c.dst ≤ 3) ∧ c.src ≠ c.dst ∧ 1 ≤ c.amt ∧ c.amt ≤ 1000) ∧ (c.kind = 2 → 0 ≤ c.src ∧ c.src ≤ 3) := by
 unfold cmdOk at h
 split at h
 ·rename_i h0
  have : c.kind = 0 := by simpa using h0
  exact ⟨.inl this, by omega, by omega⟩
 ·split at h
  ·rename_i h1
   have : c.kind = 1 := by simpa using h1
   simp only [Bool.and_eq_true, inR, decide_eq_true_eq, Bool.not_eq_true', beq_eq_false_iff_ne] at h
   exact ⟨by omega, fun _ => ⟨h.1.1.1.2, h.1.1.2, h.1.2, h.2⟩, by omega⟩
  ·simp only [Bool.and_eq_true, inR, decide_eq_true_eq, beq_iff_eq] at h
   exact ⟨by omega, by omega, fun _ => h.1.1.2⟩
end Go.Proofs.Ytjoebpmeeampfaa.Rf

namespace Go.Proofs.Ytjoebpmeeampfaa.Rf
set_option linter.unusedVariables false
set_option linter.unusedSimpArgs false
def comRowN (l : List TRow) (k : Int) (m : Nat) : List (List Int) := (List.range m).flatMap fun i : Nat => if (atI l (i : Int)).state == 3 then [[k, (i : Int) + 1]] else []
def comN (rows : List (List TRow)) (m : Nat) : List (List Int) := (List.range m).flatMap fun k : Nat => comRowN (atI rows (k : Int)) k (atI rows (k : Int)).length
def comM (rows : List (List TRow)) : List (List Int) := comN rows rows.length
theorem comRowN_succ (l : List TRow) (k : Int) (m : Nat) : comRowN l k (m + 1) = comRowN l k m ++ if (atI l (m : Int)).state == 3 then [[k, (m : Int) + 1]] else [] := by
 simp [comRowN, List.range_succ, List.flatMap_append]
theorem comN_succ (rows : List (List TRow)) (m : Nat) : comN rows (m + 1) = comN rows m ++ comRowN (atI rows (m : Int)) m (atI rows (m : Int)).length := by
 simp [comN, List.range_succ, List.flatMap_append]
theorem comRowN_len (l : List TRow) (k : Int) : ∀ m, (comRowN l k m).length ≤ m
 | 0 => by simp [comRowN]
 | m + 1 => by
  have := comRowN_len l k m
  rw [comRowN_succ, List.length_append]
  split <;> simp <;> omega
theorem comN_len {rows : List (List TRow)} (h : ∀ l ∈ rows, l.length ≤ 6) : ∀ {m}, m ≤ rows.length → (comN rows m).length ≤ 6 * m
 | 0, _ => by simp [comN]
 | m + 1, hm => by
  have h1 := comN_len h (m := m) (by omega)
  have h2 := comRowN_len (atI rows (m : Int)) m (atI rows (m : Int)).length
  have h3 := h _ (at_mem (show m < rows.length by omega))
  rw [comN_succ, List.length_append]
  omega
theorem comM_mem {rows : List (List TRow)} {x : List Int} (h : x ∈ comM rows) : ∃ k i : Nat, k < rows.length ∧ i < (atI rows (k : Int)).length ∧ x = [(k : Int), (i : Int) + 1] ∧ (atI (atI rows (k : Int)) (i : Int)).state = 3 := by
 unfold comM comN comRowN at h
 simp only [List.mem_flatMap, List.mem_range] at h
 obtain ⟨k, hk, i, hi, hx⟩ := h
 split at hx
 ·rename_i hs
  exact ⟨k, i, hk, hi, by simpa using hx, by simpa using hs⟩
 ·cases hx
theorem comM_spec {t : TTable} (ht : tabOk t = true) {x : List Int} (h : x ∈ comM t.rows) : InB x 0 ∧ InB x 1 ∧ x.length = 2 ∧ inst t.n (atI x 0) (atI x 1) = true ∧ (trow t (atI x 0) (atI x 1)).state = 3 := by
 obtain ⟨k, i, hk, hi, rfl, hs⟩ := comM_mem h
 have h1 := (tabOk_rows ht (at_mem hk)).1
 have h2 := tabOk_len ht
 refine ⟨by unfold InB; simp, by unfold InB; simp, rfl, ?_, ?_⟩
 ·simp only [atI, inst, inR, Bool.and_eq_true, decide_eq_true_eq]
  simp
  omega
 ·show (trow t (k : Int) ((i : Int) + 1)).state = 3
  unfold trow
  rw [if_pos (by omega), show (i : Int) + 1 - 1 = i by omega]
  exact hs
end Go.Proofs.Ytjoebpmeeampfaa.Rf

namespace Go.Proofs.Ytjoebpmeeampfaa.Rf
set_option linter.unusedVariables false
set_option linter.unusedSimpArgs false
def joinD (xs ys : List Int) (m : Nat) : List Int := (List.range m).map fun i : Nat => max (atI xs (i : Int)) (atI ys (i : Int))
def joinA (a b : TAttr) : TAttr := ⟨max a.seq b.seq, joinD a.deps b.deps a.deps.length⟩
theorem joinD_succ (xs ys : List Int) (m : Nat) : joinD xs ys (m + 1) = joinD xs ys m ++ [max (atI xs (m : Int)) (atI ys (m : Int))] := by simp [joinD, List.range_succ]
theorem joinD_len (xs ys : List Int) (m : Nat) : (joinD xs ys m).length = m := by simp [joinD]
theorem joinA_len (a b : TAttr) : (joinA a b).deps.length = a.deps.length := joinD_len ..
def bestStep (st : Int) (o : Option TRow) (r : TRow) : Option TRow := if r.state == st && (match o with | none => true | some b => decide (b.vote < r.vote)) then some r else o
def bestN (st : Int) (seen : List TRow) : Nat → Option TRow
 | 0 => none
 | m + 1 => bestStep st (bestN st seen m) (atI seen (m : Int))
def accN (st : Int) (seen : List TRow) : Nat → Int
 | 0 => -1
 | m + 1 => if (atI seen (m : Int)).state == st && (decide (accN st seen m < 0) || decide ((atI seen (accN st seen m)).vote < (atI seen (m : Int)).vote)) then m else accN st seen m
theorem accN_rng (st : Int) (seen : List TRow) : ∀ m, -1 ≤ accN st seen m ∧ accN st seen m < m
 | 0 => by simp [accN]
 | m + 1 => by
  have := accN_rng st seen m
  unfold accN
  split <;> omega
theorem accN_succ (st : Int) (seen : List TRow) (m : Nat) : accN st seen (m + 1) = if (atI seen (m : Int)).state == st && (decide (accN st seen m < 0) || decide ((atI seen (accN st seen m)).vote < (atI seen (m : Int)).vote)) then (m : Int) else accN st seen m := rfl
theorem bestN_succ (st : Int) (seen : List TRow) (m : Nat) : bestN st seen (m + 1) = bestStep st (bestN st seen m) (atI seen (m : Int)) := rfl
theorem accN_best (st : Int) (seen : List TRow) : ∀ m, bestN st seen m = if accN st seen m < 0 then none else some (atI seen (accN st seen m))
 | 0 => rfl
 | m + 1 => by
  have ih := accN_best st seen m
  have hr := accN_rng st seen m
  rw [bestN_succ, accN_succ, ih]
  unfold bestStep
  by_cases h : accN st seen m < 0
  ·rw [if_pos h]
   have h2 : decide (accN st seen m < 0) = true := by simpa using h
   rw [h2]
   cases (atI seen (m : Int)).state == st
   ·simp [h]
   ·simp; try omega
  ·rw [if_neg h]
   have h2 : decide (accN st seen m < 0) = false := by simpa using h
   rw [h2]
   simp only [Bool.false_or]
   cases (atI seen (m : Int)).state == st && decide ((atI seen (accN st seen m)).vote < (atI seen (m : Int)).vote)
   ·simp [h]
   ·simp; try omega
def joinN (n : Int) (seen : List TRow) : Nat → TAttr
 | 0 => none0 n
 | m + 1 => if (atI seen (m : Int)).state == 1 then joinA (joinN n seen m) (atI seen (m : Int)).attr else joinN n seen m
theorem joinN_succ (n : Int) (seen : List TRow) (m : Nat) : joinN n seen (m + 1) = if (atI seen (m : Int)).state == 1 then joinA (joinN n seen m) (atI seen (m : Int)).attr else joinN n seen m := rfl
theorem joinN_len (n : Int) (seen : List TRow) : ∀ m, (joinN n seen m).deps.length = n.toNat
 | 0 => by simp [joinN, none0]
 | m + 1 => by
  have := joinN_len n seen m
  unfold joinN
  split
  ·rw [joinA_len, this]
  ·exact this
def likeM (seen : List TRow) (r : TRow) : Bool := r.state == 1 && r.vote == 0 && decide (r.cmd = (atI seen 0).cmd) && decide (r.attr = (atI seen 0).attr)
def likeN (seen : List TRow) : Nat → Bool := allB fun i => likeM seen (atI seen (i : Int))
def chooseM (n : Int) (seen : List TRow) : Int × TCmd × TAttr :=
 match bestN 2 seen seen.length with
 | some r => (1, r.cmd, r.attr)
 | none => if likeN seen seen.length then (1, (atI seen 0).cmd, (atI seen 0).attr) else
  match bestN 1 seen seen.length with
  | some r => (2, r.cmd, joinN n seen seen.length)
  | none => (3, ⟨0, 0, 0, 0, 0⟩, none0 n)
def seenOk (n : Int) (seen : List TRow) : Bool := isGrp n && decide (n / 2 < (seen.length : Int)) && decide ((seen.length : Int) ≤ n) && seen.all fun r => rowOk n r && !(r.state == 3)
def chooseR (n : Int) (seen : List TRow) : Int × TCmd × TAttr × Bool := if seenOk n seen then ((chooseM n seen).1, (chooseM n seen).2.1, (chooseM n seen).2.2, true) else (0, ⟨0, 0, 0, 0, 0⟩, ⟨0, []⟩, false)
theorem seenOk_spec {n : Int} {seen : List TRow} (h : seenOk n seen = true) : isGrp n = true ∧ n / 2 < (seen.length : Int) ∧ (seen.length : Int) ≤ n ∧ ∀ r ∈ seen, rowOk n r = true ∧ (r.state == 3) = false := by
 simp only [seenOk, Bool.and_eq_true, decide_eq_true_eq, List.all_eq_true, Bool.not_eq_true'] at h
 exact ⟨h.1.1.1, h.1.1.2, h.1.2, h.2⟩
theorem chooseM_len {n : Int} {seen : List TRow} (hg : isGrp n = true) (h0 : 0 < seen.length) (h : ∀ r ∈ seen, rowOk n r = true) : (chooseM n seen).2.2.deps.length ≤ 5 := by
 have hn := isGrp_rng hg
 have hd : ∀ r ∈ seen, r.attr.deps.length ≤ 5 := fun r hr => by have := rowOk_deps (h r hr) hg; omega
 unfold chooseM
 rw [accN_best, accN_best]
 have h1 := accN_rng 2 seen seen.length
 split
 ·rename_i r hr
  split at hr
  ·cases hr
  ·simp only [Option.some.injEq] at hr
   subst hr
   exact hd _ (at_memI (by unfold InB; omega))
 ·split
  ·exact hd _ (at_memI (by unfold InB; omega))
  ·split
   ·simp only [joinN_len]; omega
   ·simp only [none0, List.length_replicate]; omega
theorem chooseR_len (n : Int) (seen : List TRow) : (chooseR n seen).2.2.1.deps.length ≤ 5 := by
 unfold chooseR
 split
 ·rename_i h
  obtain ⟨h1, h2, h3, h4⟩ := seenOk_spec h
  have hn := isGrp_rng h1
  exact chooseM_len h1 (by omega) fun r hr => (h4 r hr).1
 ·simp
end Go.Proofs.Ytjoebpmeeampfaa.Rf

namespace Go.Proofs.Ytjoebpmeeampfaa.Rf
set_option linter.unusedVariables false
set_option linter.unusedSimpArgs false
end Go.Proofs.Ytjoebpmeeampfaa.Rf

namespace Go.Proofs.Ytjoebpmeeampfaa.Rf
set_option linter.unusedVariables false
set_option linter.unusedSimpArgs false
section
variable {T : Nat → Ent} {β : Type}
end
end Go.Proofs.Ytjoebpmeeampfaa.Rf

namespace Go.Proofs.Ytjoebpmeeampfaa.Rf
set_option linter.unusedVariables false
set_option linter.unusedSimpArgs false
end Go.Proofs.Ytjoebpmeeampfaa.Rf

namespace Go.Proofs.Ytjoebpmeeampfaa.Rf
set_option linter.unusedVariables false
set_option linter.unusedSimpArgs false
def clerk0 : TClerk := ⟨[100, 100, 100, 100], [0, 0, 0, 0], [⟨0, 0⟩, ⟨0, 0⟩, ⟨0, 0⟩, ⟨0, 0⟩]⟩
structure PlayS where
 c : TClerk
 told : List TTold
 codes : List Int
def playN (l : List TAsk) : Nat → PlayS
 | 0 => ⟨clerk0, [], []⟩
 | n + 1 => ⟨(serveM (playN l n).c (atI l (n : Int))).1, (playN l n).told ++ [(serveM (playN l n).c (atI l (n : Int))).2.1], (playN l n).codes ++ [(serveM (playN l n).c (atI l (n : Int))).2.2]⟩
def asksOk (l : List TAsk) : Bool := l.all askOk && decide ((l.length : Int) ≤ 60)
def playR (l : List TAsk) : PlayS × Bool := if asksOk l then (playN l l.length, true) else (⟨⟨[], [], []⟩, [], []⟩, false)
def onceN (l : List TAsk) (cs : List Int) : Nat → List TAsk
 | 0 => []
 | n + 1 => if atI cs (n : Int) == 0 then onceN l cs n ++ [atI l (n : Int)] else onceN l cs n
def onceR (l : List TAsk) : List TAsk × Bool := if asksOk l then (onceN l (playN l l.length).codes l.length, true) else ([], false)
theorem playN_len (l : List TAsk) : ∀ n, (playN l n).told.length = n ∧ (playN l n).codes.length = n
 | 0 => ⟨rfl, rfl⟩
 | n + 1 => by
  have := playN_len l n
  simp only [playN, List.length_append, List.length_cons, List.length_nil]
  omega
theorem onceN_len (l : List TAsk) (cs : List Int) : ∀ n, (onceN l cs n).length ≤ n
 | 0 => Nat.le_refl _
 | n + 1 => by
  have := onceN_len l cs n
  simp only [onceN]
  split
  ·simp only [List.length_append, List.length_cons, List.length_nil]; omega
  ·omega
theorem mem_setI {α : Type} {xs : List α} {k : Int} {a x : α} (h : x ∈ setI xs k a) : x ∈ xs ∨ x = a := List.mem_or_eq_of_mem_set h
theorem applyM_rng {s : List Int} {c : TCmd} {B : Int} (hc : cmdOk c = true) (hl : (s.length : Int) = 4) (hq : ∀ x ∈ s, 0 ≤ x ∧ x ≤ B) : ∀ x ∈ (applyM s c).1, 0 ≤ x ∧ x ≤ B + 1000 := by
 obtain ⟨hk, hm, -⟩ := cmdOk_acc hc
 have h0 : ∀ x ∈ s, 0 ≤ x ∧ x ≤ B + 1000 := fun x hx => by have := hq x hx; omega
 unfold applyM
 split
 ·exact h0
 ·split
  ·rename_i h1
   obtain ⟨⟨f1, f2⟩, ⟨t1, t2⟩, hne, a1, a2⟩ := hm (by simpa using h1)
   split
   ·exact h0
   ·rename_i h2
    have hbf : InB s c.src := by unfold InB; omega
    have hbt : InB s c.dst := by unfold InB; omega
    have hqf := hq _ (at_memI hbf)
    have hqt := hq _ (at_memI hbt)
    rw [atI_ne f1 t1 hne]
    simp only [decide_eq_true_eq] at h2
    intro x hx
    rcases mem_setI hx with hx | rfl
    ·rcases mem_setI hx with hx | rfl
     ·exact h0 x hx
     ·omega
    ·omega
  ·exact h0
theorem serveM_rng {c : TClerk} {a : TAsk} {B : Int} (ha : askOk a = true) (h1 : (c.sums.length : Int) = 4) (hq : ∀ x ∈ c.sums, 0 ≤ x ∧ x ≤ B) (hq2 : ∀ x ∈ c.last, 0 ≤ x ∧ x ≤ 999) :
  (∀ x ∈ (serveM c a).1.sums, 0 ≤ x ∧ x ≤ B + 1000) ∧ ∀ x ∈ (serveM c a).1.last, 0 ≤ x ∧ x ≤ 999 := by
 have h0 : ∀ x ∈ c.sums, 0 ≤ x ∧ x ≤ B + 1000 := fun x hx => by have := hq x hx; omega
 obtain ⟨-, hn, hc⟩ := askOk_spec ha
 unfold serveM
 split
 ·exact ⟨h0, hq2⟩
 ·split
  ·exact ⟨h0, hq2⟩
  ·split
   ·exact ⟨h0, hq2⟩
   ·refine ⟨applyM_rng hc h1 hq, fun x hx => ?_⟩
    rcases mem_setI hx with hx | rfl
    ·exact hq2 x hx
    ·omega
theorem playN_inv {l : List TAsk} (h : ∀ a ∈ l, askOk a = true) : ∀ n, n ≤ l.length →
  ((playN l n).c.sums.length : Int) = 4 ∧ ((playN l n).c.last.length : Int) = 4 ∧ ((playN l n).c.told.length : Int) = 4 ∧ (∀ x ∈ (playN l n).c.sums, 0 ≤ x ∧ x ≤ 100 + 1000 * n) ∧ ∀ x ∈ (playN l n).c.last, 0 ≤ x ∧ x ≤ 999
 | 0, _ => by
  refine ⟨rfl, rfl, rfl, ?_, ?_⟩
  ·simp only [playN, clerk0]; decide
  ·simp only [playN, clerk0]; decide
 | n + 1, hn => by
  obtain ⟨h1, h2, h3, h4, h5⟩ := playN_inv h n (by omega)
  have ha := h _ (at_mem (xs := l) (i := n) (by omega))
  have hl := serveM_len (playN l n).c (atI l (n : Int))
  obtain ⟨h6, h7⟩ := serveM_rng ha h1 h4 h5
  simp only [playN]
  refine ⟨by omega, by omega, by omega, fun x hx => ?_, h7⟩
  have := h6 x hx
  omega
theorem asksOk_spec {l : List TAsk} (h : asksOk l = true) : (∀ a ∈ l, askOk a = true) ∧ l.length ≤ 60 := by
 simp only [asksOk, Bool.and_eq_true, List.all_eq_true, decide_eq_true_eq] at h
 exact ⟨h.1, by omega⟩
end Go.Proofs.Ytjoebpmeeampfaa.Rf

namespace Go.Proofs.Ytjoebpmeeampfaa.Rf
set_option linter.unusedVariables false
set_option linter.unusedSimpArgs false
def isBytes (d : D) : Prop := WT (.sl 1 [.int .u8]) d
def bLen (d : D) : Nat := match d with
 | .rows _ rs => rs.length
 | _ => 0
theorem bytes_len {d : D} (h : isBytes d) : Prim.len.run [d] = some [i64 (bLen d)] ∧ bLen d ≤ 140737488351232 := by
 obtain ⟨rs, rfl, h1, h2⟩ := h
 refine ⟨rfl, ?_⟩
 simp only [bLen]
 have : reachBytes = 140737488351232 := rfl
 omega
theorem bytes_at {d : D} (h : isBytes d) {k : Int} (h0 : 0 ≤ k) (h1 : k < (bLen d : Nat)) : Prim.inb.run [d, i64 k] = some [] ∧ ∃ b, (Prim.row 1 0 [true]).run [d, i64 k] = some [.int .u8 b] ∧ 0 ≤ b ∧ b ≤ 255 := by
 obtain ⟨rs, rfl, h2, h3⟩ := h
 simp only [bLen] at h1
 refine ⟨by simp only [Prim.run]; rw [if_pos ⟨h0, h1⟩], ?_⟩
 have hk : k.toNat < rs.length := by omega
 have hm := h3 _ (List.getElem_mem hk)
 simp only [WTs] at hm
 obtain ⟨d1, r1, e, ⟨b, rfl, hb1, hb2⟩, rfl⟩ := hm
 refine ⟨b, ?_, hb1, hb2⟩
 simp only [Prim.run]
 rw [if_pos ⟨rfl, h0⟩, List.getElem?_eq_getElem hk, e]
 rfl
def u64 (n : Int) : D := .int .u64 n
theorem u_mul {a b : Int} : (Prim.bin .mul).run [u64 a, .int .u64 b] = some [u64 (IntKind.u64.wrap (a * b))] := rfl
theorem u_add {a b : Int} : (Prim.bin .add).run [u64 a, u64 b] = some [u64 (IntKind.u64.wrap (a + b))] := rfl
theorem u_addc {a b : Int} : (Prim.bin .add).run [u64 a, .int .u64 b] = some [u64 (IntKind.u64.wrap (a + b))] := rfl
theorem u_shr {a : Int} : (Prim.bin .shr).run [u64 a, .int .u64 40] = some [u64 (a.fdiv (2 ^ 40))] := rfl
theorem u_and {a : Int} : (Prim.bin .and).run [u64 a, .int .u64 255] = some [u64 (IntKind.u64.wrap (BitVec.ofInt 64 a &&& BitVec.ofInt 64 255).toNat)] := rfl
theorem u_conv {a : Int} : (Prim.conv .u64).run [i64 a] = some [u64 (IntKind.u64.wrap a)] := rfl
theorem u8_conv {a : Int} (h0 : 0 ≤ a) (h1 : a ≤ 255) : (Prim.conv .i64).run [.int .u8 a] = some [i64 a] := by
 show some [D.int .i64 (IntKind.i64.wrap a)] = _
 rw [wrap_i64 (by omega) (by omega)]
def lowV (a : Int) : Int := IntKind.i64.wrap (IntKind.u64.wrap (BitVec.ofInt 64 a &&& BitVec.ofInt 64 255).toNat)
theorem u_low {a : Int} : (Prim.conv .i64).run [u64 (IntKind.u64.wrap (BitVec.ofInt 64 a &&& BitVec.ofInt 64 255).toNat)] = some [i64 (lowV a)] := rfl
theorem lowV_rng (a : Int) : 0 ≤ lowV a ∧ lowV a ≤ 255 := by
 unfold lowV
 have h1 : (BitVec.ofInt 64 a &&& BitVec.ofInt 64 255).toNat ≤ 255 := by
  rw [BitVec.toNat_and]
  exact Nat.and_le_right
 generalize (BitVec.ofInt 64 a &&& BitVec.ofInt 64 255).toNat = n at h1
 have h2 : IntKind.u64.wrap (n : Int) = n := IntWalk.u64_in n ⟨by omega, by omega⟩
 rw [h2, wrap_i64 (by omega) (by omega)]
 omega
theorem run_rem' {a b : Int} (h0 : 0 ≤ a) (hb : 0 < b) : (Prim.bin .rem).run [i64 a, i64 b] = some [i64 (a % b)] := by
 simp only [Prim.run, binD, intOp, if_true]
 rw [if_neg (by omega)]
 rw [Int.tmod_eq_emod_of_nonneg h0]
 rfl
theorem loopEx {T : Nat → Ent} {β γ : Type} {body : Tm β} {ρ : List D} {init : List Atom} (m : γ → Nat) (inv : γ → Prop) (vs : γ → List D) (Q : Kind × List D → Prop) (c0 : γ) (h0 : init.map (·.val ρ) = vs c0) (hi : inv c0)
  (h : ∀ c, inv c → (∃ c', Er T body (ρ ++ vs c) = some (.cont, vs c') ∧ inv c' ∧ m c' < m c) ∨ (∃ q, Er T body (ρ ++ vs c) = some q ∧ q.1 ≠ .cont ∧ Q q)) : ∃ q, Er T (.loop init body) ρ = some q ∧ Q q :=
 loopR (T := T) (body := body) (ρ := ρ) m inv vs Q (fun c hc => by
  rcases h c hc with ⟨c', h2, h3, h4⟩ | ⟨q, h2, h3, h4⟩
  ·exact ⟨_, h2, .inl ⟨rfl, c', h3, h4, rfl⟩⟩
  ·exact ⟨_, h2, .inr ⟨h3, h4⟩⟩) (m c0) c0 (Nat.le_refl _) hi init h0
theorem S_u64 : (∀ {a b : Int}, (Prim.bin .mul).run [u64 a, .int .u64 b] = some [u64 (IntKind.u64.wrap (a * b))]) ∧ (∀ {a b : Int}, (Prim.bin .add).run [u64 a, u64 b] = some [u64 (IntKind.u64.wrap (a + b))]) ∧
  (∀ {a b : Int}, (Prim.bin .add).run [u64 a, .int .u64 b] = some [u64 (IntKind.u64.wrap (a + b))]) ∧ (∀ {a : Int}, (Prim.bin .shr).run [u64 a, .int .u64 40] = some [u64 (a.fdiv (2 ^ 40))]) ∧
  (∀ {a : Int}, (Prim.bin .and).run [u64 a, .int .u64 255] = some [u64 (IntKind.u64.wrap (BitVec.ofInt 64 a &&& BitVec.ofInt 64 255).toNat)]) ∧ (∀ {a : Int}, (Prim.conv .u64).run [i64 a] = some [u64 (IntKind.u64.wrap a)]) ∧
  (∀ {a : Int}, (Prim.conv .i64).run [u64 (IntKind.u64.wrap (BitVec.ofInt 64 a &&& BitVec.ofInt 64 255).toNat)] = some [i64 (lowV a)]) := ⟨u_mul, u_add, u_addc, u_shr, u_and, u_conv, u_low⟩
end Go.Proofs.Ytjoebpmeeampfaa.Rf

namespace Go.Proofs.Ytjoebpmeeampfaa.Rf
set_option linter.unusedVariables false
set_option linter.unusedSimpArgs false
def anyN (st : Int) (seen : List TRow) : Nat → Bool
 | 0 => false
 | m + 1 => anyN st seen m || (atI seen (m : Int)).state == st
theorem anyN_spec {st : Int} {seen : List TRow} : ∀ {m : Nat}, anyN st seen m = true ↔ ∃ i : Nat, i < m ∧ (atI seen (i : Int)).state = st
 | 0 => by simp [anyN]
 | m + 1 => by
  simp only [anyN, Bool.or_eq_true, beq_iff_eq, anyN_spec (m := m)]
  constructor
  ·rintro (⟨i, h1, h2⟩ | h)
   ·exact ⟨i, by omega, h2⟩
   ·exact ⟨m, by omega, h⟩
  ·rintro ⟨i, h1, h2⟩
   rcases Nat.lt_or_ge i m with h | h
   ·exact .inl ⟨i, h, h2⟩
   ·obtain rfl : i = m := by omega
    exact .inr h2
theorem bestN_any (st : Int) (seen : List TRow) : ∀ m, (bestN st seen m).isSome = anyN st seen m
 | 0 => rfl
 | m + 1 => by
  have ih := bestN_any st seen m
  rw [bestN_succ]
  unfold bestStep
  simp only [anyN]
  cases ho : bestN st seen m with
  | none =>
   rw [ho] at ih
   rw [← ih]
   cases hs : (atI seen (m : Int)).state == st <;> simp
  | some b =>
   rw [ho] at ih
   rw [← ih]
   simp only [Option.isSome_some, Bool.true_or]
   split <;> rfl
def metN (c : TCmd) (a : TAttr) (seen : List TRow) : Nat → Bool
 | 0 => false
 | m + 1 => metN c a seen m || (decide ((atI seen (m : Int)).cmd = c) && decide ((atI seen (m : Int)).attr = a))
theorem metN_of {c : TCmd} {a : TAttr} {seen : List TRow} {i : Nat} (h1 : (atI seen (i : Int)).cmd = c) (h2 : (atI seen (i : Int)).attr = a) : ∀ {m : Nat}, i < m → metN c a seen m = true
 | 0, h => by omega
 | m + 1, h => by
  simp only [metN, Bool.or_eq_true]
  rcases Nat.lt_or_ge i m with hi | hi
  ·exact .inl (metN_of h1 h2 hi)
  ·obtain rfl : i = m := by omega
   exact .inr (by simp [h1, h2])
theorem likeN_any {seen : List TRow} (h0 : 0 < seen.length) (h : likeN seen seen.length = true) : anyN 1 seen seen.length = true := by
 unfold likeN at h
 have h1 : likeM seen (atI seen ((0 : Nat) : Int)) = true := by
  by_cases hc : likeM seen (atI seen ((0 : Nat) : Int)) = true
  ·exact hc
  ·exfalso
   have : ∀ n, 0 < n → allB (fun i => likeM seen (atI seen (i : Int))) n = false := by
    intro n hn
    induction n with
    | zero => omega
    | succ n ih =>
     rcases Nat.eq_zero_or_pos n with rfl | hp
     ·simp only [allB] at *
      simpa using hc
     ·have := ih hp
      simp only [allB] at *
      first | simp [this] | simp_all
   rw [this _ h0] at h
   cases h
 refine anyN_spec.2 ⟨0, h0, ?_⟩
 simp only [likeM, Bool.and_eq_true, beq_iff_eq] at h1
 exact h1.1.1.1
theorem joinD_id {xs ys : List Int} (h : ∀ i : Nat, i < xs.length → atI ys (i : Int) ≤ atI xs (i : Int)) : joinD xs ys xs.length = xs := by
 apply List.ext_getElem?
 intro i
 unfold joinD
 rw [List.getElem?_map]
 rcases Nat.lt_or_ge i xs.length with hi | hi
 ·rw [List.getElem?_range hi, List.getElem?_eq_getElem hi, Option.map_some, Int.max_eq_left (h i hi), atI_get hi]
 ·rw [List.getElem?_eq_none (by simpa using hi), List.getElem?_eq_none hi]
  rfl
theorem joinD_at {xs ys : List Int} {m i : Nat} (h : i < m) : atI (joinD xs ys m) (i : Int) = max (atI xs (i : Int)) (atI ys (i : Int)) := by
 have hl : i < (joinD xs ys m).length := by rw [joinD_len]; exact h
 rw [atI_get hl]
 simp [joinD]
theorem joinN_ge {n : Int} {seen : List TRow} {i : Nat} (hs : (atI seen (i : Int)).state = 1) : ∀ {m : Nat}, i < m →
  (atI seen (i : Int)).attr.seq ≤ (joinN n seen m).seq ∧ ∀ k : Nat, k < n.toNat → atI (atI seen (i : Int)).attr.deps (k : Int) ≤ atI (joinN n seen m).deps (k : Int)
 | 0, h => by omega
 | m + 1, h => by
  have hl := joinN_len n seen m
  rw [joinN_succ]
  rcases Nat.lt_or_ge i m with hi | hi
  ·obtain ⟨h1, h2⟩ := joinN_ge (n := n) hs hi
   split
   ·refine ⟨by simp only [joinA]; omega, fun k hk => ?_⟩
    simp only [joinA]
    rw [joinD_at (by omega)]
    have := h2 k hk
    omega
   ·exact ⟨h1, h2⟩
  ·obtain rfl : i = m := by omega
   rw [if_pos (by simpa using hs)]
   refine ⟨by simp only [joinA]; omega, fun k hk => ?_⟩
   simp only [joinA]
   rw [joinD_at (by omega)]
   omega
theorem attrOk_at {n : Int} {a : TAttr} (h : attrOk n a = true) : (0 ≤ a.seq ∧ a.seq ≤ 999) ∧ (a.deps.length : Int) = n ∧ ∀ k : Nat, k < a.deps.length → 0 ≤ atI a.deps (k : Int) ∧ atI a.deps (k : Int) ≤ 6 := by
 simp only [attrOk, Bool.and_eq_true, beq_iff_eq, List.all_eq_true] at h
 exact ⟨inR_rng h.1.1, h.1.2, fun k hk => inR_rng (h.2 _ (at_mem hk))⟩
theorem attrOk_of {n : Int} {a : TAttr} (h1 : 0 ≤ a.seq ∧ a.seq ≤ 999) (h2 : (a.deps.length : Int) = n) (h3 : ∀ k : Nat, k < a.deps.length → 0 ≤ atI a.deps (k : Int) ∧ atI a.deps (k : Int) ≤ 6) : attrOk n a = true := by
 simp only [attrOk, Bool.and_eq_true, beq_iff_eq, List.all_eq_true]
 refine ⟨⟨by simp [inR, h1], h2⟩, fun x hx => ?_⟩
 obtain ⟨k, hk, rfl⟩ := List.getElem_of_mem hx
 have := h3 k hk
 rw [atI_get hk] at this
 simp [inR, this]
theorem rowOk_attr {n : Int} {r : TRow} (h : rowOk n r = true) (hg : isGrp n = true) : attrOk n r.attr = true := by
 simp only [rowOk, Bool.and_eq_true] at h
 have h3 := h.2
 have hn := isGrp_rng hg
 split at h3
 ·simp only [Bool.and_eq_true, decide_eq_true_eq] at h3
  rw [h3.2]
  refine attrOk_of (by simp [none0]) (by simp [none0]; omega) fun k hk => ?_
  rw [atI_get hk]
  simp [none0]
 ·simp only [Bool.and_eq_true] at h3
  exact h3.2
theorem joinN_ok {n : Int} {seen : List TRow} (hg : isGrp n = true) (h : ∀ r ∈ seen, rowOk n r = true) : ∀ m, m ≤ seen.length → attrOk n (joinN n seen m) = true
 | 0, _ => by
  have hn := isGrp_rng hg
  refine attrOk_of (by simp [joinN, none0]) (by simp [joinN, none0]; omega) fun k hk => ?_
  rw [atI_get hk]
  simp [joinN, none0]
 | m + 1, hm => by
  obtain ⟨h1, h2, h3⟩ := attrOk_at (joinN_ok hg h m (by omega))
  obtain ⟨h4, h5, h6⟩ := attrOk_at (rowOk_attr (h _ (at_mem (xs := seen) (i := m) (by omega))) hg)
  rw [joinN_succ]
  split
  ·refine attrOk_of (by simp only [joinA]; omega) (by simp only [joinA, joinD_len]; omega) fun k hk => ?_
   simp only [joinA, joinD_len] at hk ⊢
   rw [joinD_at hk]
   have := h3 k hk
   have := h6 k (by omega)
   omega
  ·exact joinN_ok hg h m (by omega)
structure ChooseSpec (n : Int) (seen : List TRow) (why : Int) (c : TCmd) (a : TAttr) : Prop where
 w : why = 1 ∨ why = 2 ∨ why = 3
 acc : anyN 2 seen seen.length = true → why = 1
 non : anyN 2 seen seen.length = false → anyN 1 seen seen.length = false → why = 3
 w3 : why = 3 → anyN 2 seen seen.length = false ∧ anyN 1 seen seen.length = false
 w1 : why = 1 → metN c a seen seen.length = true
 w2 : why = 2 → ∀ i : Nat, i < seen.length → (atI seen (i : Int)).state = 1 → attrOk n a = true ∧ attrOk n (atI seen (i : Int)).attr = true ∧ joinA a (atI seen (i : Int)).attr = a
theorem chooseM_spec {n : Int} {seen : List TRow} (hg : isGrp n = true) (h0 : 0 < seen.length) (h : ∀ r ∈ seen, rowOk n r = true) : ChooseSpec n seen (chooseM n seen).1 (chooseM n seen).2.1 (chooseM n seen).2.2 := by
 have b2 := bestN_any 2 seen seen.length
 have b1 := bestN_any 1 seen seen.length
 have a2 := accN_best 2 seen seen.length
 have r2 := accN_rng 2 seen seen.length
 unfold chooseM
 cases e2 : bestN 2 seen seen.length with
 | some r =>
  rw [e2] at b2 a2
  simp only [Option.isSome_some] at b2
  simp only
  have hm : metN r.cmd r.attr seen seen.length = true := by
   split at a2
   ·cases a2
   ·simp only [Option.some.injEq] at a2
    have e : ((accN 2 seen seen.length).toNat : Int) = accN 2 seen seen.length := by omega
    refine metN_of (i := (accN 2 seen seen.length).toNat) ?_ ?_ (by omega)
    ·rw [e, a2]
    ·rw [e, a2]
  exact ⟨.inl rfl, fun _ => rfl, fun hc => (by rw [hc] at b2; cases b2), fun hc => (by cases hc), fun _ => hm, fun hc => (by cases hc)⟩
 | none =>
  rw [e2] at b2
  simp only [Option.isSome_none] at b2
  simp only
  cases hl : likeN seen seen.length with
  | true =>
   have h1 := likeN_any h0 hl
   simp only [if_true]
   exact ⟨.inl rfl, fun _ => rfl, fun _ hc => (by rw [hc] at h1; cases h1), fun hc => (by cases hc), fun _ => metN_of (i := 0) rfl rfl h0, fun hc => (by cases hc)⟩
  | false =>
   simp only [Bool.false_eq_true, if_false]
   cases e1 : bestN 1 seen seen.length with
   | some r =>
    rw [e1] at b1
    simp only [Option.isSome_some] at b1
    simp only
    refine ⟨.inr (.inl rfl), fun hc => (by rw [hc] at b2; cases b2), fun _ hc => (by rw [hc] at b1; cases b1), fun hc => (by cases hc), fun hc => (by cases hc), fun _ i hi hs => ?_⟩
    have h1 := joinN_ok hg h seen.length (Nat.le_refl _)
    have h2 := rowOk_attr (h _ (at_mem hi)) hg
    refine ⟨h1, h2, ?_⟩
    obtain ⟨h3, h4⟩ := joinN_ge (n := n) hs hi
    have hl := joinN_len n seen seen.length
    unfold joinA
    rw [joinD_id (fun k hk => h4 k (by omega)), Int.max_eq_left h3]
   | none =>
    rw [e1] at b1
    simp only [Option.isSome_none] at b1
    simp only
    exact ⟨.inr (.inr rfl), fun hc => (by rw [hc] at b2; cases b2), fun _ _ => rfl, fun _ => ⟨b2.symm, b1.symm⟩, fun hc => (by cases hc), fun hc => (by cases hc)⟩
end Go.Proofs.Ytjoebpmeeampfaa.Rf

namespace Go.Proofs.Ytjoebpmeeampfaa.Rf
set_option linter.unusedVariables false
set_option linter.unusedSimpArgs false
theorem atI_app {α : Type} [Inhabited α] {xs ys : List α} {k : Int} (h0 : 0 ≤ k) (h : k < (xs.length : Int)) : atI (xs ++ ys) k = atI xs k := by
 unfold atI
 rw [List.getD_eq_getElem?_getD, List.getD_eq_getElem?_getD, List.getElem?_append_left (by omega)]
theorem atI_rep {α : Type} [Inhabited α] {xs : List α} {a : α} {n : Nat} {k : Int} (h : (xs.length : Int) ≤ k) (h2 : k < (xs.length : Int) + n) : atI (xs ++ List.replicate n a) k = a := by
 unfold atI
 rw [List.getD_eq_getElem?_getD, List.getElem?_append_right (by omega), List.getElem?_replicate_of_lt (by omega)]
 rfl
theorem trow_tset {t : TTable} {rep no : Int} {r : TRow} (h : tabOk t = true) (hi : inst t.n rep no = true) {k i : Int} (hk : inst t.n k i = true) : trow (tset t rep no r) k i = if k = rep ∧ i = no then r else trow t k i := by
 obtain ⟨r1, r2, r3, r4⟩ := inst_rng hi
 obtain ⟨k1, k2, k3, k4⟩ := inst_rng hk
 have hb := tabOk_in h hi
 have hb2 := tabOk_in h hk
 have hl := ext_len (n := t.n) (l := atI t.rows rep) (no := no) (by omega)
 unfold trow
 simp only [tset]
 by_cases hkr : k = rep
 ·subst hkr
  have e : atI (setI t.rows k (setI (ext t.n (atI t.rows k) no) (no - 1) r)) k = setI (ext t.n (atI t.rows k) no) (no - 1) r := S_upd.1 hb
  simp only [e, setI_len, true_and]
  by_cases hin : i = no
  ·subst hin
   rw [if_pos (by omega), if_pos rfl]
   exact S_upd.1 (by unfold InB; omega)
  ·rw [if_neg hin]
   rw [atI_ne (by omega) (by omega) (by omega)]
   by_cases h1 : i ≤ ((atI t.rows k).length : Int)
   ·rw [if_pos (by omega), if_pos h1]
    exact atI_app (by omega) (by omega)
   ·rw [if_neg h1]
    split
    ·exact atI_rep (by omega) (by omega)
    ·rfl
 ·rw [if_neg (fun hc => hkr hc.1)]
  have e : atI (setI t.rows rep (setI (ext t.n (atI t.rows rep) no) (no - 1) r)) k = atI t.rows k := atI_ne (by omega) (by omega) (fun e => hkr e.symm)
  simp only [e]
theorem row0_ok {n : Int} (h : isGrp n = true) : rowOk n (row0 n) = true := by
 have hn := isGrp_rng h
 rcases hn with rfl | rfl <;> decide
theorem tset_ok {t : TTable} {rep no : Int} {r : TRow} (h : tabOk t = true) (hi : inst t.n rep no = true) (hr : rowOk t.n r = true) : tabOk (tset t rep no r) = true := by
 obtain ⟨r1, r2, r3, r4⟩ := inst_rng hi
 have hb := tabOk_in h hi
 have hg := tabOk_grp h
 have hlen := tabOk_len h
 have hl := ext_len (n := t.n) (l := atI t.rows rep) (no := no) (by omega)
 obtain ⟨h6, hrows⟩ := tabOk_rows h (at_memI hb)
 simp only [tabOk, tset, Bool.and_eq_true, List.all_eq_true, beq_iff_eq, decide_eq_true_eq, setI_len]
 refine ⟨⟨hg, hlen⟩, fun l hl2 => ?_⟩
 rcases mem_setI hl2 with hl2 | rfl
 ·obtain ⟨q1, q2⟩ := tabOk_rows h hl2
  exact ⟨q2, by omega⟩
 ·refine ⟨fun x hx => ?_, by rw [setI_len]; omega⟩
  rcases mem_setI hx with hx | rfl
  ·unfold ext at hx
   rcases List.mem_append.1 hx with hx | hx
   ·exact hrows x hx
   ·rw [List.eq_of_mem_replicate hx]
    exact row0_ok hg
  ·exact hr
theorem nb_props {b me : Int} (hb : 0 ≤ b) (h0 : 0 ≤ me) (h1 : me ≤ 7) : b < nb b me ∧ nb b me % 8 = me ∧ 8 ≤ nb b me := by
 unfold nb
 split <;> omega
theorem smTab_ok {t : TTable} (h : tabOk t = true) : smTab t.rows := by
 have hg := isGrp_rng (tabOk_grp h)
 have hl := tabOk_len h
 refine ⟨by omega, fun l hl2 => ?_⟩
 obtain ⟨q1, q2⟩ := tabOk_rows h hl2
 exact ⟨by omega, fun r hr => by have := rowOk_deps (q2 r hr) (tabOk_grp h); omega⟩
def comR (t : TTable) : List (List Int) × Bool := if tabOk t then (comM t.rows, true) else ([], false)
def newR (n : Int) : TTable × Bool := if isGrp n then (⟨n, List.replicate n.toNat []⟩, true) else (⟨0, []⟩, false)
theorem smTab_drawn {rows : List (List TRow)} (h1 : rows.length ≤ 5) (h2 : ∀ l ∈ rows, l.length ≤ 5 ∧ ∀ r ∈ l, r.attr.deps.length ≤ 10) : smTab rows :=
 ⟨by omega, fun l hl => ⟨by have := (h2 l hl).1; omega, fun r hr => by have := (h2 l hl).2 r hr; omega⟩⟩
theorem smTab_new (n : Int) (h : isGrp n = true) : smTab (List.replicate n.toNat ([] : List TRow)) := by
 have := isGrp_rng h
 exact ⟨by rw [List.length_replicate]; omega, fun l hl => by rw [List.eq_of_mem_replicate hl]; exact ⟨by simp, by simp⟩⟩
theorem comR_len (t : TTable) : (comR t).1.length ≤ 100 ∧ ∀ l ∈ (comR t).1, l.length ≤ 10 := by
 unfold comR
 split
 ·rename_i ht
  have hg := isGrp_rng (tabOk_grp ht)
  have hl := tabOk_len ht
  have h6 : ∀ l ∈ t.rows, l.length ≤ 6 := fun l hl => (tabOk_rows ht hl).1
  have := comN_len h6 (Nat.le_refl t.rows.length)
  refine ⟨by show (comN t.rows t.rows.length).length ≤ 100; omega, fun l hl2 => ?_⟩
  have := (comM_spec ht hl2).2.2.1
  omega
 ·simp
end Go.Proofs.Ytjoebpmeeampfaa.Rf

namespace Go.Proofs.Ytjoebpmeeampfaa.Rf
set_option linter.unusedVariables false
set_option linter.unusedSimpArgs false
theorem allB_iff {p : Nat → Bool} {n : Nat} : allB p n = true ↔ ∀ i, i < n → p i = true := allB_true
theorem list4 {α : Type} {s : List α} (h : (s.length : Int) = 4) : ∃ a b c d, s = [a, b, c, d] := by
 match s, h with
 | [a, b, c, d], _ => exact ⟨a, b, c, d, rfl⟩
 | [], h => simp at h
 | [_], h => simp at h
 | [_, _], h => simp at h
 | [_, _, _], h => simp at h
 | _ :: _ :: _ :: _ :: _ :: _, h => simp at h; omega
theorem inR_iff {x lo hi : Int} : inR x lo hi = true ↔ lo ≤ x ∧ x ≤ hi := by simp [inR]
theorem applyM_ok {s : List Int} {c : TCmd} (hc : cmdOk c = true) (hs : sumsOk s = true) : sumsOk (applyM s c).1 = true ∧ toldOk (applyM s c).2 = true := by
 obtain ⟨hk, hm, hr⟩ := cmdOk_acc hc
 have hl := (sumsOk_spec hs).1
 obtain ⟨a, b, e, d, rfl⟩ := list4 hl
 simp only [sumsOk, isum, Bool.and_eq_true, List.all_cons, List.all_nil, inR_iff, beq_iff_eq, List.foldl_cons, List.foldl_nil] at hs
 unfold applyM
 rcases hk with h0 | h1 | h2
 ·rw [h0]
  simp only [show ((0 : Int) == 2) = false from rfl, show ((0 : Int) == 1) = false from rfl, Bool.false_eq_true, if_false]
  refine ⟨?_, by decide⟩
  simp only [sumsOk, isum, Bool.and_eq_true, List.all_cons, List.all_nil, inR_iff, beq_iff_eq, List.foldl_cons, List.foldl_nil]
  exact hs
 ·obtain ⟨⟨f1, f2⟩, ⟨t1, t2⟩, hne, a1, a2⟩ := hm h1
  rw [h1]
  simp only [show ((1 : Int) == 2) = false from rfl, show ((1 : Int) == 1) = true from rfl, Bool.false_eq_true, if_false, if_true]
  split
  ·refine ⟨?_, rfl⟩
   simp only [sumsOk, isum, Bool.and_eq_true, List.all_cons, List.all_nil, inR_iff, beq_iff_eq, List.foldl_cons, List.foldl_nil]
   exact hs
  ·rename_i hlt
   refine ⟨?_, rfl⟩
   simp only [decide_eq_true_eq] at hlt
   have hf : c.src = 0 ∨ c.src = 1 ∨ c.src = 2 ∨ c.src = 3 := by omega
   have ht : c.dst = 0 ∨ c.dst = 1 ∨ c.dst = 2 ∨ c.dst = 3 := by omega
   rcases hf with hf | hf | hf | hf <;> rcases ht with ht | ht | ht | ht <;> rw [hf, ht] at hne <;> first | (exact absurd rfl hne) | (
    rw [hf] at hlt
    rw [hf, ht]
    simp [atI, setI] at hlt
    simp [sumsOk, isum, inR_iff, atI, setI]
    omega)
 ·obtain ⟨f1, f2⟩ := hr h2
  rw [h2]
  simp only [show ((2 : Int) == 2) = true from rfl, if_true]
  refine ⟨?_, ?_⟩
  ·simp only [sumsOk, isum, Bool.and_eq_true, List.all_cons, List.all_nil, inR_iff, beq_iff_eq, List.foldl_cons, List.foldl_nil]
   exact hs
  ·have hf : c.src = 0 ∨ c.src = 1 ∨ c.src = 2 ∨ c.src = 3 := by omega
   rcases hf with hf | hf | hf | hf <;> rw [hf] <;> simp [toldOk, inR_iff, atI] <;> omega
theorem serveM_code (c : TClerk) (a : TAsk) : ((serveM c a).2.2 = 1 ∧ a.no = atI c.last a.client ∧ (serveM c a).1 = c ∧ (serveM c a).2.1 = atI c.told a.client) ∨ ((serveM c a).2.2 = 2 ∧ a.no < atI c.last a.client ∧ (serveM c a).1 = c) ∨
  ((serveM c a).2.2 = 3 ∧ atI c.last a.client + 1 < a.no ∧ (serveM c a).1 = c) ∨
  ((serveM c a).2.2 = 0 ∧ a.no = atI c.last a.client + 1 ∧ (serveM c a).1 = ⟨(applyM c.sums a.cmd).1, setI c.last a.client a.no, setI c.told a.client (applyM c.sums a.cmd).2⟩ ∧ (serveM c a).2.1 = (applyM c.sums a.cmd).2) := by
 unfold serveM
 split
 ·rename_i h
  exact .inl ⟨rfl, by simpa using h, rfl, rfl⟩
 ·rename_i h0
  simp only [beq_iff_eq] at h0
  split
  ·rename_i h
   exact .inr (.inl ⟨rfl, by simpa using h, rfl⟩)
  ·rename_i h1
   simp only [decide_eq_true_eq] at h1
   split
   ·rename_i h
    exact .inr (.inr (.inl ⟨rfl, by simpa using h, rfl⟩))
   ·rename_i h2
    simp only [decide_eq_true_eq] at h2
    exact .inr (.inr (.inr ⟨rfl, by omega, rfl, rfl⟩))
theorem clerkOk_at {c : TClerk} : clerkOk c = true ↔ sumsOk c.sums = true ∧ (c.last.length : Int) = 4 ∧ (c.told.length : Int) = 4 ∧ (∀ x ∈ c.last, 0 ≤ x ∧ x ≤ 999) ∧ ∀ i, i < c.told.length → toldOk (atI c.told (i : Int)) = true ∧ (atI c.last (i : Int) = 0 → (atI c.told (i : Int)).code = 0) := by
 simp only [clerkOk, Bool.and_eq_true, beq_iff_eq, List.all_eq_true, inR_iff, allB_iff]
 constructor
 ·rintro ⟨⟨⟨⟨h1, h2⟩, h3⟩, h4⟩, h5⟩
  refine ⟨h1, h2, h3, h4, fun i hi => ?_⟩
  have := h5 i hi
  simp only [clerkAt, Bool.and_eq_true, Bool.not_eq_true', Bool.and_eq_false_iff, beq_eq_false_iff_ne, Bool.not_eq_false', beq_iff_eq] at this
  exact ⟨this.1, fun h => this.2.resolve_left (fun hn => hn h)⟩
 ·rintro ⟨h1, h2, h3, h4, h5⟩
  refine ⟨⟨⟨⟨h1, h2⟩, h3⟩, h4⟩, fun i hi => ?_⟩
  obtain ⟨h6, h7⟩ := h5 i hi
  simp only [clerkAt, Bool.and_eq_true, Bool.not_eq_true', Bool.and_eq_false_iff, beq_eq_false_iff_ne, Bool.not_eq_false', beq_iff_eq]
  refine ⟨h6, ?_⟩
  by_cases h : atI c.last (i : Int) = 0
  ·exact .inr (h7 h)
  ·exact .inl h
theorem serveM_ok {c : TClerk} {a : TAsk} (ha : askOk a = true) (hc : clerkOk c = true) : clerkOk (serveM c a).1 = true := by
 rcases serveM_code c a with ⟨-, -, h, -⟩ | ⟨-, -, h⟩ | ⟨-, -, h⟩ | ⟨-, hno, h, -⟩
 ·rw [h]; exact hc
 ·rw [h]; exact hc
 ·rw [h]; exact hc
 ·rw [h]
  obtain ⟨h1, h2, h3, h4, h5⟩ := clerkOk_at.1 hc
  obtain ⟨⟨c1, c2⟩, ⟨n1, n2⟩, hcmd⟩ := askOk_spec ha
  obtain ⟨h6, h7⟩ := applyM_ok hcmd h1
  refine clerkOk_at.2 ⟨h6, by simp only [setI_len]; exact h2, by simp only [setI_len]; exact h3, fun x hx => ?_, fun i hi => ?_⟩
  ·rcases mem_setI hx with hx | rfl
   ·exact h4 x hx
   ·omega
  ·simp only [setI_len] at hi
   simp only
   by_cases hic : a.client = (i : Int)
   ·rw [hic]
    have hb1 : InB c.told (i : Int) := InB_nat.2 hi
    have hb2 : InB c.last (i : Int) := InB_nat.2 (by omega)
    have e1 : atI (setI c.told (i : Int) (applyM c.sums a.cmd).2) (i : Int) = (applyM c.sums a.cmd).2 := S_upd.1 hb1
    have e2 : atI (setI c.last (i : Int) a.no) (i : Int) = a.no := S_upd.1 hb2
    rw [e1, e2]
    exact ⟨h7, fun h => by omega⟩
   ·rw [atI_ne c1 (by omega) hic, atI_ne c1 (by omega) hic]
    exact h5 i hi
theorem clerk0_ok : clerkOk clerk0 = true := by decide
theorem playN_ok {l : List TAsk} (h : ∀ a ∈ l, askOk a = true) : ∀ n, n ≤ l.length → clerkOk (playN l n).c = true
 | 0, _ => clerk0_ok
 | n + 1, hn => serveM_ok (h _ (at_mem (xs := l) (i := n) (by omega))) (playN_ok h n (by omega))
theorem playN_app {o ys : List TAsk} : ∀ m, m ≤ o.length → playN (o ++ ys) m = playN o m
 | 0, _ => rfl
 | m + 1, hm => by
  have e : atI (o ++ ys) (m : Int) = atI o (m : Int) := atI_app (by omega) (by omega)
  have ih := playN_app (ys := ys) (o := o) m (by omega)
  simp only [playN, ih, e]
theorem playN_codes (l : List TAsk) : ∀ n i, i < n → atI (playN l n).codes (i : Int) = (serveM (playN l i).c (atI l (i : Int))).2.2 ∧ atI (playN l n).told (i : Int) = (serveM (playN l i).c (atI l (i : Int))).2.1
 | 0, i, h => by omega
 | n + 1, i, h => by
  obtain ⟨h1, h2⟩ := playN_len l n
  simp only [playN]
  rcases Nat.lt_or_ge i n with hi | hi
  ·rw [atI_app (by omega) (by omega), atI_app (by omega) (by omega)]
   exact playN_codes l n i hi
  ·obtain rfl : i = n := by omega
   constructor
   ·have := atI_get (xs := (playN l i).codes ++ [(serveM (playN l i).c (atI l (i : Int))).2.2]) (i := i) (by simp [h2])
    rw [this, List.getElem_append_right (by omega)]
    simp [h2]
   ·have := atI_get (xs := (playN l i).told ++ [(serveM (playN l i).c (atI l (i : Int))).2.1]) (i := i) (by simp [h1])
    rw [this, List.getElem_append_right (by omega)]
    simp [h1]
theorem atI_last {α : Type} [Inhabited α] {o : List α} {a : α} : atI (o ++ [a]) (o.length : Int) = a := by
 have := atI_get (xs := o ++ [a]) (i := o.length) (by simp)
 rw [this]
 simp
def allDone (o : List TAsk) : Prop := ∀ i : Nat, i < o.length → (serveM (playN o i).c (atI o (i : Int))).2.2 = 0
theorem once_play {l : List TAsk} {cs : List Int} (hcs : ∀ i : Nat, i < l.length → atI cs (i : Int) = (serveM (playN l i).c (atI l (i : Int))).2.2) : ∀ n, n ≤ l.length →
  (playN (onceN l cs n) (onceN l cs n).length).c = (playN l n).c ∧ allDone (onceN l cs n) ∧ ∀ a ∈ onceN l cs n, a ∈ l
 | 0, _ => ⟨rfl, fun i hi => by simp [onceN] at hi, fun a ha => by simp [onceN] at ha⟩
 | n + 1, hn => by
  obtain ⟨h1, h2, h3⟩ := once_play hcs n (by omega)
  have hc := hcs n (by omega)
  have hs := serveM_code (playN l n).c (atI l (n : Int))
  simp only [onceN]
  split
  ·rename_i h0
   simp only [beq_iff_eq] at h0
   rw [hc] at h0
   refine ⟨?_, ?_, ?_⟩
   ·rw [List.length_append, List.length_cons, List.length_nil]
    simp only [playN, playN_app _ (Nat.le_refl _), h1]
    have e : atI (onceN l cs n ++ [atI l (n : Int)]) ((onceN l cs n).length : Int) = atI l (n : Int) := atI_last
    rw [e]
   ·intro i hi
    rw [List.length_append, List.length_cons, List.length_nil] at hi
    rcases Nat.lt_or_ge i (onceN l cs n).length with hi2 | hi2
    ·rw [playN_app _ (by omega), atI_app (by omega) (by omega)]
     exact h2 i hi2
    ·obtain rfl : i = (onceN l cs n).length := by omega
     rw [playN_app _ (Nat.le_refl _), h1, atI_last]
     exact h0
   ·intro a ha
    rcases List.mem_append.1 ha with ha | ha
    ·exact h3 a ha
    ·simp only [List.mem_singleton] at ha
     rw [ha]
     exact at_mem (by omega)
  ·rename_i h0
   simp only [beq_iff_eq] at h0
   rw [hc] at h0
   refine ⟨?_, h2, h3⟩
   rw [h1]
   simp only [playN]
   rcases hs with ⟨-, -, h, -⟩ | ⟨-, -, h⟩ | ⟨-, -, h⟩ | ⟨h, -⟩
   ·exact h.symm
   ·exact h.symm
   ·exact h.symm
   ·exact absurd h h0
def playC (cs : List TCmd) : Nat → List Int × List TTold
 | 0 => ([100, 100, 100, 100], [])
 | n + 1 => ((applyM (playC cs n).1 (atI cs (n : Int))).1, (playC cs n).2 ++ [(applyM (playC cs n).1 (atI cs (n : Int))).2])
theorem playC_len (cs : List TCmd) : ∀ n, (playC cs n).2.length = n ∧ (playC cs n).1.length = 4
 | 0 => ⟨rfl, rfl⟩
 | n + 1 => by
  obtain ⟨h1, h2⟩ := playC_len cs n
  simp only [playC, List.length_append, List.length_cons, List.length_nil, applyM_len]
  omega
theorem atI_map {o : List TAsk} {i : Nat} (h : i < o.length) : atI (o.map (·.cmd)) (i : Int) = (atI o (i : Int)).cmd := by
 have e1 := atI_get (xs := o.map (·.cmd)) (i := i) (by simpa using h)
 rw [e1, atI_get h, List.getElem_map]
theorem playC_once {o : List TAsk} (h : allDone o) : ∀ n, n ≤ o.length → playC (o.map (·.cmd)) n = ((playN o n).c.sums, (playN o n).told)
 | 0, _ => rfl
 | n + 1, hn => by
  have ih := playC_once h n (by omega)
  have h0 := h n (by omega)
  rcases serveM_code (playN o n).c (atI o (n : Int)) with ⟨hc, -⟩ | ⟨hc, -⟩ | ⟨hc, -⟩ | ⟨-, -, h1, h2⟩
  ·omega
  ·omega
  ·omega
  ·simp only [playC, playN, ih, atI_map (show n < o.length by omega), h1, h2]
theorem playC_sums {cs : List TCmd} (h : ∀ c ∈ cs, cmdOk c = true) : ∀ n, n ≤ cs.length → ((playC cs n).1.length : Int) = 4 ∧ ∀ x ∈ (playC cs n).1, 0 ≤ x ∧ x ≤ 100 + 1000 * n
 | 0, _ => by
  refine ⟨rfl, ?_⟩
  simp only [playC]
  decide
 | n + 1, hn => by
  obtain ⟨h1, h2⟩ := playC_sums h n (by omega)
  have := applyM_rng (h _ (at_mem (xs := cs) (i := n) (by omega))) h1 h2
  refine ⟨by simp only [playC, applyM_len]; exact h1, fun x hx => ?_⟩
  have := this x hx
  omega
theorem serve_mono {c : TClerk} {b : TAsk} (hb : askOk b = true) (h2 : (c.last.length : Int) = 4) (h3 : (c.told.length : Int) = 4) {cl : Int} (hc : 0 ≤ cl ∧ cl ≤ 3) :
  atI c.last cl ≤ atI (serveM c b).1.last cl ∧ (atI (serveM c b).1.last cl = atI c.last cl → atI (serveM c b).1.told cl = atI c.told cl) := by
 obtain ⟨⟨c1, c2⟩, -, -⟩ := askOk_spec hb
 rcases serveM_code c b with ⟨-, -, h, -⟩ | ⟨-, -, h⟩ | ⟨-, -, h⟩ | ⟨-, hno, h, -⟩
 ·rw [h]; exact ⟨Int.le_refl _, fun _ => rfl⟩
 ·rw [h]; exact ⟨Int.le_refl _, fun _ => rfl⟩
 ·rw [h]; exact ⟨Int.le_refl _, fun _ => rfl⟩
 ·rw [h]
  simp only
  by_cases hcl : b.client = cl
  ·subst hcl
   have e : atI (setI c.last b.client b.no) b.client = b.no := S_upd.1 (by unfold InB; omega)
   rw [e]
   exact ⟨by omega, fun hh => by omega⟩
  ·rw [atI_ne c1 hc.1 hcl, atI_ne c1 hc.1 hcl]
   exact ⟨Int.le_refl _, fun _ => rfl⟩
theorem late {l : List TAsk} (h : ∀ a ∈ l, askOk a = true) {k : Nat} (hk : k < l.length) (h3 : (serveM (playN l k).c (atI l (k : Int))).2.2 ≠ 3) : ∀ n, k < n → n ≤ l.length →
  (atI l (k : Int)).no ≤ atI (playN l n).c.last (atI l (k : Int)).client ∧ (atI (playN l n).c.last (atI l (k : Int)).client = (atI l (k : Int)).no → atI (playN l n).c.told (atI l (k : Int)).client = (serveM (playN l k).c (atI l (k : Int))).2.1)
 | 0, hn, _ => by omega
 | n + 1, hn, hl => by
  obtain ⟨i1, i2, i3, -, -⟩ := playN_inv h n (by omega)
  obtain ⟨⟨c1, c2⟩, -, -⟩ := askOk_spec (h _ (at_mem hk))
  rcases Nat.lt_or_ge k n with hi | hi
  ·obtain ⟨h4, h5⟩ := late h hk h3 n hi (by omega)
   obtain ⟨h6, h7⟩ := serve_mono (c := (playN l n).c) (h _ (at_mem (xs := l) (i := n) (by omega))) i2 i3 (cl := (atI l (k : Int)).client) ⟨c1, c2⟩
   simp only [playN]
   refine ⟨by omega, fun he => ?_⟩
   rw [h7 (by omega)]
   exact h5 (by omega)
  ·obtain rfl : k = n := by omega
   simp only [playN]
   rcases serveM_code (playN l k).c (atI l (k : Int)) with ⟨-, hno, h', ht⟩ | ⟨-, hno, h'⟩ | ⟨hc, -⟩ | ⟨-, hno, h', ht⟩
   ·rw [h', ht]; exact ⟨by omega, fun _ => rfl⟩
   ·rw [h']; exact ⟨by omega, fun he => by omega⟩
   ·exact absurd hc h3
   ·rw [h', ht]
    simp only
    have e : atI (setI (playN l k).c.last (atI l (k : Int)).client (atI l (k : Int)).no) (atI l (k : Int)).client = (atI l (k : Int)).no := S_upd.1 (by unfold InB; omega)
    have e2 : atI (setI (playN l k).c.told (atI l (k : Int)).client (applyM (playN l k).c.sums (atI l (k : Int)).cmd).2) (atI l (k : Int)).client = (applyM (playN l k).c.sums (atI l (k : Int)).cmd).2 := S_upd.1 (by unfold InB; omega)
    rw [e, e2]
    exact ⟨by omega, fun _ => rfl⟩
theorem eqs_told (a b : TTold) : (Prim.eqs [0, 0]).run [i64 a.code, i64 a.sum, i64 b.code, i64 b.sum] = some [.bool (decide (a = b))] := by
 have e : decide (a = b) = (a.code == b.code && a.sum == b.sum) := by
  cases a; cases b
  simp [TTold.mk.injEq, Bool.beq_eq_decide_eq]
 rw [e]
 simp only [Prim.run, List.length_cons, List.length_nil, List.take, List.drop, eqsD, eqD, i64, if_true, Option.bind]
 cases a.code == b.code <;> cases h : a.sum == b.sum <;> simp_all
end Go.Proofs.Ytjoebpmeeampfaa.Rf
