/- Terms for the program's functions, and that they are right: part 8 of 8. -/
import Derived.Test.YtjoebpmeeampfaaRf7
set_option linter.unusedSimpArgs false
set_option linter.unusedVariables false
set_option linter.unnecessarySimpa false
set_option linter.unusedSectionVars false
namespace Go.Proofs.Ytjoebpmeeampfaa.Rf
set_option linter.unusedVariables false
set_option linter.unusedSimpArgs false
section
variable {T : Nat → Ent} {β : Type} {α : Type} [Inhabited α]
inductive Rd1 (σ : Type) where
 | go (s : σ)
 | out (r : Kind × List D)
def foldX {σ : Type} (f : Nat → α → σ → Rd1 σ) : Nat → List α → σ → Rd1 σ
 | _, [], s => .go s
 | i, x :: xs, s => match f i x s with
  | .go s' => foldX f (i + 1) xs s'
  | .out r => .out r
def rndK {σ : Type} (vs : Int → σ → List D) (i : Int) : Rd1 σ → Kind × List D
 | .go s => (.cont, vs (i + 1) s)
 | .out r => r
theorem loopX {σ : Type} {body : Tm β} {ρ : List D} {init : List Atom} (xs : List α) (vs : Int → σ → List D) (s0 : σ) (f : Nat → α → σ → Rd1 σ) (inv : Nat → σ → Prop) (fin : σ → Kind × List D)
  (h0 : init.map (·.val ρ) = vs 0 s0) (hi : inv 0 s0)
  (h1 : ∀ (i : Nat) s, i < xs.length → inv i s → Er T body (ρ ++ vs i s) = some (rndK vs i (f i (atI xs i) s)) ∧ (∀ s', f i (atI xs i) s = .go s' → inv (i + 1) s') ∧ ∀ r, f i (atI xs i) s = .out r → r.1 ≠ .cont)
  (h2 : ∀ s, inv xs.length s → Er T body (ρ ++ vs xs.length s) = some (fin s) ∧ (fin s).1 ≠ .cont) :
  ∃ r, Er T (.loop init body) ρ = some r ∧ ((∃ s, foldX f 0 xs s0 = .go s ∧ inv xs.length s ∧ r = fin s) ∨ foldX f 0 xs s0 = .out r) := by
 have key := loopR (T := T) (body := body) (ρ := ρ) (γ := Nat × σ) (fun c => xs.length - c.1) (fun c => c.1 ≤ xs.length ∧ inv c.1 c.2 ∧ foldX f c.1 (xs.drop c.1) c.2 = foldX f 0 xs s0) (fun c => vs (c.1 : Int) c.2)
  (fun r => (∃ s, foldX f 0 xs s0 = .go s ∧ inv xs.length s ∧ r = fin s) ∨ foldX f 0 xs s0 = .out r)
  (fun ⟨i, s⟩ ⟨hle, hv, hf⟩ => by
   simp only at hle hv hf ⊢
   rcases Nat.lt_or_ge i xs.length with hlt | hge
   ·obtain ⟨h3, h4, h5⟩ := h1 i s hlt hv
    have hd : xs.drop i = atI xs i :: xs.drop (i + 1) := by
     rw [List.drop_eq_getElem_cons hlt, atI_get hlt]
    rw [hd, foldX] at hf
    refine ⟨_, h3, ?_⟩
    cases e : f i (atI xs i) s with
    | go s' =>
     rw [e] at hf
     exact .inl ⟨rfl, (i + 1, s'), ⟨by simp only; omega, h4 s' e, hf⟩, by simp only; omega, rfl⟩
    | out r =>
     rw [e] at hf
     exact .inr ⟨h5 r e, .inr hf.symm⟩
   ·obtain rfl : i = xs.length := by omega
    obtain ⟨h3, h4⟩ := h2 s hv
    rw [List.drop_length, foldX] at hf
    exact ⟨_, h3, .inr ⟨h4, .inl ⟨s, hf.symm, hv, rfl⟩⟩⟩)
  xs.length (0, s0) (by simp) ⟨by simp, hi, by simp⟩ init h0
 exact key
theorem scanX {body : Tm β} {ρ : List D} (j : Nat) (n : Nat) (p : Nat → Bool) (r : List D)
  (h1 : ∀ i : Nat, i < n → p i = true → Er T body (ρ ++ [i64 i]) = some (.cont, [i64 ((i : Int) + 1)]))
  (h2 : ∀ i : Nat, i < n → p i = false → Er T body (ρ ++ [i64 i]) = some (.ret, r))
  (h3 : Er T body (ρ ++ [i64 n]) = some (.yield j, [])) :
  Er T (.loop [.c (i64 0)] body) ρ = forkT (allB p n) (some (.yield j, [])) (some (.ret, r)) := by
 have key := loopR (T := T) (body := body) (ρ := ρ) (fun i => n - i) (fun i => i ≤ n ∧ ∀ j, j < i → p j = true) (fun i => [i64 (i : Nat)])
  (fun q => (∀ j, j < n → p j = true) ∧ q = (.yield j, []) ∨ (∃ j, j < n ∧ p j = false) ∧ q = (.ret, r))
  (fun i ⟨hi, hall⟩ => by
   rcases Nat.lt_or_ge i n with hlt | hge
   ·cases e : p i with
    | true => exact ⟨_, h1 i hlt e, .inl ⟨rfl, i + 1, ⟨by omega, fun j hj => by
      rcases Nat.lt_or_ge j i with h | h
      ·exact hall j h
      ·obtain rfl : j = i := by omega
       exact e⟩, by omega, rfl⟩⟩
    | false => exact ⟨_, h2 i hlt e, .inr ⟨by simp, .inr ⟨⟨i, hlt, e⟩, rfl⟩⟩⟩
   ·obtain rfl : i = n := by omega
    exact ⟨_, h3, .inr ⟨by simp, .inl ⟨hall, rfl⟩⟩⟩)
  n 0 (by omega) ⟨by omega, fun j hj => by omega⟩ [.c (i64 0)] (by simp [Atom.val])
 obtain ⟨q, h4, h5⟩ := key
 rw [h4]
 rcases h5 with ⟨h6, rfl⟩ | ⟨h6, rfl⟩
 ·rw [allB_true.2 h6]; rfl
 ·rw [allB_false.2 h6]; rfl
theorem allB_all (xs : List α) (p : α → Bool) : allB (fun i => p (atI xs i)) xs.length = xs.all p := by
 cases e : xs.all p with
 | true =>
  rw [List.all_eq_true] at e
  rw [allB_true]
  intro i hi
  rw [atI_get hi]
  exact e _ (List.getElem_mem hi)
 | false =>
  rw [List.all_eq_false] at e
  obtain ⟨x, hx, hp⟩ := e
  obtain ⟨i, hi, rfl⟩ := List.getElem_of_mem hx
  exact allB_false.2 ⟨i, hi, by rw [atI_get hi]; simpa using hp⟩
theorem allB_eq [DecidableEq α] {xs ys : List α} (hl : xs.length = ys.length) : allB (fun i => decide (atI xs i = atI ys i)) xs.length = decide (xs = ys) := by
 by_cases e : xs = ys
 ·subst e
  rw [decide_eq_true rfl, allB_true]
  exact fun i _ => decide_eq_true rfl
 ·rw [decide_eq_false e]
  cases h : allB (fun i => decide (atI xs i = atI ys i)) xs.length with
  | false => rfl
  | true =>
   rw [allB_true] at h
   refine absurd (List.ext_getElem hl fun i h1 h2 => ?_) e
   have := of_decide_eq_true (h i h1)
   rwa [atI_get h1, atI_get h2] at this
theorem eq_len {xs ys : List α} [DecidableEq α] (h : ¬ xs.length = ys.length) : decide (xs = ys) = false := decide_eq_false fun e => h (by rw [e])
theorem allX {body : Tm β} {ρ : List D} (j : Nat) (xs : List α) (p : α → Bool) (r : List D)
  (h1 : ∀ i : Nat, i < xs.length → InB xs (i : Int) → decide ((i : Int) < xs.length) = true → p (atI xs i) = true → Er T body (ρ ++ [i64 i]) = some (.cont, [i64 ((i : Int) + 1)]))
  (h2 : ∀ i : Nat, i < xs.length → InB xs (i : Int) → decide ((i : Int) < xs.length) = true → p (atI xs i) = false → Er T body (ρ ++ [i64 i]) = some (.ret, r))
  (h3 : decide ((xs.length : Int) < xs.length) = false → Er T body (ρ ++ [i64 xs.length]) = some (.yield j, [])) :
  Er T (.loop [.c (i64 0)] body) ρ = forkT (xs.all p) (some (.yield j, [])) (some (.ret, r)) := by
 rw [scanX j xs.length (fun i => p (atI xs i)) r (fun i hi hp => h1 i hi (InB_nat.2 hi) (by simp; omega) hp) (fun i hi hp => h2 i hi (InB_nat.2 hi) (by simp; omega) hp) (h3 (by simp)), allB_all]
theorem allF {body : Tm β} {ρ : List D} (j : Nat) (xs : List α) (p : α → Bool) (r : List D)
  (h1 : ∀ i : Nat, i < xs.length → InB xs (i : Int) → decide ((i : Int) < xs.length) = true → atI xs (i : Int) ∈ xs → Er T body (ρ ++ [i64 i]) = forkT (p (atI xs i)) (some (.cont, [i64 ((i : Int) + 1)])) (some (.ret, r)))
  (h3 : decide ((xs.length : Int) < xs.length) = false → Er T body (ρ ++ [i64 xs.length]) = some (.yield j, [])) :
  Er T (.loop [.c (i64 0)] body) ρ = forkT (xs.all p) (some (.yield j, [])) (some (.ret, r)) :=
 allX j xs p r (fun i hi hb hl hp => by rw [h1 i hi hb hl (by rw [atI_get hi]; exact List.getElem_mem hi), hp]; rfl) (fun i hi hb hl hp => by rw [h1 i hi hb hl (by rw [atI_get hi]; exact List.getElem_mem hi), hp]; rfl) h3
def ixF (p : α → Bool) (xs : List α) : Int := match xs.findIdx? p with
 | some i => i
 | none => -1
omit [Inhabited α] in
theorem ixF_any (p : α → Bool) (xs : List α) : decide (0 ≤ ixF p xs) = xs.any p := by
 unfold ixF
 cases h : xs.findIdx? p with
 | none =>
  rw [List.findIdx?_eq_none_iff] at h
  have : xs.any p = false := by
   rw [List.any_eq_false]
   exact fun x hx => by simp [h x hx]
  rw [this]; rfl
 | some i =>
  have : xs.any p = true := by
   rw [List.findIdx?_eq_some_iff_getElem] at h
   obtain ⟨hi, hp, -⟩ := h
   rw [List.any_eq_true]
   exact ⟨_, List.getElem_mem hi, hp⟩
  rw [this]; simp
theorem findX {body : Tm β} {ρ : List D} (j : Nat) (xs : List α) (p : α → Bool) (rf : Int → List D)
  (h1 : ∀ i : Nat, i < xs.length → InB xs (i : Int) → decide ((i : Int) < xs.length) = true → p (atI xs i) = true → Er T body (ρ ++ [i64 i]) = some (.ret, rf i))
  (h2 : ∀ i : Nat, i < xs.length → InB xs (i : Int) → decide ((i : Int) < xs.length) = true → p (atI xs i) = false → Er T body (ρ ++ [i64 i]) = some (.cont, [i64 ((i : Int) + 1)]))
  (h3 : decide ((xs.length : Int) < xs.length) = false → Er T body (ρ ++ [i64 xs.length]) = some (.yield j, [])) :
  Er T (.loop [.c (i64 0)] body) ρ = forkT (xs.any p) (some (.ret, rf (ixF p xs))) (some (.yield j, [])) := by
 have hall : ∀ (i : Nat) (ys : List α), foldX (fun (i : Nat) x (_ : Unit) => if p x then Rd1.out (.ret, rf i) else .go ()) i ys () = match ys.findIdx? p with | some k => .out (.ret, rf ((i + k : Nat) : Int)) | none => .go () := by
  intro i ys
  induction ys generalizing i with
  | nil => rfl
  | cons y ys ih =>
   rw [foldX, List.findIdx?_cons]
   cases p y with
   | true => simp
   | false =>
    simp only [Bool.false_eq_true, if_false]
    rw [ih (i + 1)]
    cases ys.findIdx? p with
    | none => rfl
    | some k => simp only [Option.map_some]; congr 4; omega
 obtain ⟨q, h4, h5⟩ := loopX (T := T) (body := body) (ρ := ρ) (init := [.c (i64 0)]) xs (fun i (_ : Unit) => [i64 i]) () (fun i x _ => if p x then .out (.ret, rf i) else .go ()) (fun _ _ => True) (fun _ => (.yield j, [])) rfl trivial
  (fun i _ hi _ => by
   cases e : p (atI xs i) with
   | true => exact ⟨by rw [h1 i hi (InB_nat.2 hi) (by simp; omega) e]; rfl, fun _ _ => trivial, fun r h => by simp at h; rw [← h]; simp⟩
   | false => exact ⟨by rw [h2 i hi (InB_nat.2 hi) (by simp; omega) e]; rfl, fun _ _ => trivial, fun r h => by simp at h⟩)
  (fun _ _ => ⟨h3 (by simp), by simp⟩)
 rw [h4, ← ixF_any]
 rw [hall] at h5
 unfold ixF
 cases e : xs.findIdx? p with
 | none =>
  rw [e] at h5
  rcases h5 with ⟨s, -, -, rfl⟩ | h5
  ·rfl
  ·simp at h5
 | some k =>
  rw [e] at h5
  rcases h5 with ⟨s, h5, -⟩ | h5
  ·simp at h5
  ·simp only [Nat.zero_add, Rd1.out.injEq] at h5
   rw [← h5]
   simp [forkT]
theorem at_mem {xs : List α} {i : Nat} (h : i < xs.length) : atI xs (i : Int) ∈ xs := by rw [atI_get h]; exact List.getElem_mem h
omit [Inhabited α] in
theorem loopN {body : Tm β} {ρ : List D} {init : List Atom} (n : Nat) (vs : Nat → List D) (r : Kind × List D) (h0 : init.map (·.val ρ) = vs 0) (hr : r.1 ≠ .cont)
  (h1 : ∀ i : Nat, i < n → decide ((i : Int) < n) = true → Er T body (ρ ++ vs i) = some (.cont, vs (i + 1)))
  (h2 : decide ((n : Int) < n) = false → Er T body (ρ ++ vs n) = some r) : Er T (.loop init body) ρ = some r := by
 obtain ⟨q, h3, rfl⟩ := loopR (T := T) (body := body) (ρ := ρ) (fun i => n - i) (fun i => i ≤ n) vs (fun q => q = r)
  (fun i hi => by
   rcases Nat.lt_or_ge i n with hlt | hge
   ·exact ⟨_, h1 i hlt (by simp; omega), .inl ⟨rfl, i + 1, by omega, by omega, rfl⟩⟩
   ·obtain rfl : i = n := by omega
    exact ⟨_, h2 (by simp), .inr ⟨hr, rfl⟩⟩) n 0 (by omega) (by omega) init h0
 exact h3
end
theorem SQ : (∀ {a b : Int}, -9223372036854775808 ≤ a + b → a + b ≤ 9223372036854775807 → (Prim.bin .add).run [i64 a, i64 b] = some [i64 (a + b)]) ∧
  (∀ {a b : Int}, -9223372036854775808 ≤ a - b → a - b ≤ 9223372036854775807 → (Prim.bin .sub).run [i64 a, i64 b] = some [i64 (a - b)]) ∧
  (∀ {a b : Int}, 0 ≤ a → a ≤ 9223372036854775807 → 0 < b → (Prim.bin .quo).run [i64 a, i64 b] = some [i64 (a / b)]) ∧ (∀ {a b : Int}, 0 ≤ a → 0 < b → (Prim.bin .rem).run [i64 a, i64 b] = some [i64 (a % b)]) :=
 ⟨run_add, run_sub, run_quoI, run_remI⟩
end Go.Proofs.Ytjoebpmeeampfaa.Rf

namespace Go.Proofs.Ytjoebpmeeampfaa.Rf
set_option linter.unusedVariables false
set_option linter.unusedSimpArgs false
theorem S_upd : (∀ {α : Type} [Inhabited α] {xs : List α} {k : Int} {a : α}, InB xs k → atI (setI xs k a) k = a) ∧ (∀ {α : Type} {xs : List α} {k : Int} {a b : α}, setI (setI xs k a) k b = setI xs k b) ∧
  (∀ {α : Type} {xs : List α} {j k : Int} {a : α}, InB (setI xs j a) k = InB xs k) ∧ (∀ {α : Type} {xs : List α} {j : Int} {a : α}, (setI xs j a).length = xs.length) := by
 refine ⟨?_, ?_, ?_, ?_⟩
 ·intro α _ xs k a h
  have := h.lt
  rw [setI, atI, List.getD_eq_getElem?_getD, List.getElem?_set_self this]; rfl
 ·intro α xs k a b
  rw [setI, setI, setI, List.set_set]
 ·intro α xs j k a
  unfold InB setI
  rw [List.length_set]
 ·intro α xs j a
  exact List.length_set ..
def szL {α : Type} (f : α → Nat) (xs : List α) : Nat := xs.length + (xs.map f).sum
def szR (l : Int) (n : Nat) : Int := if (n : Int) ≤ l then l - n else -1
theorem szL_cons {α : Type} {f : α → Nat} {x : α} {xs : List α} : szL f (x :: xs) = 1 + f x + szL f xs := by simp [szL]; omega
theorem szL_zero {α : Type} {xs : List α} : szL (fun _ => 0) xs = xs.length := by
 have : ∀ xs : List α, (xs.map fun _ => 0).sum = 0 := fun xs => by
  induction xs with
  | nil => rfl
  | cons x xs ih => simp only [List.map_cons, List.sum_cons, ih]
 rw [szL, this]; rfl
theorem szL_len {α : Type} {f : α → Nat} {xs : List α} : xs.length ≤ szL f xs := by unfold szL; omega
section
variable {T : Nat → Ent} {β : Type} {α : Type} [Inhabited α]
theorem toLoop {body : Tm β} {ρ : List D} {a : Atom} [Enc α] (xs : List α) (h0 : a.val ρ = rL (List.replicate xs.length (default : α)))
  (h1 : ∀ (i : Nat) (ys : List α), i < xs.length → InB xs (i : Int) → InB ys (i : Int) → decide ((i : Int) < xs.length) = true → Er T body (ρ ++ [rL ys, i64 i]) = some (.cont, [rL (setI ys i (atI xs i)), i64 ((i : Int) + 1)]))
  (h2 : ∀ ys : List α, decide ((xs.length : Int) < xs.length) = false → Er T body (ρ ++ [rL ys, i64 xs.length]) = some (.yield 1, [rL ys])) :
  Er T (.loop [a, .c (i64 0)] body) ρ = some (.yield 1, [rL xs]) := by
 have key := loopR (T := T) (body := body) (ρ := ρ) (fun i => xs.length - i) (fun i => i ≤ xs.length) (fun i => [rL (upto default xs i), i64 (i : Nat)]) (fun q => q = (.yield 1, [rL xs]))
  (fun i hi => by
   rcases Nat.lt_or_ge i xs.length with hlt | hge
   ·refine ⟨_, h1 i (upto default xs i) hlt (InB_nat.2 hlt) (InB_nat.2 (by rw [upto_len _ _ hi]; exact hlt)) (by simp; omega), .inl ⟨rfl, i + 1, by omega, by omega, ?_⟩⟩
    have : setI (upto default xs i) (i : Int) (atI xs i) = upto default xs (i + 1) := by
     rw [setI]
     exact upto_set default xs (by rw [atI_get hlt]; exact List.getElem?_eq_getElem hlt)
    rw [this]; simp
   ·obtain rfl : i = xs.length := by omega
    refine ⟨_, h2 _ (by simp), .inr ⟨by simp, ?_⟩⟩
    rw [upto_all])
  xs.length 0 (by omega) (by omega) [a, .c (i64 0)] (by show [a.val ρ, _] = _; rw [h0, upto_zero]; rfl)
 obtain ⟨q, h4, rfl⟩ := key
 exact h4
def mkL {α : Type} (c : α → Nat) (f : α → Int → α) : List α → Int → List α
 | [], _ => []
 | x :: xs, k => f x k :: mkL c f xs (k + c x)
def ctL {α : Type} (c : α → Nat) (xs : List α) : Nat := (xs.map c).sum
theorem mkL_len {α : Type} {c : α → Nat} {f : α → Int → α} : ∀ {xs : List α} {k : Int}, (mkL c f xs k).length = xs.length
 | [], _ => rfl
 | x :: xs, k => by simp [mkL, mkL_len]
theorem mkL_at {c : α → Nat} {f : α → Int → α} : ∀ {xs : List α} {k : Int} {i : Nat}, i < xs.length → atI (mkL c f xs k) (i : Int) = f (atI xs i) (k + ctL c (xs.take i))
 | x :: xs, k, 0, h => by simp [mkL, atI, ctL]
 | x :: xs, k, i + 1, h => by
  have ih := mkL_at (c := c) (f := f) (xs := xs) (k := k + c x) (i := i) (by simpa using h)
  rw [mkL, atI_nat, atI_nat, List.getD_cons_succ, List.getD_cons_succ, ← atI_nat, ih, ← atI_nat]
  congr 1
  simp only [ctL, List.take_succ_cons, List.map_cons, List.sum_cons]
  omega
theorem ctL_take {c : α → Nat} {xs : List α} {i : Nat} (h : i < xs.length) : ctL c (xs.take (i + 1)) = ctL c (xs.take i) + c (atI xs i) := by
 rw [List.take_succ_eq_append_getElem h, atI_get h]
 unfold ctL
 rw [List.map_append, List.sum_append]
 simp
omit [Inhabited α] in
theorem ctL_take_le {c : α → Nat} : ∀ {xs : List α} {i : Nat}, ctL c (xs.take i) ≤ ctL c xs
 | [], i => by simp
 | x :: xs, 0 => by simp [ctL]
 | x :: xs, i + 1 => by
  have := ctL_take_le (c := c) (xs := xs) (i := i)
  simp only [ctL, List.take_succ_cons, List.map_cons, List.sum_cons] at this ⊢
  omega
theorem ctL_get_le {c : α → Nat} {xs : List α} {i : Nat} (h : i < xs.length) : ctL c (xs.take i) + c (atI xs i) ≤ ctL c xs := by
 rw [← ctL_take h]; exact ctL_take_le
def upM (c : α → Nat) (f : α → Int → α) (xs : List α) (k : Int) (i : Nat) : List α := (mkL c f xs k).take i ++ xs.drop i
omit [Inhabited α] in
theorem upM_len {c : α → Nat} {f : α → Int → α} {xs : List α} {k : Int} {i : Nat} (h : i ≤ xs.length) : (upM c f xs k i).length = xs.length := by
 simp [upM, mkL_len]; omega
theorem upM_at {c : α → Nat} {f : α → Int → α} {xs : List α} {k : Int} {i : Nat} (h : i < xs.length) : atI (upM c f xs k i) (i : Int) = atI xs i := by
 rw [atI_get (by rw [upM_len (by omega)]; exact h), atI_get h]
 unfold upM
 rw [List.getElem_append_right (by simp [mkL_len]; omega)]
 simp [mkL_len, Nat.min_eq_left (Nat.le_of_lt h)]
theorem upM_set {c : α → Nat} {f : α → Int → α} {xs : List α} {k : Int} {i : Nat} (h : i < xs.length) : setI (upM c f xs k i) (i : Int) (f (atI xs i) (k + ctL c (xs.take i))) = upM c f xs k (i + 1) := by
 have hm : i < (mkL c f xs k).length := by rw [mkL_len]; exact h
 unfold upM setI
 rw [Int.toNat_natCast, List.set_append_right _ _ (by simp [mkL_len]; omega), List.take_succ_eq_append_getElem hm, List.append_assoc]
 congr 1
 have e : i - ((mkL c f xs k).take i).length = 0 := by simp [mkL_len]; omega
 rw [e, List.drop_eq_getElem_cons h, List.set_cons_zero]
 have := mkL_at (c := c) (f := f) (k := k) h
 rw [atI_get hm] at this
 rw [this]; rfl
theorem markLoop {body : Tm β} {ρ : List D} {a b d : Atom} [Enc α] (xs : List α) (c : α → Nat) (f : α → Int → α) (k : Int) (h0 : a.val ρ = rL xs) (h0' : b.val ρ = i64 k) (hd : d.val ρ = .undef) (hk : 0 ≤ k) (hb : k + ctL c xs ≤ 1152921504606846976)
  (h1 : ∀ (i : Nat) (ys : List α) (m : Int), i < xs.length → ys.length = xs.length → InB ys (i : Int) → decide ((i : Int) < xs.length) = true → atI ys i = atI xs i → 0 ≤ m → m + c (atI xs i) ≤ 1152921504606846976 → xs.length ≤ 1152921504606846976 → Er T body (ρ ++ [rL ys, .undef, i64 m, i64 i]) = some (.cont, [rL (setI ys i (f (atI xs i) m)), .undef, i64 (m + c (atI xs i)), i64 ((i : Int) + 1)]))
  (h2 : ∀ (ys : List α) (m : Int), ys.length = xs.length → decide ((xs.length : Int) < xs.length) = false → Er T body (ρ ++ [rL ys, .undef, i64 m, i64 xs.length]) = some (.yield 1, [rL ys, i64 m])) (hlen : xs.length ≤ 1152921504606846976) :
  Er T (.loop [a, d, b, .c (i64 0)] body) ρ = some (.yield 1, [rL (mkL c f xs k), i64 (k + ctL c xs)]) := by
 have key := loopR (T := T) (body := body) (ρ := ρ) (fun i => xs.length - i) (fun i => i ≤ xs.length) (fun i => [rL (upM c f xs k i), .undef, i64 (k + ctL c (xs.take i)), i64 (i : Nat)]) (fun q => q = (.yield 1, [rL (mkL c f xs k), i64 (k + ctL c xs)]))
  (fun i hi => by
   rcases Nat.lt_or_ge i xs.length with hlt | hge
   ·have h3 := ctL_get_le (c := c) hlt
    refine ⟨_, h1 i (upM c f xs k i) (k + ctL c (xs.take i)) hlt (upM_len hi) (InB_nat.2 (by rw [upM_len hi]; exact hlt)) (by simp; omega) (upM_at hlt) (by omega) (by omega) hlen, .inl ⟨rfl, i + 1, by omega, by omega, ?_⟩⟩
    rw [upM_set hlt, ctL_take hlt]
    simp only [Int.natCast_add, Int.add_assoc]; rfl
   ·obtain rfl : i = xs.length := by omega
    refine ⟨_, h2 _ _ (upM_len hi) (by simp), .inr ⟨by simp, ?_⟩⟩
    have e : upM c f xs k xs.length = mkL c f xs k := by
     unfold upM
     rw [List.drop_length, List.append_nil, List.take_of_length_le (by rw [mkL_len]; omega)]
    rw [e, List.take_length])
  xs.length 0 (by omega) (by omega) [a, d, b, .c (i64 0)] (by show [a.val ρ, d.val ρ, b.val ρ, _] = _; rw [h0, h0', hd]; simp [upM, ctL, Atom.val])
 obtain ⟨q, h4, rfl⟩ := key
 exact h4
theorem heldLoop {body : Tm β} {ρ : List D} {b : Atom} (xs : List α) (c : α → Nat) (f : α → Int → α) (k : Int) (h0' : b.val ρ = i64 k) (hk : 0 ≤ k) (hb : k + ctL c xs ≤ 1152921504606846976) (hlen : xs.length ≤ 1152921504606846976)
  (h1 : ∀ (i : Nat) (m : Int), i < xs.length → InB (mkL c f xs k) (i : Int) → (mkL c f xs k).length = xs.length → decide ((i : Int) < xs.length) = true → atI (mkL c f xs k) i = f (atI xs i) m → 0 ≤ m → m + c (atI xs i) ≤ 1152921504606846976 → xs.length ≤ 1152921504606846976 → Er T body (ρ ++ [i64 m, i64 i]) = some (.cont, [i64 (m + c (atI xs i)), i64 ((i : Int) + 1)]))
  (h2 : ∀ m : Int, (mkL c f xs k).length = xs.length → decide ((xs.length : Int) < xs.length) = false → Er T body (ρ ++ [i64 m, i64 xs.length]) = some (.yield 1, [i64 m])) :
  Er T (.loop [b, .c (i64 0)] body) ρ = some (.yield 1, [i64 (k + ctL c xs)]) := by
 have key := loopR (T := T) (body := body) (ρ := ρ) (fun i => xs.length - i) (fun i => i ≤ xs.length) (fun i => [i64 (k + ctL c (xs.take i)), i64 (i : Nat)]) (fun q => q = (.yield 1, [i64 (k + ctL c xs)]))
  (fun i hi => by
   rcases Nat.lt_or_ge i xs.length with hlt | hge
   ·have h3 := ctL_get_le (c := c) hlt
    refine ⟨_, h1 i (k + ctL c (xs.take i)) hlt (InB_nat.2 (by rw [mkL_len]; exact hlt)) mkL_len (by simp; omega) (mkL_at hlt) (by omega) (by omega) hlen, .inl ⟨rfl, i + 1, by omega, by omega, ?_⟩⟩
    rw [ctL_take hlt]
    simp only [Int.natCast_add, Int.add_assoc]; rfl
   ·obtain rfl : i = xs.length := by omega
    refine ⟨_, h2 _ mkL_len (by simp), .inr ⟨by simp, ?_⟩⟩
    rw [List.take_length])
  xs.length 0 (by omega) (by omega) [b, .c (i64 0)] (by show [b.val ρ, _] = _; rw [h0']; simp [ctL, Atom.val])
 obtain ⟨q, h4, rfl⟩ := key
 exact h4
end
theorem ctL_le {α : Type} {c f : α → Nat} {m : Nat} (hm : 1 ≤ m) (h : ∀ x, c x ≤ m + m * f x) : ∀ xs : List α, ctL c xs ≤ m * szL f xs
 | [] => by simp [ctL]
 | x :: xs => by
  have ih := ctL_le hm h xs
  have h1 := h x
  rw [szL_cons]
  simp only [ctL, List.map_cons, List.sum_cons] at ih ⊢
  rw [Nat.mul_add, Nat.mul_add]
  omega
theorem ctL_one {xs : List Int} : ctL (fun _ => 1) xs = xs.length := by
 have : ∀ xs : List Int, (xs.map fun _ => 1).sum = xs.length := fun xs => by
  induction xs with
  | nil => rfl
  | cons x xs ih => simp only [List.map_cons, List.sum_cons, ih, List.length_cons]; omega
 exact this xs
theorem lt0 {k : Int} (h : 0 ≤ k) : decide (k < 0) = false := by simp; omega
theorem ltm1 : decide ((-1 : Int) < 0) = true := rfl
theorem WT_rL {α : Type} [Enc α] {tys : List Ty} {bytes : Nat} {P : α → Prop} {d : D} (hs : tys.length = Enc.sz α) (hd : ∀ ds, WTs tys ds → ∃ a : α, ds = Enc.enc a ∧ P a) (h : WT (.sl bytes tys) d) : ∃ xs : List α, d = rL xs ∧ xs.length * bytes ≤ reachBytes ∧ ∀ x ∈ xs, P x := by
 simp only [WT] at h
 obtain ⟨rs, rfl, h1, h2⟩ := h
 have key : ∀ rs : List (List D), (∀ r ∈ rs, WTs tys r) → ∃ xs : List α, rs = xs.map Enc.enc ∧ ∀ x ∈ xs, P x := by
  intro rs
  induction rs with
  | nil => exact fun _ => ⟨[], rfl, by simp⟩
  | cons r rs ih =>
   intro h
   obtain ⟨xs, hx, hp⟩ := ih fun r hr => h r (List.mem_cons_of_mem _ hr)
   obtain ⟨a, ha, hpa⟩ := hd r (h r List.mem_cons_self)
   exact ⟨a :: xs, by rw [hx, ha]; rfl, by simpa using ⟨hpa, hp⟩⟩
 obtain ⟨xs, rfl, hp⟩ := key rs h2
 exact ⟨xs, by rw [hs]; rfl, by simpa using h1, hp⟩
theorem WT_int {d : D} (h : WT (.int .i64) d) : ∃ n : Int, d = i64 n ∧ -9223372036854775808 ≤ n ∧ n ≤ 9223372036854775807 := by
 obtain ⟨n, rfl, h1, h2⟩ := h
 exact ⟨n, rfl, h1, h2⟩
theorem reach_len {n b : Nat} (h : n * b ≤ reachBytes) (hb : 0 < b) : n ≤ reachBytes := Nat.le_trans (Nat.le_mul_of_pos_right n hb) h
end Go.Proofs.Ytjoebpmeeampfaa.Rf

namespace Go.Proofs.Ytjoebpmeeampfaa.Rf
set_option linter.unusedVariables false
set_option linter.unusedSimpArgs false
def ct_TCmd (x : TCmd) : Nat := 1 + 1 + 1 + 1 + 1
theorem ctu_TCmd (x : TCmd) : ct_TCmd x = 5 := by
 unfold ct_TCmd
 try omega
def ct_TTold (x : TTold) : Nat := 1 + 1
def mk_TTold (x : TTold) (k : Int) : TTold := ⟨(k), (k + 1)⟩
theorem ctu_TTold (x : TTold) : ct_TTold x = 2 := by
 unfold ct_TTold
 try omega
theorem ctb_TTold (x : TTold) : ct_TTold x ≤ 16 + 16 * (fun _ : TTold => 0) x := by
 rw [ctu_TTold]
 simp
def sz_TClerk (x : TClerk) : Nat := szL (fun _ => 0) x.sums + szL (fun _ => 0) x.last + szL (fun _ => 0) x.told
theorem szu_TClerk (x : TClerk) : sz_TClerk x = x.sums.length + x.last.length + x.told.length := by
 unfold sz_TClerk
 simp only [szL_zero]
 try omega
def ct_TAsk (x : TAsk) : Nat := 1 + 1 + ct_TCmd x.cmd
def mk_TAsk (x : TAsk) (k : Int) : TAsk := ⟨(k), (k + 1), ⟨(k + 1 + 1), (k + 1 + 1 + 1), (k + 1 + 1 + 1 + 1), (k + 1 + 1 + 1 + 1 + 1), (k + 1 + 1 + 1 + 1 + 1 + 1)⟩⟩
theorem ctu_TAsk (x : TAsk) : ct_TAsk x = 7 := by
 unfold ct_TAsk
 simp only [ctu_TCmd]
 try omega
theorem ctb_TAsk (x : TAsk) : ct_TAsk x ≤ 16 + 16 * (fun _ : TAsk => 0) x := by
 rw [ctu_TAsk]
 simp
theorem dec_TAsk (ds : List D) (h : WTs [.int .i64, .int .i64, .int .i64, .int .i64, .int .i64, .int .i64, .int .i64] ds) : ∃ x : TAsk, ds = Enc.enc x ∧ True := by
 simp only [WTs] at h
 obtain ⟨d0, r0, rfl, w0, d1, r1, rfl, w1, d2, r2, rfl, w2, d3, r3, rfl, w3, d4, r4, rfl, w4, d5, r5, rfl, w5, d6, r6, rfl, w6, rfl⟩ := h
 obtain ⟨x0, rfl, -, -⟩ := WT_int w0
 obtain ⟨x1, rfl, -, -⟩ := WT_int w1
 obtain ⟨x2, rfl, -, -⟩ := WT_int w2
 obtain ⟨x3, rfl, -, -⟩ := WT_int w3
 obtain ⟨x4, rfl, -, -⟩ := WT_int w4
 obtain ⟨x5, rfl, -, -⟩ := WT_int w5
 obtain ⟨x6, rfl, -, -⟩ := WT_int w6
 exact ⟨⟨x0, x1, ⟨x2, x3, x4, x5, x6⟩⟩, rfl, trivial⟩
end Go.Proofs.Ytjoebpmeeampfaa.Rf

namespace Go.Proofs.Ytjoebpmeeampfaa.Rf
set_option linter.unusedVariables false
set_option linter.unusedSimpArgs false
theorem SZ : (∀ b : Bool, (b && true) = b) ∧ (∀ b : Bool, (true && b) = b) ∧ (∀ b : Bool, (b && false) = false) ∧ (∀ b : Bool, (false && b) = false) ∧
  (∀ b : Bool, (b || true) = true) ∧ (∀ b : Bool, (true || b) = true) ∧ (∀ b : Bool, (b || false) = b) ∧ (∀ b : Bool, (false || b) = b) ∧ ((!true) = false) ∧ ((!false) = true) :=
 ⟨Bool.and_true, Bool.true_and, Bool.and_false, Bool.false_and, Bool.or_true, Bool.true_or, Bool.or_false, Bool.false_or, rfl, rfl⟩
theorem fork_in {γ : Type} {a r : γ} (h : forkT true a r = r) : a = r := h
theorem S0 : type_of% (And.intro @SA (And.intro @SB (And.intro @SC (And.intro @SP (And.intro @SQ (And.intro @SZ (And.intro @beq_self_eq_true.{0} (And.intro @decide_true (And.intro @decide_false (And.intro @cast1 @S_eta)))))))))) := And.intro @SA (And.intro @SB (And.intro @SC (And.intro @SP (And.intro @SQ (And.intro @SZ (And.intro @beq_self_eq_true.{0} (And.intro @decide_true (And.intro @decide_false (And.intro @cast1 @S_eta)))))))))
theorem bool_fin {x y : Bool} (h : x = true ↔ y = true) : some [D.bool x] = some [D.bool y] := by rw [Bool.eq_iff_iff.2 h]
def cmdOk (c : TCmd) : Bool :=
 if c.kind == 0 then decide (c = ⟨0, 0, 0, 0, 0⟩) else if c.kind == 1 then inR c.id 1 999 && inR c.src 0 3 && inR c.dst 0 3 && !(c.src == c.dst) && inR c.amt 1 1000
 else c.kind == 2 && inR c.id 1 999 && inR c.src 0 3 && c.dst == 0 && c.amt == 0
def cmdCode (c : TCmd) : Int :=
 if !inR c.src 0 3 || (c.kind == 1 && !inR c.dst 0 3) then 4 else if c.kind == 1 && c.src == c.dst then 5 else if !inR c.id 1 999 || (c.kind == 1 && !inR c.amt 1 1000) then 6 else 0
def none0 (n : Int) : TAttr := ⟨0, List.replicate n.toNat 0⟩
theorem cmdCode0 {c : TCmd} : (cmdCode c == 0) = (inR c.src 0 3 && inR c.id 1 999 && (!(c.kind == 1) || (inR c.dst 0 3 && !(c.src == c.dst) && inR c.amt 1 1000))) := by
 unfold cmdCode
 cases inR c.src 0 3 <;> cases inR c.id 1 999 <;> cases c.kind == 1 <;> cases inR c.dst 0 3 <;> cases c.src == c.dst <;> cases inR c.amt 1 1000 <;> rfl
def row0 (n : Int) : TRow := ⟨0, 0, 0, ⟨0, 0, 0, 0, 0⟩, none0 n⟩
theorem S_nil : (rL ([] : List Int) = .rows 1 []) ∧ (rL ([] : List (List Int)) = .rows 1 []) ∧ (rL ([] : List TRow) = .rows 10 []) ∧ (rL ([] : List (List TRow)) = .rows 1 []) ∧ (rL ([] : List TLead) = .rows 16 []) ∧ (rL ([] : List TMsg) = .rows 15 []) ∧
  (rL ([] : List TAsk) = .rows 7 []) ∧ (rL ([] : List TTold) = .rows 2 []) := ⟨rfl, rfl, rfl, rfl, rfl, rfl, rfl, rfl⟩
theorem at_memI {α : Type} [Inhabited α] {xs : List α} {k : Int} (h : InB xs k) : atI xs k ∈ xs := by
 have h2 := h.lt
 have e : ((k.toNat : Nat) : Int) = k := by unfold InB at h; omega
 rw [← e]
 exact at_mem h2
def ext (n : Int) (l : List TRow) (no : Int) : List TRow := l ++ List.replicate (no - l.length).toNat (row0 n)
def nb (b me : Int) : Int := if b < 8 + me then 8 + me else b + 1 + (me - b - 1) % 8
theorem inR_rng {x lo hi : Int} (h : inR x lo hi = true) : lo ≤ x ∧ x ≤ hi := by
 simpa [inR] using h
end Go.Proofs.Ytjoebpmeeampfaa.Rf

namespace Go.Proofs.Ytjoebpmeeampfaa.Rf
set_option linter.unusedVariables false
set_option linter.unusedSimpArgs false
def askOk (a : TAsk) : Bool := inR a.client 0 3 && inR a.no 1 999 && cmdOk a.cmd
def applyM (s : List Int) (c : TCmd) : List Int × TTold :=
 if c.kind == 2 then (s, ⟨3, atI s c.src⟩) else if c.kind == 1 then
  (if decide (atI s c.src < c.amt) then (s, ⟨2, 0⟩) else (setI (setI s c.src (atI s c.src - c.amt)) c.dst (atI (setI s c.src (atI s c.src - c.amt)) c.dst + c.amt), ⟨1, 0⟩))
 else (s, ⟨0, 0⟩)
def serveM (c : TClerk) (a : TAsk) : TClerk × TTold × Int :=
 if a.no == atI c.last a.client then (c, atI c.told a.client, 1) else if decide (a.no < atI c.last a.client) then (c, ⟨0, 0⟩, 2) else if decide (atI c.last a.client + 1 < a.no) then (c, ⟨0, 0⟩, 3)
 else (⟨(applyM c.sums a.cmd).1, setI c.last a.client a.no, setI c.told a.client (applyM c.sums a.cmd).2⟩, (applyM c.sums a.cmd).2, 0)
theorem setI_len {α : Type} {xs : List α} {k : Int} {a : α} : (setI xs k a).length = xs.length := List.length_set ..
theorem atI_ne {α : Type} [Inhabited α] {xs : List α} {j k : Int} {a : α} (hj : 0 ≤ j) (hk : 0 ≤ k) (h : j ≠ k) : atI (setI xs j a) k = atI xs k := by
 unfold atI setI
 rw [List.getD_eq_getElem?_getD, List.getD_eq_getElem?_getD, List.getElem?_set_ne (by omega)]
theorem applyM_len (s : List Int) (c : TCmd) : (applyM s c).1.length = s.length := by
 unfold applyM
 split
 ·rfl
 ·split
  ·split
   ·rfl
   ·simp only [setI_len]
  ·rfl
theorem serveM_len (c : TClerk) (a : TAsk) : (serveM c a).1.sums.length = c.sums.length ∧ (serveM c a).1.last.length = c.last.length ∧ (serveM c a).1.told.length = c.told.length := by
 unfold serveM
 split
 ·exact ⟨rfl, rfl, rfl⟩
 ·split
  ·exact ⟨rfl, rfl, rfl⟩
  ·split
   ·exact ⟨rfl, rfl, rfl⟩
   ·exact ⟨applyM_len _ _, setI_len, setI_len⟩
theorem askOk_spec {a : TAsk} (h : askOk a = true) : (0 ≤ a.client ∧ a.client ≤ 3) ∧ (1 ≤ a.no ∧ a.no ≤ 999) ∧ cmdOk a.cmd = true := by
 simp only [askOk, Bool.and_eq_true] at h
 exact ⟨inR_rng h.1.1, inR_rng h.1.2, h.2⟩
theorem cmdOk_acc {c : TCmd} (h : cmdOk c = true) : (c.kind = 0 ∨ c.kind = 1 ∨ c.kind = 2) ∧ (c.kind = 1 → (0 ≤ c.src ∧ c.src ≤ 3) ∧ (0 ≤ c.dst ∧ c.dst ≤ 3) ∧ c.src ≠ c.dst ∧ 1 ≤ c.amt ∧ c.amt ≤ 1000) ∧ (c.kind = 2 → 0 ≤ c.src ∧ c.src ≤ 3) := by
 unfold cmdOk at h
 split at h
 ·rename_i h0
  have : c.kind = 0 := by simpa using h0
  exact ⟨.inl this, by omega, by omega⟩
 ·split at h
  ·rename_i h1
   have : c.kind = 1 := by simpa using h1
   simp only [Bool.and_eq_true, inR, decide_eq_true_eq, Bool.not_eq_true', beq_eq_false_iff_ne] at h
   exact ⟨by omega, fun _ => ⟨h.1.1.1.2, h.1.1.2, h.1.2, h.2⟩, by omega⟩
  ·simp only [Bool.and_eq_true, inR, decide_eq_true_eq, beq_iff_eq] at h
   exact ⟨by omega, by omega, fun _ => h.1.1.2⟩
end Go.Proofs.Ytjoebpmeeampfaa.Rf

namespace Go.Proofs.Ytjoebpmeeampfaa.Rf
set_option linter.unusedVariables false
set_option linter.unusedSimpArgs false
end Go.Proofs.Ytjoebpmeeampfaa.Rf

namespace Go.Proofs.Ytjoebpmeeampfaa.Rf
set_option linter.unusedVariables false
set_option linter.unusedSimpArgs false
end Go.Proofs.Ytjoebpmeeampfaa.Rf

namespace Go.Proofs.Ytjoebpmeeampfaa.Rf
set_option linter.unusedVariables false
set_option linter.unusedSimpArgs false
end Go.Proofs.Ytjoebpmeeampfaa.Rf

namespace Go.Proofs.Ytjoebpmeeampfaa.Rf
set_option linter.unusedVariables false
set_option linter.unusedSimpArgs false
section
variable {T : Nat → Ent} {β : Type}
end
end Go.Proofs.Ytjoebpmeeampfaa.Rf

namespace Go.Proofs.Ytjoebpmeeampfaa.Rf
set_option linter.unusedVariables false
set_option linter.unusedSimpArgs false
end Go.Proofs.Ytjoebpmeeampfaa.Rf

namespace Go.Proofs.Ytjoebpmeeampfaa.Rf
set_option linter.unusedVariables false
set_option linter.unusedSimpArgs false
def clerk0 : TClerk := ⟨[100, 100, 100, 100], [0, 0, 0, 0], [⟨0, 0⟩, ⟨0, 0⟩, ⟨0, 0⟩, ⟨0, 0⟩]⟩
structure PlayS where
 c : TClerk
 told : List TTold
 codes : List Int
def playN (l : List TAsk) : Nat → PlayS
 | 0 => ⟨clerk0, [], []⟩
 | n + 1 => ⟨(serveM (playN l n).c (atI l (n : Int))).1, (playN l n).told ++ [(serveM (playN l n).c (atI l (n : Int))).2.1], (playN l n).codes ++ [(serveM (playN l n).c (atI l (n : Int))).2.2]⟩
def asksOk (l : List TAsk) : Bool := l.all askOk && decide ((l.length : Int) ≤ 60)
def playR (l : List TAsk) : PlayS × Bool := if asksOk l then (playN l l.length, true) else (⟨⟨[], [], []⟩, [], []⟩, false)
def onceN (l : List TAsk) (cs : List Int) : Nat → List TAsk
 | 0 => []
 | n + 1 => if atI cs (n : Int) == 0 then onceN l cs n ++ [atI l (n : Int)] else onceN l cs n
def onceR (l : List TAsk) : List TAsk × Bool := if asksOk l then (onceN l (playN l l.length).codes l.length, true) else ([], false)
theorem playN_len (l : List TAsk) : ∀ n, (playN l n).told.length = n ∧ (playN l n).codes.length = n
 | 0 => ⟨rfl, rfl⟩
 | n + 1 => by
  have := playN_len l n
  simp only [playN, List.length_append, List.length_cons, List.length_nil]
  omega
theorem onceN_len (l : List TAsk) (cs : List Int) : ∀ n, (onceN l cs n).length ≤ n
 | 0 => Nat.le_refl _
 | n + 1 => by
  have := onceN_len l cs n
  simp only [onceN]
  split
  ·simp only [List.length_append, List.length_cons, List.length_nil]; omega
  ·omega
theorem mem_setI {α : Type} {xs : List α} {k : Int} {a x : α} (h : x ∈ setI xs k a) : x ∈ xs ∨ x = a := List.mem_or_eq_of_mem_set h
theorem applyM_rng {s : List Int} {c : TCmd} {B : Int} (hc : cmdOk c = true) (hl : (s.length : Int) = 4) (hq : ∀ x ∈ s, 0 ≤ x ∧ x ≤ B) : ∀ x ∈ (applyM s c).1, 0 ≤ x ∧ x ≤ B + 1000 := by
 obtain ⟨hk, hm, -⟩ := cmdOk_acc hc
 have h0 : ∀ x ∈ s, 0 ≤ x ∧ x ≤ B + 1000 := fun x hx => by have := hq x hx; omega
 unfold applyM
 split
 ·exact h0
 ·split
  ·rename_i h1
   obtain ⟨⟨f1, f2⟩, ⟨t1, t2⟩, hne, a1, a2⟩ := hm (by simpa using h1)
   split
   ·exact h0
   ·rename_i h2
    have hbf : InB s c.src := by unfold InB; omega
    have hbt : InB s c.dst := by unfold InB; omega
    have hqf := hq _ (at_memI hbf)
    have hqt := hq _ (at_memI hbt)
    rw [atI_ne f1 t1 hne]
    simp only [decide_eq_true_eq] at h2
    intro x hx
    rcases mem_setI hx with hx | rfl
    ·rcases mem_setI hx with hx | rfl
     ·exact h0 x hx
     ·omega
    ·omega
  ·exact h0
theorem serveM_rng {c : TClerk} {a : TAsk} {B : Int} (ha : askOk a = true) (h1 : (c.sums.length : Int) = 4) (hq : ∀ x ∈ c.sums, 0 ≤ x ∧ x ≤ B) (hq2 : ∀ x ∈ c.last, 0 ≤ x ∧ x ≤ 999) :
  (∀ x ∈ (serveM c a).1.sums, 0 ≤ x ∧ x ≤ B + 1000) ∧ ∀ x ∈ (serveM c a).1.last, 0 ≤ x ∧ x ≤ 999 := by
 have h0 : ∀ x ∈ c.sums, 0 ≤ x ∧ x ≤ B + 1000 := fun x hx => by have := hq x hx; omega
 obtain ⟨-, hn, hc⟩ := askOk_spec ha
 unfold serveM
 split
 ·exact ⟨h0, hq2⟩
 ·split
  ·exact ⟨h0, hq2⟩
  ·split
   ·exact ⟨h0, hq2⟩
   ·refine ⟨applyM_rng hc h1 hq, fun x hx => ?_⟩
    rcases mem_setI hx with hx | rfl
    ·exact hq2 x hx
    ·omega
theorem playN_inv {l : List TAsk} (h : ∀ a ∈ l, askOk a = true) : ∀ n, n ≤ l.length →
  ((playN l n).c.sums.length : Int) = 4 ∧ ((playN l n).c.last.length : Int) = 4 ∧ ((playN l n).c.told.length : Int) = 4 ∧ (∀ x ∈ (playN l n).c.sums, 0 ≤ x ∧ x ≤ 100 + 1000 * n) ∧ ∀ x ∈ (playN l n).c.last, 0 ≤ x ∧ x ≤ 999
 | 0, _ => by
  refine ⟨rfl, rfl, rfl, ?_, ?_⟩
  ·simp only [playN, clerk0]; decide
  ·simp only [playN, clerk0]; decide
 | n + 1, hn => by
  obtain ⟨h1, h2, h3, h4, h5⟩ := playN_inv h n (by omega)
  have ha := h _ (at_mem (xs := l) (i := n) (by omega))
  have hl := serveM_len (playN l n).c (atI l (n : Int))
  obtain ⟨h6, h7⟩ := serveM_rng ha h1 h4 h5
  simp only [playN]
  refine ⟨by omega, by omega, by omega, fun x hx => ?_, h7⟩
  have := h6 x hx
  omega
theorem asksOk_spec {l : List TAsk} (h : asksOk l = true) : (∀ a ∈ l, askOk a = true) ∧ l.length ≤ 60 := by
 simp only [asksOk, Bool.and_eq_true, List.all_eq_true, decide_eq_true_eq] at h
 exact ⟨h.1, by omega⟩
theorem playR_len (l : List TAsk) : (playR l).1.c.sums.length ≤ 4 ∧ (playR l).1.c.last.length ≤ 4 ∧ (playR l).1.c.told.length ≤ 4 ∧ (playR l).1.told.length ≤ 60 ∧ (playR l).1.codes.length ≤ 60 := by
 unfold playR
 split
 ·rename_i h
  obtain ⟨h1, h2⟩ := asksOk_spec h
  obtain ⟨h3, h4, h5, -, -⟩ := playN_inv h1 l.length (Nat.le_refl _)
  have := playN_len l l.length
  simp only
  omega
 ·simp
theorem onceR_len (l : List TAsk) : (onceR l).1.length ≤ 60 := by
 unfold onceR
 split
 ·rename_i h
  obtain ⟨h1, h2⟩ := asksOk_spec h
  have := onceN_len l (playN l l.length).codes l.length
  simp only
  omega
 ·simp
end Go.Proofs.Ytjoebpmeeampfaa.Rf

namespace Go.Proofs.Ytjoebpmeeampfaa.Rf
set_option linter.unusedVariables false
set_option linter.unusedSimpArgs false
def u64 (n : Int) : D := .int .u64 n
end Go.Proofs.Ytjoebpmeeampfaa.Rf
