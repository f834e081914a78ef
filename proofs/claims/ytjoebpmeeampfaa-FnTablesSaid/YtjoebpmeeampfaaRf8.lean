/- Terms for the program's functions, and that they are right: part 8 of 8. -/
import Derived.Test.YtjoebpmeeampfaaRf7
set_option linter.unusedSimpArgs false
set_option linter.unusedVariables false
set_option linter.unnecessarySimpa false
set_option linter.unusedSectionVars false
namespace Go.Proofs.Ytjoebpmeeampfaa.Rf
set_option linter.unusedVariables false
set_option linter.unusedSimpArgs false
section
variable {T : Nat → Ent} {β : Type} {α : Type} [Inhabited α]
inductive Rd1 (σ : Type) where
 | go (s : σ)
 | out (r : Kind × List D)
def foldX {σ : Type} (f : Nat → α → σ → Rd1 σ) : Nat → List α → σ → Rd1 σ
 | _, [], s => .go s
 | i, x :: xs, s => match f i x s with
  | .go s' => foldX f (i + 1) xs s'
  | .out r => .out r
def rndK {σ : Type} (vs : Int → σ → List D) (i : Int) : Rd1 σ → Kind × List D
 | .go s => (.cont, vs (i + 1) s)
 | .out r => r
theorem loopX {σ : Type} {body : Tm β} {ρ : List D} {init : List Atom} (xs : List α) (vs : Int → σ → List D) (s0 : σ) (f : Nat → α → σ → Rd1 σ) (inv : Nat → σ → Prop) (fin : σ → Kind × List D)
  (h0 : init.map (·.val ρ) = vs 0 s0) (hi : inv 0 s0)
  (h1 : ∀ (i : Nat) s, i < xs.length → inv i s → Er T body (ρ ++ vs i s) = some (rndK vs i (f i (atI xs i) s)) ∧ (∀ s', f i (atI xs i) s = .go s' → inv (i + 1) s') ∧ ∀ r, f i (atI xs i) s = .out r → r.1 ≠ .cont)
  (h2 : ∀ s, inv xs.length s → Er T body (ρ ++ vs xs.length s) = some (fin s) ∧ (fin s).1 ≠ .cont) :
  ∃ r, Er T (.loop init body) ρ = some r ∧ ((∃ s, foldX f 0 xs s0 = .go s ∧ inv xs.length s ∧ r = fin s) ∨ foldX f 0 xs s0 = .out r) := by
 have key := loopR (T := T) (body := body) (ρ := ρ) (γ := Nat × σ) (fun c => xs.length - c.1) (fun c => c.1 ≤ xs.length ∧ inv c.1 c.2 ∧ foldX f c.1 (xs.drop c.1) c.2 = foldX f 0 xs s0) (fun c => vs (c.1 : Int) c.2)
  (fun r => (∃ s, foldX f 0 xs s0 = .go s ∧ inv xs.length s ∧ r = fin s) ∨ foldX f 0 xs s0 = .out r)
  (fun ⟨i, s⟩ ⟨hle, hv, hf⟩ => by
   simp only at hle hv hf ⊢
   rcases Nat.lt_or_ge i xs.length with hlt | hge
   ·obtain ⟨h3, h4, h5⟩ := h1 i s hlt hv
    have hd : xs.drop i = atI xs i :: xs.drop (i + 1) := by
     rw [List.drop_eq_getElem_cons hlt, atI_get hlt]
    rw [hd, foldX] at hf
    refine ⟨_, h3, ?_⟩
    cases e : f i (atI xs i) s with
    | go s' =>
     rw [e] at hf
     exact .inl ⟨rfl, (i + 1, s'), ⟨by simp only; omega, h4 s' e, hf⟩, by simp only; omega, rfl⟩
    | out r =>
     rw [e] at hf
     exact .inr ⟨h5 r e, .inr hf.symm⟩
   ·obtain rfl : i = xs.length := by omega
    obtain ⟨h3, h4⟩ := h2 s hv
    rw [List.drop_length, foldX] at hf
    exact ⟨_, h3, .inr ⟨h4, .inl ⟨s, hf.symm, hv, rfl⟩⟩⟩)
  xs.length (0, s0) (by simp) ⟨by simp, hi, by simp⟩ init h0
 exact key
theorem scanX {body : Tm β} {ρ : List D} (j : Nat) (n : Nat) (p : Nat → Bool) (r : List D)
  (h1 : ∀ i : Nat, i < n → p i = true → Er T body (ρ ++ [i64 i]) = some (.cont, [i64 ((i : Int) + 1)]))
  (h2 : ∀ i : Nat, i < n → p i = false → Er T body (ρ ++ [i64 i]) = some (.ret, r))
  (h3 : Er T body (ρ ++ [i64 n]) = some (.yield j, [])) :
  Er T (.loop [.c (i64 0)] body) ρ = forkT (allB p n) (some (.yield j, [])) (some (.ret, r)) := by
 have key := loopR (T := T) (body := body) (ρ := ρ) (fun i => n - i) (fun i => i ≤ n ∧ ∀ j, j < i → p j = true) (fun i => [i64 (i : Nat)])
  (fun q => (∀ j, j < n → p j = true) ∧ q = (.yield j, []) ∨ (∃ j, j < n ∧ p j = false) ∧ q = (.ret, r))
  (fun i ⟨hi, hall⟩ => by
   rcases Nat.lt_or_ge i n with hlt | hge
   ·cases e : p i with
    | true => exact ⟨_, h1 i hlt e, .inl ⟨rfl, i + 1, ⟨by omega, fun j hj => by
      rcases Nat.lt_or_ge j i with h | h
      ·exact hall j h
      ·obtain rfl : j = i := by omega
       exact e⟩, by omega, rfl⟩⟩
    | false => exact ⟨_, h2 i hlt e, .inr ⟨by simp, .inr ⟨⟨i, hlt, e⟩, rfl⟩⟩⟩
   ·obtain rfl : i = n := by omega
    exact ⟨_, h3, .inr ⟨by simp, .inl ⟨hall, rfl⟩⟩⟩)
  n 0 (by omega) ⟨by omega, fun j hj => by omega⟩ [.c (i64 0)] (by simp [Atom.val])
 obtain ⟨q, h4, h5⟩ := key
 rw [h4]
 rcases h5 with ⟨h6, rfl⟩ | ⟨h6, rfl⟩
 ·rw [allB_true.2 h6]; rfl
 ·rw [allB_false.2 h6]; rfl
theorem allB_all (xs : List α) (p : α → Bool) : allB (fun i => p (atI xs i)) xs.length = xs.all p := by
 cases e : xs.all p with
 | true =>
  rw [List.all_eq_true] at e
  rw [allB_true]
  intro i hi
  rw [atI_get hi]
  exact e _ (List.getElem_mem hi)
 | false =>
  rw [List.all_eq_false] at e
  obtain ⟨x, hx, hp⟩ := e
  obtain ⟨i, hi, rfl⟩ := List.getElem_of_mem hx
  exact allB_false.2 ⟨i, hi, by rw [atI_get hi]; simpa using hp⟩
theorem allB_eq [DecidableEq α] {xs ys : List α} (hl : xs.length = ys.length) : allB (fun i => decide (atI xs i = atI ys i)) xs.length = decide (xs = ys) := by
 by_cases e : xs = ys
 ·subst e
  rw [decide_eq_true rfl, allB_true]
  exact fun i _ => decide_eq_true rfl
 ·rw [decide_eq_false e]
  cases h : allB (fun i => decide (atI xs i = atI ys i)) xs.length with
  | false => rfl
  | true =>
   rw [allB_true] at h
   refine absurd (List.ext_getElem hl fun i h1 h2 => ?_) e
   have := of_decide_eq_true (h i h1)
   rwa [atI_get h1, atI_get h2] at this
theorem eq_len {xs ys : List α} [DecidableEq α] (h : ¬ xs.length = ys.length) : decide (xs = ys) = false := decide_eq_false fun e => h (by rw [e])
theorem allX {body : Tm β} {ρ : List D} (j : Nat) (xs : List α) (p : α → Bool) (r : List D)
  (h1 : ∀ i : Nat, i < xs.length → InB xs (i : Int) → decide ((i : Int) < xs.length) = true → p (atI xs i) = true → Er T body (ρ ++ [i64 i]) = some (.cont, [i64 ((i : Int) + 1)]))
  (h2 : ∀ i : Nat, i < xs.length → InB xs (i : Int) → decide ((i : Int) < xs.length) = true → p (atI xs i) = false → Er T body (ρ ++ [i64 i]) = some (.ret, r))
  (h3 : decide ((xs.length : Int) < xs.length) = false → Er T body (ρ ++ [i64 xs.length]) = some (.yield j, [])) :
  Er T (.loop [.c (i64 0)] body) ρ = forkT (xs.all p) (some (.yield j, [])) (some (.ret, r)) := by
 rw [scanX j xs.length (fun i => p (atI xs i)) r (fun i hi hp => h1 i hi (InB_nat.2 hi) (by simp; omega) hp) (fun i hi hp => h2 i hi (InB_nat.2 hi) (by simp; omega) hp) (h3 (by simp)), allB_all]
omit [Inhabited α] in
theorem scanF {body : Tm β} {ρ : List D} (j : Nat) (n : Nat) (p : Nat → Bool) (r : List D)
  (h1 : ∀ i : Nat, i < n → decide ((i : Int) < n) = true → Er T body (ρ ++ [i64 i]) = forkT (p i) (some (.cont, [i64 ((i : Int) + 1)])) (some (.ret, r)))
  (h3 : decide ((n : Int) < n) = false → Er T body (ρ ++ [i64 n]) = some (.yield j, [])) :
  Er T (.loop [.c (i64 0)] body) ρ = forkT (allB p n) (some (.yield j, [])) (some (.ret, r)) :=
 scanX j n p r (fun i hi hp => by rw [h1 i hi (by simp; omega), hp]; rfl) (fun i hi hp => by rw [h1 i hi (by simp; omega), hp]; rfl) (h3 (by simp))
theorem allF {body : Tm β} {ρ : List D} (j : Nat) (xs : List α) (p : α → Bool) (r : List D)
  (h1 : ∀ i : Nat, i < xs.length → InB xs (i : Int) → decide ((i : Int) < xs.length) = true → atI xs (i : Int) ∈ xs → Er T body (ρ ++ [i64 i]) = forkT (p (atI xs i)) (some (.cont, [i64 ((i : Int) + 1)])) (some (.ret, r)))
  (h3 : decide ((xs.length : Int) < xs.length) = false → Er T body (ρ ++ [i64 xs.length]) = some (.yield j, [])) :
  Er T (.loop [.c (i64 0)] body) ρ = forkT (xs.all p) (some (.yield j, [])) (some (.ret, r)) :=
 allX j xs p r (fun i hi hb hl hp => by rw [h1 i hi hb hl (by rw [atI_get hi]; exact List.getElem_mem hi), hp]; rfl) (fun i hi hb hl hp => by rw [h1 i hi hb hl (by rw [atI_get hi]; exact List.getElem_mem hi), hp]; rfl) h3
def ixF (p : α → Bool) (xs : List α) : Int := match xs.findIdx? p with
 | some i => i
 | none => -1
omit [Inhabited α] in
theorem ixF_any (p : α → Bool) (xs : List α) : decide (0 ≤ ixF p xs) = xs.any p := by
 unfold ixF
 cases h : xs.findIdx? p with
 | none =>
  rw [List.findIdx?_eq_none_iff] at h
  have : xs.any p = false := by
   rw [List.any_eq_false]
   exact fun x hx => by simp [h x hx]
  rw [this]; rfl
 | some i =>
  have : xs.any p = true := by
   rw [List.findIdx?_eq_some_iff_getElem] at h
   obtain ⟨hi, hp, -⟩ := h
   rw [List.any_eq_true]
   exact ⟨_, List.getElem_mem hi, hp⟩
  rw [this]; simp
theorem findX {body : Tm β} {ρ : List D} (j : Nat) (xs : List α) (p : α → Bool) (rf : Int → List D)
  (h1 : ∀ i : Nat, i < xs.length → InB xs (i : Int) → decide ((i : Int) < xs.length) = true → p (atI xs i) = true → Er T body (ρ ++ [i64 i]) = some (.ret, rf i))
  (h2 : ∀ i : Nat, i < xs.length → InB xs (i : Int) → decide ((i : Int) < xs.length) = true → p (atI xs i) = false → Er T body (ρ ++ [i64 i]) = some (.cont, [i64 ((i : Int) + 1)]))
  (h3 : decide ((xs.length : Int) < xs.length) = false → Er T body (ρ ++ [i64 xs.length]) = some (.yield j, [])) :
  Er T (.loop [.c (i64 0)] body) ρ = forkT (xs.any p) (some (.ret, rf (ixF p xs))) (some (.yield j, [])) := by
 have hall : ∀ (i : Nat) (ys : List α), foldX (fun (i : Nat) x (_ : Unit) => if p x then Rd1.out (.ret, rf i) else .go ()) i ys () = match ys.findIdx? p with | some k => .out (.ret, rf ((i + k : Nat) : Int)) | none => .go () := by
  intro i ys
  induction ys generalizing i with
  | nil => rfl
  | cons y ys ih =>
   rw [foldX, List.findIdx?_cons]
   cases p y with
   | true => simp
   | false =>
    simp only [Bool.false_eq_true, if_false]
    rw [ih (i + 1)]
    cases ys.findIdx? p with
    | none => rfl
    | some k => simp only [Option.map_some]; congr 4; omega
 obtain ⟨q, h4, h5⟩ := loopX (T := T) (body := body) (ρ := ρ) (init := [.c (i64 0)]) xs (fun i (_ : Unit) => [i64 i]) () (fun i x _ => if p x then .out (.ret, rf i) else .go ()) (fun _ _ => True) (fun _ => (.yield j, [])) rfl trivial
  (fun i _ hi _ => by
   cases e : p (atI xs i) with
   | true => exact ⟨by rw [h1 i hi (InB_nat.2 hi) (by simp; omega) e]; rfl, fun _ _ => trivial, fun r h => by simp at h; rw [← h]; simp⟩
   | false => exact ⟨by rw [h2 i hi (InB_nat.2 hi) (by simp; omega) e]; rfl, fun _ _ => trivial, fun r h => by simp at h⟩)
  (fun _ _ => ⟨h3 (by simp), by simp⟩)
 rw [h4, ← ixF_any]
 rw [hall] at h5
 unfold ixF
 cases e : xs.findIdx? p with
 | none =>
  rw [e] at h5
  rcases h5 with ⟨s, -, -, rfl⟩ | h5
  ·rfl
  ·simp at h5
 | some k =>
  rw [e] at h5
  rcases h5 with ⟨s, h5, -⟩ | h5
  ·simp at h5
  ·simp only [Nat.zero_add, Rd1.out.injEq] at h5
   rw [← h5]
   simp [forkT]
theorem at_mem {xs : List α} {i : Nat} (h : i < xs.length) : atI xs (i : Int) ∈ xs := by rw [atI_get h]; exact List.getElem_mem h
omit [Inhabited α] in
theorem loopN {body : Tm β} {ρ : List D} {init : List Atom} (n : Nat) (vs : Nat → List D) (r : Kind × List D) (h0 : init.map (·.val ρ) = vs 0) (hr : r.1 ≠ .cont)
  (h1 : ∀ i : Nat, i < n → decide ((i : Int) < n) = true → Er T body (ρ ++ vs i) = some (.cont, vs (i + 1)))
  (h2 : decide ((n : Int) < n) = false → Er T body (ρ ++ vs n) = some r) : Er T (.loop init body) ρ = some r := by
 obtain ⟨q, h3, rfl⟩ := loopR (T := T) (body := body) (ρ := ρ) (fun i => n - i) (fun i => i ≤ n) vs (fun q => q = r)
  (fun i hi => by
   rcases Nat.lt_or_ge i n with hlt | hge
   ·exact ⟨_, h1 i hlt (by simp; omega), .inl ⟨rfl, i + 1, by omega, by omega, rfl⟩⟩
   ·obtain rfl : i = n := by omega
    exact ⟨_, h2 (by simp), .inr ⟨hr, rfl⟩⟩) n 0 (by omega) (by omega) init h0
 exact h3
omit [Inhabited α] in
theorem whileE {γ : Type} {body : Tm β} {ρ : List D} {init : List Atom} (r : Kind × List D) (m : γ → Nat) (inv : γ → Prop) (vs : γ → List D) (c0 : γ) (h0 : init.map (·.val ρ) = vs c0) (hi : inv c0) (hr : r.1 ≠ .cont)
  (h : ∀ c, inv c → (∃ c', Er T body (ρ ++ vs c) = some (.cont, vs c') ∧ inv c' ∧ m c' < m c) ∨ Er T body (ρ ++ vs c) = some r) : Er T (.loop init body) ρ = some r := by
 obtain ⟨q, h1, rfl⟩ := loopR (T := T) (body := body) (ρ := ρ) m inv vs (fun q => q = r)
  (fun c hc => by
   rcases h c hc with ⟨c', h2, h3, h4⟩ | h2
   ·exact ⟨_, h2, .inl ⟨rfl, c', h3, h4, rfl⟩⟩
   ·exact ⟨_, h2, .inr ⟨hr, rfl⟩⟩) (m c0) c0 (Nat.le_refl _) hi init h0
 exact h1
end
theorem take_at {α : Type} [Inhabited α] {xs : List α} {i : Nat} (h : i < xs.length) : xs.take i ++ [atI xs (i : Int)] = xs.take (i + 1) := by rw [List.take_succ_eq_append_getElem h, atI_get h]
theorem setI_at {α : Type} [Inhabited α] {xs : List α} {k : Int} (h : InB xs k) : setI xs k (atI xs k) = xs := by
 have h2 := h.lt
 unfold setI atI
 rw [List.getD_eq_getElem?_getD, List.getElem?_eq_getElem h2]
 exact List.set_getElem_self h2
def holeL {α : Type} [Enc α] (xs : List (List α)) (k : Int) : D := .rows 1 ((xs.map Enc.enc).set k.toNat [.hole])
theorem S_hole : (∀ {α : Type} [Enc α] {xs : List (List α)} {k : Int}, InB xs k → (Prim.set 1 0 1).run [rL xs, i64 k, .hole] = some [holeL xs k]) ∧ (∀ {α : Type} [Enc α] {xs : List (List α)} {k j : Int}, InB xs j → Prim.inb.run [holeL xs k, i64 j] = some []) ∧
  (∀ {α : Type} [Enc α] {xs : List (List α)} {k : Int} {l : List α}, InB xs k → (Prim.set 1 0 1).run [holeL xs k, i64 k, rL l] = some [rL (setI xs k l)]) := by
 refine ⟨?_, ?_, ?_⟩
 ·intro α _ xs k h
  have h2 := h.lt
  unfold InB at h
  have e : (xs.map Enc.enc)[k.toNat]? = some [rL xs[k.toNat]] := by rw [List.getElem?_map, List.getElem?_eq_getElem h2]; rfl
  show (if _ then _ else _) = _
  rw [if_pos ⟨rfl, h.1⟩, e]
  rfl
 ·intro α _ xs k j h
  unfold InB at h
  show (if _ then _ else _) = _
  rw [if_pos ⟨h.1, by simpa using h.2⟩]
 ·intro α _ xs k l h
  have h2 := h.lt
  unfold InB at h
  have e : ((xs.map Enc.enc).set k.toNat [.hole])[k.toNat]? = some [.hole] := by rw [List.getElem?_set_self (by simpa using h2)]
  show (if _ then _ else _) = _
  rw [if_pos ⟨rfl, h.1⟩, e]
  show some _ = _
  simp only [rL, setI, List.map_set, List.set_set]
  rfl
theorem SQ : (∀ {a b : Int}, -9223372036854775808 ≤ a + b → a + b ≤ 9223372036854775807 → (Prim.bin .add).run [i64 a, i64 b] = some [i64 (a + b)]) ∧
  (∀ {a b : Int}, -9223372036854775808 ≤ a - b → a - b ≤ 9223372036854775807 → (Prim.bin .sub).run [i64 a, i64 b] = some [i64 (a - b)]) ∧
  (∀ {a b : Int}, 0 ≤ a → a ≤ 9223372036854775807 → 0 < b → (Prim.bin .quo).run [i64 a, i64 b] = some [i64 (a / b)]) ∧ (∀ {a b : Int}, 0 ≤ a → 0 < b → (Prim.bin .rem).run [i64 a, i64 b] = some [i64 (a % b)]) :=
 ⟨run_add, run_sub, run_quoI, run_remI⟩
end Go.Proofs.Ytjoebpmeeampfaa.Rf

namespace Go.Proofs.Ytjoebpmeeampfaa.Rf
set_option linter.unusedVariables false
set_option linter.unusedSimpArgs false
theorem S_upd : (∀ {α : Type} [Inhabited α] {xs : List α} {k : Int} {a : α}, InB xs k → atI (setI xs k a) k = a) ∧ (∀ {α : Type} {xs : List α} {k : Int} {a b : α}, setI (setI xs k a) k b = setI xs k b) ∧
  (∀ {α : Type} {xs : List α} {j k : Int} {a : α}, InB (setI xs j a) k = InB xs k) ∧ (∀ {α : Type} {xs : List α} {j : Int} {a : α}, (setI xs j a).length = xs.length) := by
 refine ⟨?_, ?_, ?_, ?_⟩
 ·intro α _ xs k a h
  have := h.lt
  rw [setI, atI, List.getD_eq_getElem?_getD, List.getElem?_set_self this]; rfl
 ·intro α xs k a b
  rw [setI, setI, setI, List.set_set]
 ·intro α xs j k a
  unfold InB setI
  rw [List.length_set]
 ·intro α xs j a
  exact List.length_set ..
section
variable {T : Nat → Ent} {β : Type} {α : Type} [Inhabited α]
end
end Go.Proofs.Ytjoebpmeeampfaa.Rf

namespace Go.Proofs.Ytjoebpmeeampfaa.Rf
set_option linter.unusedVariables false
set_option linter.unusedSimpArgs false
end Go.Proofs.Ytjoebpmeeampfaa.Rf

namespace Go.Proofs.Ytjoebpmeeampfaa.Rf
set_option linter.unusedVariables false
set_option linter.unusedSimpArgs false
theorem SZ : (∀ b : Bool, (b && true) = b) ∧ (∀ b : Bool, (true && b) = b) ∧ (∀ b : Bool, (b && false) = false) ∧ (∀ b : Bool, (false && b) = false) ∧
  (∀ b : Bool, (b || true) = true) ∧ (∀ b : Bool, (true || b) = true) ∧ (∀ b : Bool, (b || false) = b) ∧ (∀ b : Bool, (false || b) = b) ∧ ((!true) = false) ∧ ((!false) = true) :=
 ⟨Bool.and_true, Bool.true_and, Bool.and_false, Bool.false_and, Bool.or_true, Bool.true_or, Bool.or_false, Bool.false_or, rfl, rfl⟩
theorem fork_in {γ : Type} {a r : γ} (h : forkT true a r = r) : a = r := h
theorem S0 : type_of% (And.intro @SA (And.intro @SB (And.intro @SC (And.intro @SP (And.intro @SQ (And.intro @SZ (And.intro @beq_self_eq_true.{0} (And.intro @decide_true (And.intro @decide_false (And.intro @cast1 @S_eta)))))))))) := And.intro @SA (And.intro @SB (And.intro @SC (And.intro @SP (And.intro @SQ (And.intro @SZ (And.intro @beq_self_eq_true.{0} (And.intro @decide_true (And.intro @decide_false (And.intro @cast1 @S_eta)))))))))
theorem bool_fin {x y : Bool} (h : x = true ↔ y = true) : some [D.bool x] = some [D.bool y] := by rw [Bool.eq_iff_iff.2 h]
def isGrp (n : Int) : Bool := n == 3 || n == 5
theorem isGrp_rng {n : Int} (h : isGrp n = true) : n = 3 ∨ n = 5 := by simpa [isGrp] using h
def inst (n rep no : Int) : Bool := inR rep 0 (n - 1) && inR no 1 6
def cmdOk (c : TCmd) : Bool :=
 if c.kind == 0 then decide (c = ⟨0, 0, 0, 0, 0⟩) else if c.kind == 1 then inR c.id 1 999 && inR c.src 0 3 && inR c.dst 0 3 && !(c.src == c.dst) && inR c.amt 1 1000
 else c.kind == 2 && inR c.id 1 999 && inR c.src 0 3 && c.dst == 0 && c.amt == 0
def cmdCode (c : TCmd) : Int :=
 if !inR c.src 0 3 || (c.kind == 1 && !inR c.dst 0 3) then 4 else if c.kind == 1 && c.src == c.dst then 5 else if !inR c.id 1 999 || (c.kind == 1 && !inR c.amt 1 1000) then 6 else 0
def attrOk (n : Int) (a : TAttr) : Bool := inR a.seq 0 999 && (a.deps.length : Int) == n && a.deps.all fun x => inR x 0 6
def none0 (n : Int) : TAttr := ⟨0, List.replicate n.toNat 0⟩
def rowOk (n : Int) (r : TRow) : Bool :=
 inR r.ballot 0 9999 && inR r.vote 0 r.ballot && inR r.state 0 3 && (if r.state == 0 then r.vote == 0 && decide (r.cmd = ⟨0, 0, 0, 0, 0⟩) && decide (r.attr = none0 n) else cmdOk r.cmd && attrOk n r.attr)
theorem none0_ok {n : Int} (h : isGrp n = true) : attrOk n (none0 n) = true := by
 rcases isGrp_rng h with rfl | rfl <;> rfl
theorem cmdZ_ok {c : TCmd} (h : decide (c = ⟨0, 0, 0, 0, 0⟩) = true) : cmdOk c = true := by
 rw [of_decide_eq_true h]; rfl
theorem cmdCode0 {c : TCmd} : (cmdCode c == 0) = (inR c.src 0 3 && inR c.id 1 999 && (!(c.kind == 1) || (inR c.dst 0 3 && !(c.src == c.dst) && inR c.amt 1 1000))) := by
 unfold cmdCode
 cases inR c.src 0 3 <;> cases inR c.id 1 999 <;> cases c.kind == 1 <;> cases inR c.dst 0 3 <;> cases c.src == c.dst <;> cases inR c.amt 1 1000 <;> rfl
def smRows (xs : List TRow) : Prop := xs.length ≤ 10000000000 ∧ ∀ r ∈ xs, r.attr.deps.length ≤ 10000000000
def smTab (rows : List (List TRow)) : Prop := rows.length ≤ 10000000000 ∧ ∀ l ∈ rows, smRows l
def tabOk (t : TTable) : Bool := isGrp t.n && (t.rows.length : Int) == t.n && t.rows.all fun l => l.all (fun r => rowOk t.n r) && decide ((l.length : Int) ≤ 6)
def row0 (n : Int) : TRow := ⟨0, 0, 0, ⟨0, 0, 0, 0, 0⟩, none0 n⟩
def trow (t : TTable) (rep no : Int) : TRow := if no ≤ (atI t.rows rep).length then atI (atI t.rows rep) (no - 1) else row0 t.n
def rowD : TRow := ⟨0, 0, 0, ⟨0, 0, 0, 0, 0⟩, ⟨0, []⟩⟩
def rowAtR (t : TTable) (rep no : Int) : TRow × Bool := if tabOk t && inst t.n rep no then (trow t rep no, true) else (rowD, false)
theorem S_nil : (rL ([] : List Int) = .rows 1 []) ∧ (rL ([] : List (List Int)) = .rows 1 []) ∧ (rL ([] : List TRow) = .rows 10 []) ∧ (rL ([] : List (List TRow)) = .rows 1 []) ∧ (rL ([] : List TLead) = .rows 16 []) ∧ (rL ([] : List TMsg) = .rows 15 []) ∧
  (rL ([] : List TAsk) = .rows 7 []) ∧ (rL ([] : List TTold) = .rows 2 []) := ⟨rfl, rfl, rfl, rfl, rfl, rfl, rfl, rfl⟩
theorem inst_rng {n rep no : Int} (h : inst n rep no = true) : 0 ≤ rep ∧ rep ≤ n - 1 ∧ 1 ≤ no ∧ no ≤ 6 := by
 simp only [inst, inR, Bool.and_eq_true, decide_eq_true_eq] at h
 omega
theorem tabOk_grp {t : TTable} (h : tabOk t = true) : isGrp t.n = true := by
 simp only [tabOk, Bool.and_eq_true] at h; exact h.1.1
theorem tabOk_len {t : TTable} (h : tabOk t = true) : (t.rows.length : Int) = t.n := by
 simp only [tabOk, Bool.and_eq_true, beq_iff_eq] at h; exact h.1.2
theorem tabOk_in {t : TTable} {rep no : Int} (h : tabOk t = true) (hi : inst t.n rep no = true) : InB t.rows rep := by
 have := tabOk_len h
 have := inst_rng hi
 unfold InB; omega
theorem tabOk_rows {t : TTable} (h : tabOk t = true) {l : List TRow} (hl : l ∈ t.rows) : l.length ≤ 6 ∧ ∀ r ∈ l, rowOk t.n r = true := by
 simp only [tabOk, Bool.and_eq_true, List.all_eq_true, decide_eq_true_eq] at h
 have := h.2 l hl
 exact ⟨by omega, this.1⟩
theorem rowOk_deps {n : Int} {r : TRow} (h : rowOk n r = true) (hg : isGrp n = true) : (r.attr.deps.length : Int) = n := by
 have h2 : attrOk n r.attr = true := by
  simp only [rowOk, Bool.and_eq_true] at h
  have h3 := h.2
  split at h3
  ·simp only [Bool.and_eq_true] at h3
   rw [of_decide_eq_true h3.2]
   exact none0_ok hg
  ·simp only [Bool.and_eq_true] at h3
   exact h3.2
 simp only [attrOk, Bool.and_eq_true, beq_iff_eq] at h2
 exact h2.1.2
theorem at_memI {α : Type} [Inhabited α] {xs : List α} {k : Int} (h : InB xs k) : atI xs k ∈ xs := by
 have h2 := h.lt
 have e : ((k.toNat : Nat) : Int) = k := by unfold InB at h; omega
 rw [← e]
 exact at_mem h2
theorem trow_ok {t : TTable} {rep no : Int} (h : tabOk t = true) (hi : inst t.n rep no = true) : rowOk t.n (trow t rep no) = true := by
 unfold trow
 have hb := tabOk_in h hi
 have hr := inst_rng hi
 split
 ·exact (tabOk_rows h (at_memI hb)).2 _ (at_memI (by unfold InB; omega))
 ·rcases isGrp_rng (tabOk_grp h) with e | e <;> rw [e] <;> rfl
theorem trow_deps {t : TTable} {rep no : Int} (h : tabOk t = true) (hi : inst t.n rep no = true) : ((trow t rep no).attr.deps.length : Int) = t.n := rowOk_deps (trow_ok h hi) (tabOk_grp h)
theorem rowAtR_len (t : TTable) (rep no : Int) : (rowAtR t rep no).1.attr.deps.length ≤ 5 := by
 unfold rowAtR
 split
 ·rename_i h
  simp only [Bool.and_eq_true] at h
  have h2 := trow_deps h.1 h.2
  have h3 := isGrp_rng (tabOk_grp h.1)
  simp only
  omega
 ·simp [rowD]
def ext (n : Int) (l : List TRow) (no : Int) : List TRow := l ++ List.replicate (no - l.length).toNat (row0 n)
def tset (t : TTable) (rep no : Int) (r : TRow) : TTable := ⟨t.n, setI t.rows rep (setI (ext t.n (atI t.rows rep) no) (no - 1) r)⟩
def tsetR (t : TTable) (rep no : Int) (r : TRow) : TTable × Bool := if tabOk t && inst t.n rep no && rowOk t.n r then (tset t rep no r, true) else (⟨0, []⟩, false)
theorem ext_len {n : Int} {l : List TRow} {no : Int} (h : 0 ≤ no) : ((ext n l no).length : Int) = max (l.length : Int) no := by
 simp only [ext, List.length_append, List.length_replicate]
 omega
def nb (b me : Int) : Int := if b < 8 + me then 8 + me else b + 1 + (me - b - 1) % 8
def nbR (t : TTable) (rep no me : Int) : Int × Bool := if tabOk t && inst t.n rep no && inR me 0 (t.n - 1) && decide (nb (trow t rep no).ballot me ≤ 9999) then (nb (trow t rep no).ballot me, true) else (0, false)
theorem rowOk_ballot {n : Int} {r : TRow} (h : rowOk n r = true) : 0 ≤ r.ballot ∧ r.ballot ≤ 9999 := by
 simp only [rowOk, inR, Bool.and_eq_true, decide_eq_true_eq] at h
 exact h.1.1.1
theorem inR_rng {x lo hi : Int} (h : inR x lo hi = true) : lo ≤ x ∧ x ≤ hi := by
 simpa [inR] using h
end Go.Proofs.Ytjoebpmeeampfaa.Rf

namespace Go.Proofs.Ytjoebpmeeampfaa.Rf
set_option linter.unusedVariables false
set_option linter.unusedSimpArgs false
theorem setI_len {α : Type} {xs : List α} {k : Int} {a : α} : (setI xs k a).length = xs.length := List.length_set ..
theorem atI_ne {α : Type} [Inhabited α] {xs : List α} {j k : Int} {a : α} (hj : 0 ≤ j) (hk : 0 ≤ k) (h : j ≠ k) : atI (setI xs j a) k = atI xs k := by
 unfold atI setI
 rw [List.getD_eq_getElem?_getD, List.getD_eq_getElem?_getD, List.getElem?_set_ne (by omega)]
end Go.Proofs.Ytjoebpmeeampfaa.Rf

namespace Go.Proofs.Ytjoebpmeeampfaa.Rf
set_option linter.unusedVariables false
set_option linter.unusedSimpArgs false
def comRowN (l : List TRow) (k : Int) (m : Nat) : List (List Int) := (List.range m).flatMap fun i : Nat => if (atI l (i : Int)).state == 3 then [[k, (i : Int) + 1]] else []
def comN (rows : List (List TRow)) (m : Nat) : List (List Int) := (List.range m).flatMap fun k : Nat => comRowN (atI rows (k : Int)) k (atI rows (k : Int)).length
def comM (rows : List (List TRow)) : List (List Int) := comN rows rows.length
theorem comRowN_succ (l : List TRow) (k : Int) (m : Nat) : comRowN l k (m + 1) = comRowN l k m ++ if (atI l (m : Int)).state == 3 then [[k, (m : Int) + 1]] else [] := by
 simp [comRowN, List.range_succ, List.flatMap_append]
theorem comN_succ (rows : List (List TRow)) (m : Nat) : comN rows (m + 1) = comN rows m ++ comRowN (atI rows (m : Int)) m (atI rows (m : Int)).length := by
 simp [comN, List.range_succ, List.flatMap_append]
theorem comRowN_len (l : List TRow) (k : Int) : ∀ m, (comRowN l k m).length ≤ m
 | 0 => by simp [comRowN]
 | m + 1 => by
  have := comRowN_len l k m
  rw [comRowN_succ, List.length_append]
  split <;> simp <;> omega
theorem comN_len {rows : List (List TRow)} (h : ∀ l ∈ rows, l.length ≤ 6) : ∀ {m}, m ≤ rows.length → (comN rows m).length ≤ 6 * m
 | 0, _ => by simp [comN]
 | m + 1, hm => by
  have h1 := comN_len h (m := m) (by omega)
  have h2 := comRowN_len (atI rows (m : Int)) m (atI rows (m : Int)).length
  have h3 := h _ (at_mem (show m < rows.length by omega))
  rw [comN_succ, List.length_append]
  omega
theorem comM_mem {rows : List (List TRow)} {x : List Int} (h : x ∈ comM rows) : ∃ k i : Nat, k < rows.length ∧ i < (atI rows (k : Int)).length ∧ x = [(k : Int), (i : Int) + 1] ∧ (atI (atI rows (k : Int)) (i : Int)).state = 3 := by
 unfold comM comN comRowN at h
 simp only [List.mem_flatMap, List.mem_range] at h
 obtain ⟨k, hk, i, hi, hx⟩ := h
 split at hx
 ·rename_i hs
  exact ⟨k, i, hk, hi, by simpa using hx, by simpa using hs⟩
 ·cases hx
theorem comM_spec {t : TTable} (ht : tabOk t = true) {x : List Int} (h : x ∈ comM t.rows) : InB x 0 ∧ InB x 1 ∧ x.length = 2 ∧ inst t.n (atI x 0) (atI x 1) = true ∧ (trow t (atI x 0) (atI x 1)).state = 3 := by
 obtain ⟨k, i, hk, hi, rfl, hs⟩ := comM_mem h
 have h1 := (tabOk_rows ht (at_mem hk)).1
 have h2 := tabOk_len ht
 refine ⟨by unfold InB; simp, by unfold InB; simp, rfl, ?_, ?_⟩
 ·simp only [atI, inst, inR, Bool.and_eq_true, decide_eq_true_eq]
  simp
  omega
 ·show (trow t (k : Int) ((i : Int) + 1)).state = 3
  unfold trow
  rw [if_pos (by omega), show (i : Int) + 1 - 1 = i by omega]
  exact hs
end Go.Proofs.Ytjoebpmeeampfaa.Rf

namespace Go.Proofs.Ytjoebpmeeampfaa.Rf
set_option linter.unusedVariables false
set_option linter.unusedSimpArgs false
end Go.Proofs.Ytjoebpmeeampfaa.Rf

namespace Go.Proofs.Ytjoebpmeeampfaa.Rf
set_option linter.unusedVariables false
set_option linter.unusedSimpArgs false
end Go.Proofs.Ytjoebpmeeampfaa.Rf

namespace Go.Proofs.Ytjoebpmeeampfaa.Rf
set_option linter.unusedVariables false
set_option linter.unusedSimpArgs false
section
variable {T : Nat → Ent} {β : Type}
end
end Go.Proofs.Ytjoebpmeeampfaa.Rf

namespace Go.Proofs.Ytjoebpmeeampfaa.Rf
set_option linter.unusedVariables false
set_option linter.unusedSimpArgs false
end Go.Proofs.Ytjoebpmeeampfaa.Rf

namespace Go.Proofs.Ytjoebpmeeampfaa.Rf
set_option linter.unusedVariables false
set_option linter.unusedSimpArgs false
theorem mem_setI {α : Type} {xs : List α} {k : Int} {a x : α} (h : x ∈ setI xs k a) : x ∈ xs ∨ x = a := List.mem_or_eq_of_mem_set h
end Go.Proofs.Ytjoebpmeeampfaa.Rf

namespace Go.Proofs.Ytjoebpmeeampfaa.Rf
set_option linter.unusedVariables false
set_option linter.unusedSimpArgs false
def isBytes (d : D) : Prop := WT (.sl 1 [.int .u8]) d
def bLen (d : D) : Nat := match d with
 | .rows _ rs => rs.length
 | _ => 0
theorem bytes_len {d : D} (h : isBytes d) : Prim.len.run [d] = some [i64 (bLen d)] ∧ bLen d ≤ 140737488351232 := by
 obtain ⟨rs, rfl, h1, h2⟩ := h
 refine ⟨rfl, ?_⟩
 simp only [bLen]
 have : reachBytes = 140737488351232 := rfl
 omega
theorem bytes_at {d : D} (h : isBytes d) {k : Int} (h0 : 0 ≤ k) (h1 : k < (bLen d : Nat)) : Prim.inb.run [d, i64 k] = some [] ∧ ∃ b, (Prim.row 1 0 [true]).run [d, i64 k] = some [.int .u8 b] ∧ 0 ≤ b ∧ b ≤ 255 := by
 obtain ⟨rs, rfl, h2, h3⟩ := h
 simp only [bLen] at h1
 refine ⟨by simp only [Prim.run]; rw [if_pos ⟨h0, h1⟩], ?_⟩
 have hk : k.toNat < rs.length := by omega
 have hm := h3 _ (List.getElem_mem hk)
 simp only [WTs] at hm
 obtain ⟨d1, r1, e, ⟨b, rfl, hb1, hb2⟩, rfl⟩ := hm
 refine ⟨b, ?_, hb1, hb2⟩
 simp only [Prim.run]
 rw [if_pos ⟨rfl, h0⟩, List.getElem?_eq_getElem hk, e]
 rfl
def u64 (n : Int) : D := .int .u64 n
theorem u_mul {a b : Int} : (Prim.bin .mul).run [u64 a, .int .u64 b] = some [u64 (IntKind.u64.wrap (a * b))] := rfl
theorem u_add {a b : Int} : (Prim.bin .add).run [u64 a, u64 b] = some [u64 (IntKind.u64.wrap (a + b))] := rfl
theorem u_addc {a b : Int} : (Prim.bin .add).run [u64 a, .int .u64 b] = some [u64 (IntKind.u64.wrap (a + b))] := rfl
theorem u_shr {a : Int} : (Prim.bin .shr).run [u64 a, .int .u64 40] = some [u64 (a.fdiv (2 ^ 40))] := rfl
theorem u_and {a : Int} : (Prim.bin .and).run [u64 a, .int .u64 255] = some [u64 (IntKind.u64.wrap (BitVec.ofInt 64 a &&& BitVec.ofInt 64 255).toNat)] := rfl
theorem u_conv {a : Int} : (Prim.conv .u64).run [i64 a] = some [u64 (IntKind.u64.wrap a)] := rfl
theorem u8_conv {a : Int} (h0 : 0 ≤ a) (h1 : a ≤ 255) : (Prim.conv .i64).run [.int .u8 a] = some [i64 a] := by
 show some [D.int .i64 (IntKind.i64.wrap a)] = _
 rw [wrap_i64 (by omega) (by omega)]
def lowV (a : Int) : Int := IntKind.i64.wrap (IntKind.u64.wrap (BitVec.ofInt 64 a &&& BitVec.ofInt 64 255).toNat)
theorem u_low {a : Int} : (Prim.conv .i64).run [u64 (IntKind.u64.wrap (BitVec.ofInt 64 a &&& BitVec.ofInt 64 255).toNat)] = some [i64 (lowV a)] := rfl
theorem lowV_rng (a : Int) : 0 ≤ lowV a ∧ lowV a ≤ 255 := by
 unfold lowV
 have h1 : (BitVec.ofInt 64 a &&& BitVec.ofInt 64 255).toNat ≤ 255 := by
  rw [BitVec.toNat_and]
  exact Nat.and_le_right
 generalize (BitVec.ofInt 64 a &&& BitVec.ofInt 64 255).toNat = n at h1
 have h2 : IntKind.u64.wrap (n : Int) = n := IntWalk.u64_in n ⟨by omega, by omega⟩
 rw [h2, wrap_i64 (by omega) (by omega)]
 omega
theorem run_rem' {a b : Int} (h0 : 0 ≤ a) (hb : 0 < b) : (Prim.bin .rem).run [i64 a, i64 b] = some [i64 (a % b)] := by
 simp only [Prim.run, binD, intOp, if_true]
 rw [if_neg (by omega)]
 rw [Int.tmod_eq_emod_of_nonneg h0]
 rfl
theorem loopEx {T : Nat → Ent} {β γ : Type} {body : Tm β} {ρ : List D} {init : List Atom} (m : γ → Nat) (inv : γ → Prop) (vs : γ → List D) (Q : Kind × List D → Prop) (c0 : γ) (h0 : init.map (·.val ρ) = vs c0) (hi : inv c0)
  (h : ∀ c, inv c → (∃ c', Er T body (ρ ++ vs c) = some (.cont, vs c') ∧ inv c' ∧ m c' < m c) ∨ (∃ q, Er T body (ρ ++ vs c) = some q ∧ q.1 ≠ .cont ∧ Q q)) : ∃ q, Er T (.loop init body) ρ = some q ∧ Q q :=
 loopR (T := T) (body := body) (ρ := ρ) m inv vs Q (fun c hc => by
  rcases h c hc with ⟨c', h2, h3, h4⟩ | ⟨q, h2, h3, h4⟩
  ·exact ⟨_, h2, .inl ⟨rfl, c', h3, h4, rfl⟩⟩
  ·exact ⟨_, h2, .inr ⟨h3, h4⟩⟩) (m c0) c0 (Nat.le_refl _) hi init h0
theorem S_u64 : (∀ {a b : Int}, (Prim.bin .mul).run [u64 a, .int .u64 b] = some [u64 (IntKind.u64.wrap (a * b))]) ∧ (∀ {a b : Int}, (Prim.bin .add).run [u64 a, u64 b] = some [u64 (IntKind.u64.wrap (a + b))]) ∧
  (∀ {a b : Int}, (Prim.bin .add).run [u64 a, .int .u64 b] = some [u64 (IntKind.u64.wrap (a + b))]) ∧ (∀ {a : Int}, (Prim.bin .shr).run [u64 a, .int .u64 40] = some [u64 (a.fdiv (2 ^ 40))]) ∧
  (∀ {a : Int}, (Prim.bin .and).run [u64 a, .int .u64 255] = some [u64 (IntKind.u64.wrap (BitVec.ofInt 64 a &&& BitVec.ofInt 64 255).toNat)]) ∧ (∀ {a : Int}, (Prim.conv .u64).run [i64 a] = some [u64 (IntKind.u64.wrap a)]) ∧
  (∀ {a : Int}, (Prim.conv .i64).run [u64 (IntKind.u64.wrap (BitVec.ofInt 64 a &&& BitVec.ofInt 64 255).toNat)] = some [i64 (lowV a)]) := ⟨u_mul, u_add, u_addc, u_shr, u_and, u_conv, u_low⟩
end Go.Proofs.Ytjoebpmeeampfaa.Rf

namespace Go.Proofs.Ytjoebpmeeampfaa.Rf
set_option linter.unusedVariables false
set_option linter.unusedSimpArgs false
end Go.Proofs.Ytjoebpmeeampfaa.Rf

namespace Go.Proofs.Ytjoebpmeeampfaa.Rf
set_option linter.unusedVariables false
set_option linter.unusedSimpArgs false
theorem atI_app {α : Type} [Inhabited α] {xs ys : List α} {k : Int} (h0 : 0 ≤ k) (h : k < (xs.length : Int)) : atI (xs ++ ys) k = atI xs k := by
 unfold atI
 rw [List.getD_eq_getElem?_getD, List.getD_eq_getElem?_getD, List.getElem?_append_left (by omega)]
theorem atI_rep {α : Type} [Inhabited α] {xs : List α} {a : α} {n : Nat} {k : Int} (h : (xs.length : Int) ≤ k) (h2 : k < (xs.length : Int) + n) : atI (xs ++ List.replicate n a) k = a := by
 unfold atI
 rw [List.getD_eq_getElem?_getD, List.getElem?_append_right (by omega), List.getElem?_replicate_of_lt (by omega)]
 rfl
theorem trow_tset {t : TTable} {rep no : Int} {r : TRow} (h : tabOk t = true) (hi : inst t.n rep no = true) {k i : Int} (hk : inst t.n k i = true) : trow (tset t rep no r) k i = if k = rep ∧ i = no then r else trow t k i := by
 obtain ⟨r1, r2, r3, r4⟩ := inst_rng hi
 obtain ⟨k1, k2, k3, k4⟩ := inst_rng hk
 have hb := tabOk_in h hi
 have hb2 := tabOk_in h hk
 have hl := ext_len (n := t.n) (l := atI t.rows rep) (no := no) (by omega)
 unfold trow
 simp only [tset]
 by_cases hkr : k = rep
 ·subst hkr
  have e : atI (setI t.rows k (setI (ext t.n (atI t.rows k) no) (no - 1) r)) k = setI (ext t.n (atI t.rows k) no) (no - 1) r := S_upd.1 hb
  simp only [e, setI_len, true_and]
  by_cases hin : i = no
  ·subst hin
   rw [if_pos (by omega), if_pos rfl]
   exact S_upd.1 (by unfold InB; omega)
  ·rw [if_neg hin]
   rw [atI_ne (by omega) (by omega) (by omega)]
   by_cases h1 : i ≤ ((atI t.rows k).length : Int)
   ·rw [if_pos (by omega), if_pos h1]
    exact atI_app (by omega) (by omega)
   ·rw [if_neg h1]
    split
    ·exact atI_rep (by omega) (by omega)
    ·rfl
 ·rw [if_neg (fun hc => hkr hc.1)]
  have e : atI (setI t.rows rep (setI (ext t.n (atI t.rows rep) no) (no - 1) r)) k = atI t.rows k := atI_ne (by omega) (by omega) (fun e => hkr e.symm)
  simp only [e]
theorem row0_ok {n : Int} (h : isGrp n = true) : rowOk n (row0 n) = true := by
 have hn := isGrp_rng h
 rcases hn with rfl | rfl <;> decide
theorem tset_ok {t : TTable} {rep no : Int} {r : TRow} (h : tabOk t = true) (hi : inst t.n rep no = true) (hr : rowOk t.n r = true) : tabOk (tset t rep no r) = true := by
 obtain ⟨r1, r2, r3, r4⟩ := inst_rng hi
 have hb := tabOk_in h hi
 have hg := tabOk_grp h
 have hlen := tabOk_len h
 have hl := ext_len (n := t.n) (l := atI t.rows rep) (no := no) (by omega)
 obtain ⟨h6, hrows⟩ := tabOk_rows h (at_memI hb)
 simp only [tabOk, tset, Bool.and_eq_true, List.all_eq_true, beq_iff_eq, decide_eq_true_eq, setI_len]
 refine ⟨⟨hg, hlen⟩, fun l hl2 => ?_⟩
 rcases mem_setI hl2 with hl2 | rfl
 ·obtain ⟨q1, q2⟩ := tabOk_rows h hl2
  exact ⟨q2, by omega⟩
 ·refine ⟨fun x hx => ?_, by rw [setI_len]; omega⟩
  rcases mem_setI hx with hx | rfl
  ·unfold ext at hx
   rcases List.mem_append.1 hx with hx | hx
   ·exact hrows x hx
   ·rw [List.eq_of_mem_replicate hx]
    exact row0_ok hg
  ·exact hr
theorem nb_props {b me : Int} (hb : 0 ≤ b) (h0 : 0 ≤ me) (h1 : me ≤ 7) : b < nb b me ∧ nb b me % 8 = me ∧ 8 ≤ nb b me := by
 unfold nb
 split <;> omega
theorem smTab_ok {t : TTable} (h : tabOk t = true) : smTab t.rows := by
 have hg := isGrp_rng (tabOk_grp h)
 have hl := tabOk_len h
 refine ⟨by omega, fun l hl2 => ?_⟩
 obtain ⟨q1, q2⟩ := tabOk_rows h hl2
 exact ⟨by omega, fun r hr => by have := rowOk_deps (q2 r hr) (tabOk_grp h); omega⟩
def comR (t : TTable) : List (List Int) × Bool := if tabOk t then (comM t.rows, true) else ([], false)
def newR (n : Int) : TTable × Bool := if isGrp n then (⟨n, List.replicate n.toNat []⟩, true) else (⟨0, []⟩, false)
theorem smTab_drawn {rows : List (List TRow)} (h1 : rows.length ≤ 5) (h2 : ∀ l ∈ rows, l.length ≤ 5 ∧ ∀ r ∈ l, r.attr.deps.length ≤ 10) : smTab rows :=
 ⟨by omega, fun l hl => ⟨by have := (h2 l hl).1; omega, fun r hr => by have := (h2 l hl).2 r hr; omega⟩⟩
theorem smTab_new (n : Int) (h : isGrp n = true) : smTab (List.replicate n.toNat ([] : List TRow)) := by
 have := isGrp_rng h
 exact ⟨by rw [List.length_replicate]; omega, fun l hl => by rw [List.eq_of_mem_replicate hl]; exact ⟨by simp, by simp⟩⟩
theorem comR_len (t : TTable) : (comR t).1.length ≤ 100 ∧ ∀ l ∈ (comR t).1, l.length ≤ 10 := by
 unfold comR
 split
 ·rename_i ht
  have hg := isGrp_rng (tabOk_grp ht)
  have hl := tabOk_len ht
  have h6 : ∀ l ∈ t.rows, l.length ≤ 6 := fun l hl => (tabOk_rows ht hl).1
  have := comN_len h6 (Nat.le_refl t.rows.length)
  refine ⟨by show (comN t.rows t.rows.length).length ≤ 100; omega, fun l hl2 => ?_⟩
  have := (comM_spec ht hl2).2.2.1
  omega
 ·simp
end Go.Proofs.Ytjoebpmeeampfaa.Rf
