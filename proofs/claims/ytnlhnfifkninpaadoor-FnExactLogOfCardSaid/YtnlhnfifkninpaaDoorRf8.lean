/- Terms for the program's functions, and that they are right: part 8 of 8. -/
import Derived.Test.YtnlhnfifkninpaaDoorRf7
import Derived.Lib.ItoaNum
set_option linter.unusedSimpArgs false
set_option linter.unusedVariables false
set_option linter.unnecessarySimpa false
set_option linter.unusedSectionVars false
namespace Go.Proofs.YtnlhnfifkninpaaDoor.Rf
set_option linter.unusedVariables false
set_option linter.unusedSimpArgs false
section
variable {T : Nat -> Ent} {β : Type} {α : Type} [Inhabited α]
inductive Rd1 (σ : Type) where
 | go (s : σ)
 | out (r : Kind × List D)
def foldX {σ : Type} (f : Nat -> α -> σ -> Rd1 σ) : Nat -> List α -> σ -> Rd1 σ
 | _, [], s => .go s
 | i, x :: xs, s => match f i x s with
  | .go s' => foldX f (i + 1) xs s'
  | .out r => .out r
def rndK {σ : Type} (vs : Int -> σ -> List D) (i : Int) : Rd1 σ -> Kind × List D
 | .go s => (.cont, vs (i + 1) s)
 | .out r => r
theorem loopX {σ : Type} {body : Tm β} {ρ : List D} {init : List Atom} (xs : List α) (vs : Int -> σ -> List D) (s0 : σ) (f : Nat -> α -> σ -> Rd1 σ) (inv : Nat -> σ -> Prop) (fin : σ -> Kind × List D)
  (h0 : init.map (·.val ρ) = vs 0 s0) (hi : inv 0 s0)
  (h1 : ∀ (i : Nat) s, i < xs.length -> inv i s -> Er T body (ρ ++ vs i s) = some (rndK vs i (f i (atI xs i) s)) /\ (∀ s', f i (atI xs i) s = .go s' -> inv (i + 1) s') /\ ∀ r, f i (atI xs i) s = .out r -> r.1 ≠ .cont)
  (h2 : ∀ s, inv xs.length s -> Er T body (ρ ++ vs xs.length s) = some (fin s) /\ (fin s).1 ≠ .cont) :
  ∃ r, Er T (.loop init body) ρ = some r /\ ((∃ s, foldX f 0 xs s0 = .go s /\ inv xs.length s /\ r = fin s) \/ foldX f 0 xs s0 = .out r) := by
 have key := loopR (T := T) (body := body) (ρ := ρ) (γ := Nat × σ) (fun c => xs.length - c.1) (fun c => c.1 <= xs.length /\ inv c.1 c.2 /\ foldX f c.1 (xs.drop c.1) c.2 = foldX f 0 xs s0) (fun c => vs (c.1 : Int) c.2)
  (fun r => (∃ s, foldX f 0 xs s0 = .go s /\ inv xs.length s /\ r = fin s) \/ foldX f 0 xs s0 = .out r)
  (fun ⟨i, s⟩ ⟨hle, hv, hf⟩ => by
   simp only at hle hv hf ⊢
   rcases Nat.lt_or_ge i xs.length with hlt | hge
   ·obtain ⟨h3, h4, h5⟩ := h1 i s hlt hv
    have hd : xs.drop i = atI xs i :: xs.drop (i + 1) := by
     rw [List.drop_eq_getElem_cons hlt, atI_get hlt]
    rw [hd, foldX] at hf
    refine ⟨_, h3, ?_⟩
    cases e : f i (atI xs i) s with
    | go s' =>
     rw [e] at hf
     exact .inl ⟨rfl, (i + 1, s'), ⟨by simp only; omega, h4 s' e, hf⟩, by simp only; omega, rfl⟩
    | out r =>
     rw [e] at hf
     exact .inr ⟨h5 r e, .inr hf.symm⟩
   ·obtain rfl : i = xs.length := by omega
    obtain ⟨h3, h4⟩ := h2 s hv
    rw [List.drop_length, foldX] at hf
    exact ⟨_, h3, .inr ⟨h4, .inl ⟨s, hf.symm, hv, rfl⟩⟩⟩)
  xs.length (0, s0) (by simp) ⟨by simp, hi, by simp⟩ init h0
 exact key
theorem scanX {body : Tm β} {ρ : List D} (j : Nat) (n : Nat) (p : Nat -> Bool) (r : List D)
  (h1 : ∀ i : Nat, i < n -> p i = true -> Er T body (ρ ++ [i64 i]) = some (.cont, [i64 ((i : Int) + 1)]))
  (h2 : ∀ i : Nat, i < n -> p i = false -> Er T body (ρ ++ [i64 i]) = some (.ret, r))
  (h3 : Er T body (ρ ++ [i64 n]) = some (.yield j, [])) :
  Er T (.loop [.c (i64 0)] body) ρ = forkT (allB p n) (some (.yield j, [])) (some (.ret, r)) := by
 have key := loopR (T := T) (body := body) (ρ := ρ) (fun i => n - i) (fun i => i <= n /\ ∀ j, j < i -> p j = true) (fun i => [i64 (i : Nat)])
  (fun q => (∀ j, j < n -> p j = true) /\ q = (.yield j, []) \/ (∃ j, j < n /\ p j = false) /\ q = (.ret, r))
  (fun i ⟨hi, hall⟩ => by
   rcases Nat.lt_or_ge i n with hlt | hge
   ·cases e : p i with
    | true => exact ⟨_, h1 i hlt e, .inl ⟨rfl, i + 1, ⟨by omega, fun j hj => by
      rcases Nat.lt_or_ge j i with h | h
      ·exact hall j h
      ·obtain rfl : j = i := by omega
       exact e⟩, by omega, rfl⟩⟩
    | false => exact ⟨_, h2 i hlt e, .inr ⟨by simp, .inr ⟨⟨i, hlt, e⟩, rfl⟩⟩⟩
   ·obtain rfl : i = n := by omega
    exact ⟨_, h3, .inr ⟨by simp, .inl ⟨hall, rfl⟩⟩⟩)
  n 0 (by omega) ⟨by omega, fun j hj => by omega⟩ [.c (i64 0)] (by simp [Atom.val])
 obtain ⟨q, h4, h5⟩ := key
 rw [h4]
 rcases h5 with ⟨h6, rfl⟩ | ⟨h6, rfl⟩
 ·rw [allB_true.2 h6]; rfl
 ·rw [allB_false.2 h6]; rfl
theorem allB_all (xs : List α) (p : α -> Bool) : allB (fun i => p (atI xs i)) xs.length = xs.all p := by
 cases e : xs.all p with
 | true =>
  rw [List.all_eq_true] at e
  rw [allB_true]
  intro i hi
  rw [atI_get hi]
  exact e _ (List.getElem_mem hi)
 | false =>
  rw [List.all_eq_false] at e
  obtain ⟨x, hx, hp⟩ := e
  obtain ⟨i, hi, rfl⟩ := List.getElem_of_mem hx
  exact allB_false.2 ⟨i, hi, by rw [atI_get hi]; simpa using hp⟩
theorem allB_eq [DecidableEq α] {xs ys : List α} (hl : xs.length = ys.length) : allB (fun i => decide (atI xs i = atI ys i)) xs.length = decide (xs = ys) := by
 by_cases e : xs = ys
 ·subst e
  rw [decide_eq_true rfl, allB_true]
  exact fun i _ => decide_eq_true rfl
 ·rw [decide_eq_false e]
  cases h : allB (fun i => decide (atI xs i = atI ys i)) xs.length with
  | false => rfl
  | true =>
   rw [allB_true] at h
   refine absurd (List.ext_getElem hl fun i h1 h2 => ?_) e
   have := of_decide_eq_true (h i h1)
   rwa [atI_get h1, atI_get h2] at this
theorem eq_len {xs ys : List α} [DecidableEq α] (h : ¬ xs.length = ys.length) : decide (xs = ys) = false := decide_eq_false fun e => h (by rw [e])
theorem allX {body : Tm β} {ρ : List D} (j : Nat) (xs : List α) (p : α -> Bool) (r : List D)
  (h1 : ∀ i : Nat, i < xs.length -> InB xs (i : Int) -> decide ((i : Int) < xs.length) = true -> p (atI xs i) = true -> Er T body (ρ ++ [i64 i]) = some (.cont, [i64 ((i : Int) + 1)]))
  (h2 : ∀ i : Nat, i < xs.length -> InB xs (i : Int) -> decide ((i : Int) < xs.length) = true -> p (atI xs i) = false -> Er T body (ρ ++ [i64 i]) = some (.ret, r))
  (h3 : decide ((xs.length : Int) < xs.length) = false -> Er T body (ρ ++ [i64 xs.length]) = some (.yield j, [])) :
  Er T (.loop [.c (i64 0)] body) ρ = forkT (xs.all p) (some (.yield j, [])) (some (.ret, r)) := by
 rw [scanX j xs.length (fun i => p (atI xs i)) r (fun i hi hp => h1 i hi (InB_nat.2 hi) (by simp; omega) hp) (fun i hi hp => h2 i hi (InB_nat.2 hi) (by simp; omega) hp) (h3 (by simp)), allB_all]
theorem allF {body : Tm β} {ρ : List D} (j : Nat) (xs : List α) (p : α -> Bool) (r : List D)
  (h1 : ∀ i : Nat, i < xs.length -> InB xs (i : Int) -> decide ((i : Int) < xs.length) = true -> atI xs (i : Int) ∈ xs -> Er T body (ρ ++ [i64 i]) = forkT (p (atI xs i)) (some (.cont, [i64 ((i : Int) + 1)])) (some (.ret, r)))
  (h3 : decide ((xs.length : Int) < xs.length) = false -> Er T body (ρ ++ [i64 xs.length]) = some (.yield j, [])) :
  Er T (.loop [.c (i64 0)] body) ρ = forkT (xs.all p) (some (.yield j, [])) (some (.ret, r)) :=
 allX j xs p r (fun i hi hb hl hp => by rw [h1 i hi hb hl (by rw [atI_get hi]; exact List.getElem_mem hi), hp]; rfl) (fun i hi hb hl hp => by rw [h1 i hi hb hl (by rw [atI_get hi]; exact List.getElem_mem hi), hp]; rfl) h3
def ixF (p : α -> Bool) (xs : List α) : Int := match xs.findIdx? p with
 | some i => i
 | none => -1
omit [Inhabited α] in
theorem ixF_any (p : α -> Bool) (xs : List α) : decide (0 <= ixF p xs) = xs.any p := by
 unfold ixF
 cases h : xs.findIdx? p with
 | none =>
  rw [List.findIdx?_eq_none_iff] at h
  have : xs.any p = false := by
   rw [List.any_eq_false]
   exact fun x hx => by simp [h x hx]
  rw [this]; rfl
 | some i =>
  have : xs.any p = true := by
   rw [List.findIdx?_eq_some_iff_getElem] at h
   obtain ⟨hi, hp, -⟩ := h
   rw [List.any_eq_true]
   exact ⟨_, List.getElem_mem hi, hp⟩
  rw [this]; simp
theorem findX {body : Tm β} {ρ : List D} (j : Nat) (xs : List α) (p : α -> Bool) (rf : Int -> List D)
  (h1 : ∀ i : Nat, i < xs.length -> InB xs (i : Int) -> decide ((i : Int) < xs.length) = true -> p (atI xs i) = true -> Er T body (ρ ++ [i64 i]) = some (.ret, rf i))
  (h2 : ∀ i : Nat, i < xs.length -> InB xs (i : Int) -> decide ((i : Int) < xs.length) = true -> p (atI xs i) = false -> Er T body (ρ ++ [i64 i]) = some (.cont, [i64 ((i : Int) + 1)]))
  (h3 : decide ((xs.length : Int) < xs.length) = false -> Er T body (ρ ++ [i64 xs.length]) = some (.yield j, [])) :
  Er T (.loop [.c (i64 0)] body) ρ = forkT (xs.any p) (some (.ret, rf (ixF p xs))) (some (.yield j, [])) := by
 have hall : ∀ (i : Nat) (ys : List α), foldX (fun (i : Nat) x (_ : Unit) => if p x then Rd1.out (.ret, rf i) else .go ()) i ys () = match ys.findIdx? p with | some k => .out (.ret, rf ((i + k : Nat) : Int)) | none => .go () := by
  intro i ys
  induction ys generalizing i with
  | nil => rfl
  | cons y ys ih =>
   rw [foldX, List.findIdx?_cons]
   cases p y with
   | true => simp
   | false =>
    simp only [Bool.false_eq_true, if_false]
    rw [ih (i + 1)]
    cases ys.findIdx? p with
    | none => rfl
    | some k => simp only [Option.map_some]; congr 4; omega
 obtain ⟨q, h4, h5⟩ := loopX (T := T) (body := body) (ρ := ρ) (init := [.c (i64 0)]) xs (fun i (_ : Unit) => [i64 i]) () (fun i x _ => if p x then .out (.ret, rf i) else .go ()) (fun _ _ => True) (fun _ => (.yield j, [])) rfl trivial
  (fun i _ hi _ => by
   cases e : p (atI xs i) with
   | true => exact ⟨by rw [h1 i hi (InB_nat.2 hi) (by simp; omega) e]; rfl, fun _ _ => trivial, fun r h => by simp at h; rw [<- h]; simp⟩
   | false => exact ⟨by rw [h2 i hi (InB_nat.2 hi) (by simp; omega) e]; rfl, fun _ _ => trivial, fun r h => by simp at h⟩)
  (fun _ _ => ⟨h3 (by simp), by simp⟩)
 rw [h4, <- ixF_any]
 rw [hall] at h5
 unfold ixF
 cases e : xs.findIdx? p with
 | none =>
  rw [e] at h5
  rcases h5 with ⟨s, -, -, rfl⟩ | h5
  ·rfl
  ·simp at h5
 | some k =>
  rw [e] at h5
  rcases h5 with ⟨s, h5, -⟩ | h5
  ·simp at h5
  ·simp only [Nat.zero_add, Rd1.out.injEq] at h5
   rw [<- h5]
   simp [forkT]
theorem at_mem {xs : List α} {i : Nat} (h : i < xs.length) : atI xs (i : Int) ∈ xs := by rw [atI_get h]; exact List.getElem_mem h
omit [Inhabited α] in
theorem whileE {γ : Type} {body : Tm β} {ρ : List D} {init : List Atom} (r : Kind × List D) (m : γ -> Nat) (inv : γ -> Prop) (vs : γ -> List D) (c0 : γ) (h0 : init.map (·.val ρ) = vs c0) (hi : inv c0) (hr : r.1 ≠ .cont)
  (h : ∀ c, inv c -> (∃ c', Er T body (ρ ++ vs c) = some (.cont, vs c') /\ inv c' /\ m c' < m c) \/ Er T body (ρ ++ vs c) = some r) : Er T (.loop init body) ρ = some r := by
 obtain ⟨q, h1, rfl⟩ := loopR (T := T) (body := body) (ρ := ρ) m inv vs (fun q => q = r)
  (fun c hc => by
   rcases h c hc with ⟨c', h2, h3, h4⟩ | h2
   ·exact ⟨_, h2, .inl ⟨rfl, c', h3, h4, rfl⟩⟩
   ·exact ⟨_, h2, .inr ⟨hr, rfl⟩⟩) (m c0) c0 (Nat.le_refl _) hi init h0
 exact h1
end
theorem take_at {α : Type} [Inhabited α] {xs : List α} {i : Nat} (h : i < xs.length) : xs.take i ++ [atI xs (i : Int)] = xs.take (i + 1) := by rw [List.take_succ_eq_append_getElem h, atI_get h]
theorem SQ : (∀ {a b : Int}, -9223372036854775808 <= a + b -> a + b <= 9223372036854775807 -> (Prim.bin .add).run [i64 a, i64 b] = some [i64 (a + b)]) /\
  (∀ {a b : Int}, -9223372036854775808 <= a - b -> a - b <= 9223372036854775807 -> (Prim.bin .sub).run [i64 a, i64 b] = some [i64 (a - b)]) /\
  (∀ {a b : Int}, 0 <= a -> a <= 9223372036854775807 -> 0 < b -> (Prim.bin .quo).run [i64 a, i64 b] = some [i64 (a / b)]) /\ (∀ {a b : Int}, 0 <= a -> 0 < b -> (Prim.bin .rem).run [i64 a, i64 b] = some [i64 (a % b)]) :=
 ⟨run_add, run_sub, run_quoI, run_remI⟩
end Go.Proofs.YtnlhnfifkninpaaDoor.Rf

namespace Go.Proofs.YtnlhnfifkninpaaDoor.Rf
set_option linter.unusedVariables false
set_option linter.unusedSimpArgs false
def szL {α : Type} (f : α -> Nat) (xs : List α) : Nat := xs.length + (xs.map f).sum
def szR (l : Int) (n : Nat) : Int := if (n : Int) <= l then l - n else -1
theorem szL_cons {α : Type} {f : α -> Nat} {x : α} {xs : List α} : szL f (x :: xs) = 1 + f x + szL f xs := by simp [szL]; omega
theorem szL_mem {α : Type} {f : α -> Nat} : ∀ {xs : List α} {x : α}, x ∈ xs -> 1 + f x <= szL f xs
 | [], x, h => by cases h
 | y :: ys, x, h => by
  rw [szL_cons]
  rcases List.mem_cons.1 h with rfl | h
  ·omega
  ·have := szL_mem (f := f) h
   omega
theorem szL_zero {α : Type} {xs : List α} : szL (fun _ => 0) xs = xs.length := by
 have : ∀ xs : List α, (xs.map fun _ => 0).sum = 0 := fun xs => by
  induction xs with
  | nil => rfl
  | cons x xs ih => simp only [List.map_cons, List.sum_cons, ih]
 rw [szL, this]; rfl
theorem szL_len {α : Type} {f : α -> Nat} {xs : List α} : xs.length <= szL f xs := by unfold szL; omega
section
variable {T : Nat -> Ent} {β : Type} {α : Type} [Inhabited α]
theorem szLoop {body : Tm β} {ρ : List D} {a : Atom} (xs : List α) (f : α -> Nat) (l : Int) (h0 : a.val ρ = i64 l) (hl : 0 <= l) (hl' : l <= 1048576)
  (h1 : ∀ (i : Nat) (m : Int), i < xs.length -> InB xs (i : Int) -> decide ((i : Int) < xs.length) = true -> 0 <= m -> m <= 1048576 -> (f (atI xs i) : Int) <= m -> szR m (f (atI xs i)) = m - f (atI xs i) -> decide (m - (f (atI xs i) : Int) < 0) = false -> Er T body (ρ ++ [i64 m, i64 i]) = some (.cont, [i64 (m - f (atI xs i)), i64 ((i : Int) + 1)]))
  (h2 : ∀ (i : Nat) (m : Int), i < xs.length -> InB xs (i : Int) -> decide ((i : Int) < xs.length) = true -> 0 <= m -> m <= 1048576 -> m < f (atI xs i) -> szR m (f (atI xs i)) = -1 -> decide ((-1 : Int) < 0) = true -> Er T body (ρ ++ [i64 m, i64 i]) = some (.ret, [i64 (-1)]))
  (h3 : ∀ m : Int, decide ((xs.length : Int) < xs.length) = false -> Er T body (ρ ++ [i64 m, i64 xs.length]) = some (.yield 1, [i64 m])) :
  Er T (.loop [a, .c (i64 0)] body) ρ = forkT (decide (((xs.map f).sum : Int) <= l)) (some (.yield 1, [i64 (l - (xs.map f).sum)])) (some (.ret, [i64 (-1)])) := by
 have hall : ∀ (ys : List α) (i : Nat) (m : Int), 0 <= m -> foldX (fun (_ : Nat) x (m : Int) => if (f x : Int) <= m then Rd1.go (m - f x) else .out (.ret, [i64 (-1)])) i ys m = if ((ys.map f).sum : Int) <= m then .go (m - (ys.map f).sum) else .out (.ret, [i64 (-1)]) := by
  intro ys
  induction ys with
  | nil =>
   intro i m hm
   simp only [foldX, List.map_nil, List.sum_nil]
   rw [if_pos (by simpa using hm)]
   simp
  | cons y ys ih =>
   intro i m hm
   simp only [foldX, List.map_cons, List.sum_cons]
   by_cases h : (f y : Int) <= m
   ·rw [if_pos h]
    simp only
    rw [ih (i + 1) _ (by omega)]
    by_cases h4 : ((ys.map f).sum : Int) <= m - f y
    ·rw [if_pos h4, if_pos (by omega)]
     congr 1
     omega
    ·rw [if_neg h4, if_neg (by omega)]
   ·rw [if_neg h]
    simp only
    rw [if_neg (by omega)]
 obtain ⟨q, h4, h5⟩ := loopX (T := T) (body := body) (ρ := ρ) (init := [a, .c (i64 0)]) xs (fun i (m : Int) => [i64 m, i64 i]) l (fun _ x m => if (f x : Int) <= m then .go (m - f x) else .out (.ret, [i64 (-1)])) (fun _ m => 0 <= m /\ m <= 1048576) (fun m => (.yield 1, [i64 m])) (by show [a.val ρ, _] = _; rw [h0]; rfl) ⟨hl, hl'⟩
  (fun i m hi hm => by
   by_cases e : (f (atI xs i) : Int) <= m
   ·rw [if_pos e]
    refine ⟨h1 i m hi (InB_nat.2 hi) (by simp; omega) hm.1 hm.2 e (by rw [szR, if_pos e]) (by simp; omega), fun s' h => ?_, fun r h => by cases h⟩
    simp only [Rd1.go.injEq] at h
    omega
   ·rw [if_neg e]
    refine ⟨h2 i m hi (InB_nat.2 hi) (by simp; omega) hm.1 hm.2 (by omega) (by rw [szR, if_neg e]) rfl, fun s' h => by simp at h, fun r h => ?_⟩
    simp only [Rd1.out.injEq] at h
    rw [<- h]; simp)
  (fun m hm => ⟨h3 m (by simp), by simp⟩)
 rw [h4]
 rw [hall xs 0 l hl] at h5
 by_cases h : ((xs.map f).sum : Int) <= l
 ·rw [if_pos h] at h5
  rw [decide_eq_true h]
  rcases h5 with ⟨s, h5, -, rfl⟩ | h5
  ·simp only [Rd1.go.injEq] at h5
   rw [<- h5]; rfl
  ·cases h5
 ·rw [if_neg h] at h5
  rw [decide_eq_false h]
  rcases h5 with ⟨s, h5, -⟩ | h5
  ·cases h5
  ·simp only [Rd1.out.injEq] at h5
   rw [<- h5]; rfl
theorem toLoop {body : Tm β} {ρ : List D} {a : Atom} [Enc α] (xs : List α) (h0 : a.val ρ = rL (List.replicate xs.length (default : α)))
  (h1 : ∀ (i : Nat) (ys : List α), i < xs.length -> InB xs (i : Int) -> InB ys (i : Int) -> decide ((i : Int) < xs.length) = true -> Er T body (ρ ++ [rL ys, i64 i]) = some (.cont, [rL (setI ys i (atI xs i)), i64 ((i : Int) + 1)]))
  (h2 : ∀ ys : List α, decide ((xs.length : Int) < xs.length) = false -> Er T body (ρ ++ [rL ys, i64 xs.length]) = some (.yield 1, [rL ys])) :
  Er T (.loop [a, .c (i64 0)] body) ρ = some (.yield 1, [rL xs]) := by
 have key := loopR (T := T) (body := body) (ρ := ρ) (fun i => xs.length - i) (fun i => i <= xs.length) (fun i => [rL (upto default xs i), i64 (i : Nat)]) (fun q => q = (.yield 1, [rL xs]))
  (fun i hi => by
   rcases Nat.lt_or_ge i xs.length with hlt | hge
   ·refine ⟨_, h1 i (upto default xs i) hlt (InB_nat.2 hlt) (InB_nat.2 (by rw [upto_len _ _ hi]; exact hlt)) (by simp; omega), .inl ⟨rfl, i + 1, by omega, by omega, ?_⟩⟩
    have : setI (upto default xs i) (i : Int) (atI xs i) = upto default xs (i + 1) := by
     rw [setI]
     exact upto_set default xs (by rw [atI_get hlt]; exact List.getElem?_eq_getElem hlt)
    rw [this]; simp
   ·obtain rfl : i = xs.length := by omega
    refine ⟨_, h2 _ (by simp), .inr ⟨by simp, ?_⟩⟩
    rw [upto_all])
  xs.length 0 (by omega) (by omega) [a, .c (i64 0)] (by show [a.val ρ, _] = _; rw [h0, upto_zero]; rfl)
 obtain ⟨q, h4, rfl⟩ := key
 exact h4
def ctL {α : Type} (c : α -> Nat) (xs : List α) : Nat := (xs.map c).sum
end
theorem ctL_le {α : Type} {c f : α -> Nat} {m : Nat} (hm : 1 <= m) (h : ∀ x, c x <= m + m * f x) : ∀ xs : List α, ctL c xs <= m * szL f xs
 | [] => by simp [ctL]
 | x :: xs => by
  have ih := ctL_le hm h xs
  have h1 := h x
  rw [szL_cons]
  simp only [ctL, List.map_cons, List.sum_cons] at ih ⊢
  rw [Nat.mul_add, Nat.mul_add]
  omega
theorem lt0 {k : Int} (h : 0 <= k) : decide (k < 0) = false := by simp; omega
theorem ltm1 : decide ((-1 : Int) < 0) = true := rfl
theorem WT_rL {α : Type} [Enc α] {tys : List Ty} {bytes : Nat} {P : α -> Prop} {d : D} (hs : tys.length = Enc.sz α) (hd : ∀ ds, WTs tys ds -> ∃ a : α, ds = Enc.enc a /\ P a) (h : WT (.sl bytes tys) d) : ∃ xs : List α, d = rL xs /\ xs.length * bytes <= reachBytes /\ ∀ x ∈ xs, P x := by
 simp only [WT] at h
 obtain ⟨rs, rfl, h1, h2⟩ := h
 have key : ∀ rs : List (List D), (∀ r ∈ rs, WTs tys r) -> ∃ xs : List α, rs = xs.map Enc.enc /\ ∀ x ∈ xs, P x := by
  intro rs
  induction rs with
  | nil => exact fun _ => ⟨[], rfl, by simp⟩
  | cons r rs ih =>
   intro h
   obtain ⟨xs, hx, hp⟩ := ih fun r hr => h r (List.mem_cons_of_mem _ hr)
   obtain ⟨a, ha, hpa⟩ := hd r (h r List.mem_cons_self)
   exact ⟨a :: xs, by rw [hx, ha]; rfl, by simpa using ⟨hpa, hp⟩⟩
 obtain ⟨xs, rfl, hp⟩ := key rs h2
 exact ⟨xs, by rw [hs]; rfl, by simpa using h1, hp⟩
theorem WT_int {d : D} (h : WT (.int .i64) d) : ∃ n : Int, d = i64 n /\ -9223372036854775808 <= n /\ n <= 9223372036854775807 := by
 obtain ⟨n, rfl, h1, h2⟩ := h
 exact ⟨n, rfl, h1, h2⟩
theorem reach_len {n b : Nat} (h : n * b <= reachBytes) (hb : 0 < b) : n <= reachBytes := Nat.le_trans (Nat.le_mul_of_pos_right n hb) h
end Go.Proofs.YtnlhnfifkninpaaDoor.Rf

namespace Go.Proofs.YtnlhnfifkninpaaDoor.Rf
set_option linter.unusedVariables false
set_option linter.unusedSimpArgs false
theorem dec_int (ds : List D) (h : WTs [.int .i64] ds) : ∃ x : Int, ds = Enc.enc x /\ True := by
 simp only [WTs] at h
 obtain ⟨d, r, rfl, w, rfl⟩ := h
 obtain ⟨x, rfl, -, -⟩ := WT_int w
 exact ⟨x, rfl, trivial⟩
def ct_TCmd (x : TCmd) : Nat := 1 + 1 + 1 + 1 + 1
theorem ctu_TCmd (x : TCmd) : ct_TCmd x = 5 := by
 unfold ct_TCmd
 try omega
def sz_TAttr (x : TAttr) : Nat := szL (fun _ => 0) x.deps
def wf_TAttr (x : TAttr) : Prop := (x.deps.length <= 140737488351232)
def ct_TAttr (x : TAttr) : Nat := 1 + ctL (fun _ => 1) x.deps
theorem ctu_TAttr (x : TAttr) : ct_TAttr x = 1 + ctL (fun _ => 1) x.deps := by
 unfold ct_TAttr
 try omega
theorem szu_TAttr (x : TAttr) : sz_TAttr x = x.deps.length := by
 unfold sz_TAttr
 simp only [szL_zero]
 try omega
def sz_TRow (x : TRow) : Nat := sz_TAttr x.attr
def wf_TRow (x : TRow) : Prop := (wf_TAttr x.attr)
def ct_TRow (x : TRow) : Nat := 1 + 1 + 1 + ct_TCmd x.cmd + ct_TAttr x.attr
theorem ctu_TRow (x : TRow) : ct_TRow x = 9 + ctL (fun _ => 1) x.attr.deps := by
 unfold ct_TRow
 simp only [ctu_TCmd]
 simp only [ctu_TAttr]
 try omega
theorem szu_TRow (x : TRow) : sz_TRow x = x.attr.deps.length := by
 unfold sz_TRow
 simp only [szL_zero, szu_TAttr]
 try omega
theorem ctb_TRow (x : TRow) : ct_TRow x <= 16 + 16 * sz_TRow x := by
 have h0 := ctL_le (c := (fun _ => 1)) (f := (fun _ => 0)) (m := 16) (by omega) (fun _ => by simp) x.attr.deps
 rw [ctu_TRow, szu_TRow]
 try simp only [szL_zero] at *
 omega
theorem dec_TRow (ds : List D) (h : WTs [.int .i64, .int .i64, .int .i64, .int .i64, .int .i64, .int .i64, .int .i64, .int .i64, .int .i64, .sl 8 [.int .i64]] ds) : ∃ x : TRow, ds = Enc.enc x /\ wf_TRow x := by
 simp only [WTs] at h
 obtain ⟨d0, r0, rfl, w0, d1, r1, rfl, w1, d2, r2, rfl, w2, d3, r3, rfl, w3, d4, r4, rfl, w4, d5, r5, rfl, w5, d6, r6, rfl, w6, d7, r7, rfl, w7, d8, r8, rfl, w8, d9, r9, rfl, w9, rfl⟩ := h
 obtain ⟨x0, rfl, -, -⟩ := WT_int w0
 obtain ⟨x1, rfl, -, -⟩ := WT_int w1
 obtain ⟨x2, rfl, -, -⟩ := WT_int w2
 obtain ⟨x3, rfl, -, -⟩ := WT_int w3
 obtain ⟨x4, rfl, -, -⟩ := WT_int w4
 obtain ⟨x5, rfl, -, -⟩ := WT_int w5
 obtain ⟨x6, rfl, -, -⟩ := WT_int w6
 obtain ⟨x7, rfl, -, -⟩ := WT_int w7
 obtain ⟨x8, rfl, -, -⟩ := WT_int w8
 obtain ⟨x9, rfl, l9, p9⟩ := WT_rL (α := Int) (P := fun _ => True) rfl dec_int w9
 exact ⟨⟨x0, x1, x2, ⟨x3, x4, x5, x6, x7⟩, ⟨x8, x9⟩⟩, rfl, reach_len l9 (by decide)⟩
theorem dec_LTRow (ds : List D) (h : WTs [.sl 96 [.int .i64, .int .i64, .int .i64, .int .i64, .int .i64, .int .i64, .int .i64, .int .i64, .int .i64, .sl 8 [.int .i64]]] ds) : ∃ x : (List TRow), ds = Enc.enc x /\ x.length <= 140737488351232 /\ ∀ y0 ∈ x, wf_TRow y0 := by
 simp only [WTs] at h
 obtain ⟨d, r, rfl, w, rfl⟩ := h
 obtain ⟨x, rfl, l, p⟩ := WT_rL (α := TRow) (P := fun y => wf_TRow y) rfl dec_TRow w
 exact ⟨x, rfl, ⟨reach_len l (by decide), p⟩⟩
def sz_TTable (x : TTable) : Nat := szL (szL sz_TRow) x.rows
def wf_TTable (x : TTable) : Prop := (x.rows.length <= 140737488351232 /\ ∀ y0 ∈ x.rows, y0.length <= 140737488351232 /\ ∀ y1 ∈ y0, wf_TRow y1)
theorem szu_TTable (x : TTable) : sz_TTable x = szL (szL sz_TRow) x.rows := by
 unfold sz_TTable
 simp only [szL_zero]
 try omega
theorem dec_TTable (ds : List D) (h : WTs [.int .i64, .sl 24 [.sl 96 [.int .i64, .int .i64, .int .i64, .int .i64, .int .i64, .int .i64, .int .i64, .int .i64, .int .i64, .sl 8 [.int .i64]]]] ds) : ∃ x : TTable, ds = Enc.enc x /\ wf_TTable x := by
 simp only [WTs] at h
 obtain ⟨d0, r0, rfl, w0, d1, r1, rfl, w1, rfl⟩ := h
 obtain ⟨x0, rfl, -, -⟩ := WT_int w0
 obtain ⟨x1, rfl, l1, p1⟩ := WT_rL (α := (List TRow)) (P := fun y => y.length <= 140737488351232 /\ ∀ y0 ∈ y, wf_TRow y0) rfl (dec_LTRow) w1
 exact ⟨⟨x0, x1⟩, rfl, ⟨reach_len l1 (by decide), p1⟩⟩
end Go.Proofs.YtnlhnfifkninpaaDoor.Rf

namespace Go.Proofs.YtnlhnfifkninpaaDoor.Rf
set_option linter.unusedVariables false
set_option linter.unusedSimpArgs false
theorem SZ : (∀ b : Bool, (b && true) = b) /\ (∀ b : Bool, (true && b) = b) /\ (∀ b : Bool, (b && false) = false) /\ (∀ b : Bool, (false && b) = false) /\
  (∀ b : Bool, (b || true) = true) /\ (∀ b : Bool, (true || b) = true) /\ (∀ b : Bool, (b || false) = b) /\ (∀ b : Bool, (false || b) = b) /\ ((!true) = false) /\ ((!false) = true) :=
 ⟨Bool.and_true, Bool.true_and, Bool.and_false, Bool.false_and, Bool.or_true, Bool.true_or, Bool.or_false, Bool.false_or, rfl, rfl⟩
theorem fork_in {γ : Type} {a r : γ} (h : forkT true a r = r) : a = r := h
theorem S0 : type_of% (And.intro Bool.false_eq_true (And.intro @ite_true.{1} (And.intro @ite_false.{1} (And.intro @SA (And.intro @SB (And.intro @SC (And.intro @SP (And.intro @SQ (And.intro @SZ (And.intro @beq_self_eq_true.{0} (And.intro @decide_true (And.intro @decide_false (And.intro @cast1 @S_eta))))))))))))) := And.intro Bool.false_eq_true (And.intro @ite_true.{1} (And.intro @ite_false.{1} (And.intro @SA (And.intro @SB (And.intro @SC (And.intro @SP (And.intro @SQ (And.intro @SZ (And.intro @beq_self_eq_true.{0} (And.intro @decide_true (And.intro @decide_false (And.intro @cast1 @S_eta))))))))))))
theorem bool_fin {x y : Bool} (h : x = true ↔ y = true) : some [D.bool x] = some [D.bool y] := by rw [Bool.eq_iff_iff.2 h]
def isGrp (n : Int) : Bool := n == 3 || n == 5
theorem isGrp_rng {n : Int} (h : isGrp n = true) : n = 3 \/ n = 5 := by simpa [isGrp] using h
def inst (n rep no : Int) : Bool := inR rep 0 (n - 1) && inR no 1 6
def cmdOk (c : TCmd) : Bool :=
 if c.kind == 0 then decide (c = ⟨0, 0, 0, 0, 0⟩) else if c.kind == 1 then inR c.id 1 999 && inR c.src 0 3 && inR c.dst 0 3 && !(c.src == c.dst) && inR c.amt 1 1000
 else c.kind == 2 && inR c.id 1 999 && inR c.src 0 3 && c.dst == 0 && c.amt == 0
def cmdCode (c : TCmd) : Int :=
 if !inR c.src 0 3 || (c.kind == 1 && !inR c.dst 0 3) then 4 else if c.kind == 1 && c.src == c.dst then 5 else if !inR c.id 1 999 || (c.kind == 1 && !inR c.amt 1 1000) then 6 else 0
def attrOk (n : Int) (a : TAttr) : Bool := inR a.seq 0 999 && (a.deps.length : Int) == n && a.deps.all fun x => inR x 0 6
def none0 (n : Int) : TAttr := ⟨0, List.replicate n.toNat 0⟩
def rowOk (n : Int) (r : TRow) : Bool :=
 inR r.ballot 0 9999 && inR r.vote 0 r.ballot && inR r.state 0 3 && (if r.state == 0 then r.vote == 0 && decide (r.cmd = ⟨0, 0, 0, 0, 0⟩) && decide (r.attr = none0 n) else cmdOk r.cmd && attrOk n r.attr)
theorem none0_ok {n : Int} (h : isGrp n = true) : attrOk n (none0 n) = true := by
 rcases isGrp_rng h with rfl | rfl <;> rfl
theorem cmdZ_ok {c : TCmd} (h : decide (c = ⟨0, 0, 0, 0, 0⟩) = true) : cmdOk c = true := by
 rw [of_decide_eq_true h]; rfl
theorem cmdCode0 {c : TCmd} : (cmdCode c == 0) = (inR c.src 0 3 && inR c.id 1 999 && (!(c.kind == 1) || (inR c.dst 0 3 && !(c.src == c.dst) && inR c.amt 1 1000))) := by
 unfold cmdCode
 cases inR c.src 0 3 <;> cases inR c.id 1 999 <;> cases c.kind == 1 <;> cases inR c.dst 0 3 <;> cases c.src == c.dst <;> cases inR c.amt 1 1000 <;> rfl
def smRows (xs : List TRow) : Prop := xs.length <= 10000000000 /\ ∀ r ∈ xs, r.attr.deps.length <= 10000000000
def smTab (rows : List (List TRow)) : Prop := rows.length <= 10000000000 /\ ∀ l ∈ rows, smRows l
theorem sz_row (r : TRow) : sz_TRow r = r.attr.deps.length := szL_zero
theorem smRows_of {xs : List TRow} (h : szL sz_TRow xs <= 1048576) : smRows xs := by
 refine ⟨Nat.le_trans (szL_len (f := sz_TRow)) (by omega), fun r hr => ?_⟩
 have h1 := szL_mem (f := sz_TRow) hr
 rw [sz_row] at h1
 omega
theorem smTab_of {rows : List (List TRow)} (h : szL (szL sz_TRow) rows <= 1048576) : smTab rows := by
 refine ⟨Nat.le_trans (szL_len (f := szL sz_TRow)) (by omega), fun l hl => smRows_of ?_⟩
 have h1 := szL_mem (f := szL sz_TRow) hl
 omega
def tabOk (t : TTable) : Bool := isGrp t.n && (t.rows.length : Int) == t.n && t.rows.all fun l => l.all (fun r => rowOk t.n r) && decide ((l.length : Int) <= 6)
def row0 (n : Int) : TRow := ⟨0, 0, 0, ⟨0, 0, 0, 0, 0⟩, none0 n⟩
theorem inst_rng {n rep no : Int} (h : inst n rep no = true) : 0 <= rep /\ rep <= n - 1 /\ 1 <= no /\ no <= 6 := by
 simp only [inst, inR, Bool.and_eq_true, decide_eq_true_eq] at h
 omega
theorem tabOk_grp {t : TTable} (h : tabOk t = true) : isGrp t.n = true := by
 simp only [tabOk, Bool.and_eq_true] at h; exact h.1.1
theorem tabOk_len {t : TTable} (h : tabOk t = true) : (t.rows.length : Int) = t.n := by
 simp only [tabOk, Bool.and_eq_true, beq_iff_eq] at h; exact h.1.2
theorem tabOk_rows {t : TTable} (h : tabOk t = true) {l : List TRow} (hl : l ∈ t.rows) : l.length <= 6 /\ ∀ r ∈ l, rowOk t.n r = true := by
 simp only [tabOk, Bool.and_eq_true, List.all_eq_true, decide_eq_true_eq] at h
 have := h.2 l hl
 exact ⟨by omega, this.1⟩
theorem rowOk_cmd {n : Int} {r : TRow} (h : rowOk n r = true) : cmdOk r.cmd = true := by
 simp only [rowOk, Bool.and_eq_true] at h
 have h3 := h.2
 split at h3
 ·simp only [Bool.and_eq_true] at h3
  exact cmdZ_ok h3.1.2
 ·simp only [Bool.and_eq_true] at h3
  exact h3.1
def ext (n : Int) (l : List TRow) (no : Int) : List TRow := l ++ List.replicate (no - l.length).toNat (row0 n)
def nb (b me : Int) : Int := if b < 8 + me then 8 + me else b + 1 + (me - b - 1) % 8
end Go.Proofs.YtnlhnfifkninpaaDoor.Rf

namespace Go.Proofs.YtnlhnfifkninpaaDoor.Rf
set_option linter.unusedVariables false
set_option linter.unusedSimpArgs false
end Go.Proofs.YtnlhnfifkninpaaDoor.Rf

namespace Go.Proofs.YtnlhnfifkninpaaDoor.Rf
set_option linter.unusedVariables false
set_option linter.unusedSimpArgs false
end Go.Proofs.YtnlhnfifkninpaaDoor.Rf

namespace Go.Proofs.YtnlhnfifkninpaaDoor.Rf
set_option linter.unusedVariables false
set_option linter.unusedSimpArgs false
end Go.Proofs.YtnlhnfifkninpaaDoor.Rf

namespace Go.Proofs.YtnlhnfifkninpaaDoor.Rf
set_option linter.unusedVariables false
set_option linter.unusedSimpArgs false
end Go.Proofs.YtnlhnfifkninpaaDoor.Rf

namespace Go.Proofs.YtnlhnfifkninpaaDoor.Rf
set_option linter.unusedVariables false
set_option linter.unusedSimpArgs false
section
variable {T : Nat -> Ent} {β : Type}
end
end Go.Proofs.YtnlhnfifkninpaaDoor.Rf

namespace Go.Proofs.YtnlhnfifkninpaaDoor.Rf
set_option linter.unusedVariables false
set_option linter.unusedSimpArgs false
end Go.Proofs.YtnlhnfifkninpaaDoor.Rf

namespace Go.Proofs.YtnlhnfifkninpaaDoor.Rf
set_option linter.unusedVariables false
set_option linter.unusedSimpArgs false
end Go.Proofs.YtnlhnfifkninpaaDoor.Rf

namespace Go.Proofs.YtnlhnfifkninpaaDoor.Rf
set_option linter.unusedVariables false
set_option linter.unusedSimpArgs false
def u64 (n : Int) : D := .int .u64 n
theorem u8_conv {a : Int} (h0 : 0 <= a) (h1 : a <= 255) : (Prim.conv .i64).run [.int .u8 a] = some [i64 a] := by
 show some [D.int .i64 (IntKind.i64.wrap a)] = _
 rw [wrap_i64 (by omega) (by omega)]
end Go.Proofs.YtnlhnfifkninpaaDoor.Rf

namespace Go.Proofs.YtnlhnfifkninpaaDoor.Rf
set_option linter.unusedVariables false
set_option linter.unusedSimpArgs false
theorem attrOk_of {n : Int} {a : TAttr} (h1 : 0 <= a.seq /\ a.seq <= 999) (h2 : (a.deps.length : Int) = n) (h3 : ∀ k : Nat, k < a.deps.length -> 0 <= atI a.deps (k : Int) /\ atI a.deps (k : Int) <= 6) : attrOk n a = true := by
 simp only [attrOk, Bool.and_eq_true, beq_iff_eq, List.all_eq_true]
 refine ⟨⟨by simp [inR, h1], h2⟩, fun x hx => ?_⟩
 obtain ⟨k, hk, rfl⟩ := List.getElem_of_mem hx
 have := h3 k hk
 rw [atI_get hk] at this
 simp [inR, this]
theorem rowOk_attr {n : Int} {r : TRow} (h : rowOk n r = true) (hg : isGrp n = true) : attrOk n r.attr = true := by
 simp only [rowOk, Bool.and_eq_true] at h
 have h3 := h.2
 have hn := isGrp_rng hg
 split at h3
 ·simp only [Bool.and_eq_true, decide_eq_true_eq] at h3
  rw [h3.2]
  refine attrOk_of (by simp [none0]) (by simp [none0]; omega) fun k hk => ?_
  rw [atI_get hk]
  simp [none0]
 ·simp only [Bool.and_eq_true] at h3
  exact h3.2
end Go.Proofs.YtnlhnfifkninpaaDoor.Rf

namespace Go.Proofs.YtnlhnfifkninpaaDoor.Rf
set_option linter.unusedVariables false
set_option linter.unusedSimpArgs false
end Go.Proofs.YtnlhnfifkninpaaDoor.Rf

namespace Go.Proofs.YtnlhnfifkninpaaDoor.Rf
set_option linter.unusedVariables false
set_option linter.unusedSimpArgs false
end Go.Proofs.YtnlhnfifkninpaaDoor.Rf

namespace Go.Proofs.YtnlhnfifkninpaaDoor.Rf
set_option linter.unusedVariables false
set_option linter.unusedSimpArgs false
def joinB (b : UInt8) : List (List UInt8) -> List UInt8
 | [] => []
 | [w] => w
 | w :: v :: ws => w ++ b :: joinB b (v :: ws)
def numD (n : Nat) : List UInt8 := if n < 10 then [UInt8.ofNat (48 + n)] else numD (n / 10) ++ [UInt8.ofNat (48 + n % 10)]
termination_by n
decreasing_by omega
theorem numD_lt {n : Nat} (h : n < 10) : numD n = [UInt8.ofNat (48 + n)] := by rw [numD, if_pos h]
theorem numD_ge {n : Nat} (h : 10 <= n) : numD n = numD (n / 10) ++ [UInt8.ofNat (48 + n % 10)] := by rw [numD, if_neg (by omega)]
def u8 (c : UInt8) : D := .int .u8 (c.toNat : Nat)
theorem t_slen {s : List UInt8} : Prim.slen.run [.str s] = some [i64 s.length] := rfl
theorem t_sidx {s : List UInt8} {k : Int} (h0 : 0 <= k) (h1 : k < s.length) : Prim.sidx.run [.str s, i64 k] = some [u8 (atI s k)] := by
 have hk : k.toNat < s.length := by omega
 show (if 0 <= k then match s[k.toNat]? with
  | some b => some [D.int .u8 b.toNat]
  | none => none else none) = _
 rw [if_pos h0, List.getElem?_eq_getElem hk]
 unfold atI u8
 rw [List.getD_eq_getElem?_getD, List.getElem?_eq_getElem hk]
 rfl
theorem t_add {a b : List UInt8} (h : a.length + b.length <= 4611686018427387904) : (Prim.bin .add).run [.str a, .str b] = some [.str (a ++ b)] := by
 show ((if a.length + b.length <= 4611686018427387904 then some (D.str (a ++ b)) else none).map fun d => [d]) = _
 rw [if_pos h]
 rfl
theorem t_ne {a b : List UInt8} : (Prim.bin .neq).run [.str a, .str b] = some [.bool (!(a == b))] := rfl
end Go.Proofs.YtnlhnfifkninpaaDoor.Rf

namespace Go.Proofs.YtnlhnfifkninpaaDoor.Rf
set_option linter.unusedVariables false
set_option linter.unusedSimpArgs false
def numT (n : Int) : List UInt8 := numD n.toNat
theorem numD_len : ∀ n : Nat, (numD n).length <= n + 1 := by
 intro n
 induction n using Nat.strongRecOn with
 | _ n ih =>
  rcases Nat.lt_or_ge n 10 with h | h
  ·rw [numD_lt h]; simp
  ·rw [numD_ge h, List.length_append]
   have := ih (n / 10) (by omega)
   simp only [List.length_cons, List.length_nil]
   omega
def cmdT (c : TCmd) : List UInt8 :=
 if c.kind == 1 then [109, 111, 118, 101, 32] ++ numT c.id ++ [32] ++ numT c.src ++ [32] ++ numT c.dst ++ [32] ++ numT c.amt
 else if c.kind == 2 then [114, 101, 97, 100, 32] ++ numT c.id ++ [32] ++ numT c.src else [45]
theorem numT_len {n : Int} (h : n <= 9999) : (numT n).length <= 10000 := by
 have := numD_len n.toNat
 unfold numT
 omega
theorem cmdOk_rng {c : TCmd} (h : cmdOk c = true) : (0 <= c.id /\ c.id <= 9999) /\ (0 <= c.src /\ c.src <= 9999) /\ (0 <= c.dst /\ c.dst <= 9999) /\ 0 <= c.amt /\ c.amt <= 9999 := by
 unfold cmdOk at h
 split at h
 ·rw [of_decide_eq_true h]; decide
 ·split at h
  ·simp only [inR, Bool.and_eq_true, decide_eq_true_eq] at h; omega
  ·simp only [inR, Bool.and_eq_true, decide_eq_true_eq, beq_iff_eq] at h; omega
theorem cmdOk_kind {c : TCmd} (h : cmdOk c = true) : c.kind = 0 \/ c.kind = 1 \/ c.kind = 2 := by
 unfold cmdOk at h
 split at h
 ·rename_i h1; exact .inl (by simpa using h1)
 ·split at h
  ·rename_i h1; exact .inr (.inl (by simpa using h1))
  ·simp only [Bool.and_eq_true, beq_iff_eq] at h; exact .inr (.inr h.1.1.1.1)
theorem joinB_snoc {b : UInt8} : ∀ {ws : List (List UInt8)} {w : List UInt8}, ws ≠ [] -> joinB b (ws ++ [w]) = joinB b ws ++ [b] ++ w
 | [], _, h => absurd rfl h
 | [v], w, _ => by simp [joinB]
 | v :: u :: ws, w, _ => by
  have ih := joinB_snoc (b := b) (ws := u :: ws) (w := w) (by simp)
  simp only [List.cons_append] at ih ⊢
  simp only [joinB, ih]
  simp
theorem joinB_len {b : UInt8} : ∀ {ws : List (List UInt8)}, (∀ w ∈ ws, w.length <= 10000) -> (joinB b ws).length <= 10001 * ws.length
 | [], _ => by simp [joinB]
 | [v], h => by
  have := h v (by simp)
  simp only [joinB, List.length_cons, List.length_nil]
  omega
 | v :: u :: ws, h => by
  have ih := joinB_len (b := b) (ws := u :: ws) (fun w hw => h w (List.mem_cons_of_mem _ hw))
  have := h v (by simp)
  simp only [joinB, List.length_append, List.length_cons] at ih ⊢
  omega
def attrT (a : TAttr) : List UInt8 := numT a.seq ++ 58 :: joinB 44 (a.deps.map numT)
theorem attrOk_rng {n : Int} {a : TAttr} (h : attrOk n a = true) : 0 <= a.seq /\ a.seq <= 999 /\ (a.deps.length : Int) = n /\ ∀ x ∈ a.deps, 0 <= x /\ x <= 6 := by
 simp only [attrOk, inR, Bool.and_eq_true, decide_eq_true_eq, beq_iff_eq, List.all_eq_true] at h
 exact ⟨h.1.1.1, h.1.1.2, h.1.2, fun x hx => h.2 x hx⟩
def rowT (rep no : Int) (r : TRow) : List UInt8 :=
 numT rep ++ 32 :: numT no ++ 32 :: numT r.ballot ++ 32 :: numT r.vote ++ 32 :: numT r.state ++ 124 :: cmdT r.cmd ++ 124 :: attrT r.attr
theorem rowOk_rng {n : Int} {r : TRow} (h : rowOk n r = true) : (0 <= r.ballot /\ r.ballot <= 9999) /\ (0 <= r.vote /\ r.vote <= 9999) /\ 0 <= r.state /\ r.state <= 3 := by
 simp only [rowOk, inR, Bool.and_eq_true, decide_eq_true_eq] at h
 omega
theorem flat_len {xs : List Int} (h : ∀ x ∈ xs, 0 <= x /\ x <= 9999) : (xs.flatMap fun x => 32 :: numT x).length <= 10001 * xs.length := by
 induction xs with
 | nil => simp
 | cons x xs ih =>
  have h1 := ih (fun y hy => h y (List.mem_cons_of_mem _ hy))
  have h2 := numT_len (h x List.mem_cons_self).2
  simp only [List.flatMap_cons, List.length_append, List.length_cons]
  omega
end Go.Proofs.YtnlhnfifkninpaaDoor.Rf

namespace Go.Proofs.YtnlhnfifkninpaaDoor.Rf
set_option linter.unusedVariables false
set_option linter.unusedSimpArgs false
end Go.Proofs.YtnlhnfifkninpaaDoor.Rf

namespace Go.Proofs.YtnlhnfifkninpaaDoor.Rf
set_option linter.unusedVariables false
set_option linter.unusedSimpArgs false
def sumB (s : List UInt8) (h : Int) : Int := s.foldl (fun (h : Int) c => (33 * h + ((c.toNat : Nat) : Int)) % 65521) h
theorem sumB_rng : ∀ (s : List UInt8) (h : Int), 0 <= h -> h < 65521 -> 0 <= sumB s h /\ sumB s h < 65521
 | [], h, h0, h1 => ⟨h0, h1⟩
 | c :: s, h, h0, h1 => sumB_rng s ((33 * h + ((c.toNat : Nat) : Int)) % 65521) (by omega) (by omega)
theorem sumB_app (s : List UInt8) (c : UInt8) (h : Int) : sumB (s ++ [c]) h = (33 * sumB s h + ((c.toNat : Nat) : Int)) % 65521 := by
 unfold sumB
 rw [List.foldl_append]
 rfl
def headF (w : List UInt8) : List UInt8 := [UInt8.ofNat w.length] ++ w
def tailF (n : Int) : List UInt8 := [UInt8.ofNat (n / 256).toNat, UInt8.ofNat (n % 256).toNat]
def frameB (w : List UInt8) : List UInt8 := headF w ++ tailF (sumB (headF w) 7) ++ [1]
end Go.Proofs.YtnlhnfifkninpaaDoor.Rf

namespace Go.Proofs.YtnlhnfifkninpaaDoor.Rf
set_option linter.unusedVariables false
set_option linter.unusedSimpArgs false
theorem decD_num : ∀ n : Nat, Lib.decDigits n = numD n := by
 intro n
 induction n using Nat.strongRecOn with
 | _ n ih =>
  rw [Lib.decDigits]
  by_cases h : n < 10
  ·rw [numD_lt h]
   simp [h]
  ·rw [numD_ge (by omega)]
   simp [h, ih (n / 10) (by omega)]
theorem itoa_num {n : Int} (h0 : 0 <= n) : Lib.itoa n = numT n := by
 unfold Lib.itoa numT
 rw [if_neg (by omega), decD_num]
theorem fmtE_num {n : Int} (h0 : 0 <= n) (h1 : n <= 9999) : fmtE [i64 n, i64 10] = some [.str (numT n)] := by
 show (if (10 : Int) = 10 /\ -9223372036854775808 <= n /\ n <= 9223372036854775807 then some [D.str (Lib.itoa n)] else none) = _
 rw [if_pos ⟨rfl, by omega, by omega⟩, itoa_num h0]
theorem join_B {b : UInt8} : ∀ xs : List (List UInt8), Lib.join xs [b] = joinB b xs
 | [] => rfl
 | [x] => by simp [Lib.join, List.intercalate, joinB]
 | x :: y :: r => by
  have ih := join_B (b := b) (y :: r)
  simp only [Lib.join, List.intercalate, joinB] at ih ⊢
  simp [List.intersperse, <- ih]
theorem strsOf_rL : ∀ xs : List (List UInt8), strsOf (xs.map fun s => [D.str s]) = some xs
 | [] => rfl
 | x :: r => by
  simp only [List.map_cons, strsOf, strsOf_rL r]
  rfl
theorem joinE_B {xs : List (List UInt8)} {b : UInt8} (hne : xs ≠ []) (hl : xs.length <= 100000) (hw : ∀ w ∈ xs, w.length <= 10000) : joinE [rL xs, .str [b]] = some [.str (joinB b xs)] := by
 have e : (rL xs : D) = .rows 1 (xs.map fun s => [D.str s]) := rfl
 have h1 := joinB_len (b := b) (ws := xs) hw
 rw [e]
 show (strsOf (xs.map fun s => [D.str s])).bind _ = _
 rw [strsOf_rL, Option.bind_some, if_pos, join_B]
 rw [join_B]
 exact ⟨hne, by omega, by omega⟩
theorem cmdT_len {c : TCmd} (hc : cmdOk c = true) : (cmdT c).length <= 100000 := by
 obtain ⟨⟨i0, i1⟩, ⟨f0, f1⟩, ⟨t0, t1⟩, a0, a1⟩ := cmdOk_rng hc
 have li := numT_len i1
 have lf := numT_len f1
 have lt := numT_len t1
 have la := numT_len a1
 unfold cmdT
 split
 ·simp only [List.length_append, List.length_cons, List.length_nil]; omega
 ·split
  ·simp only [List.length_append, List.length_cons, List.length_nil]; omega
  ·simp
end Go.Proofs.YtnlhnfifkninpaaDoor.Rf

namespace Go.Proofs.YtnlhnfifkninpaaDoor.Rf
set_option linter.unusedVariables false
set_option linter.unusedSimpArgs false
theorem numD_few : ∀ (k n : Nat), n < 10 ^ (k + 1) -> (numD n).length <= k + 1
 | 0, n, h => by
  rw [numD_lt (by simpa using h)]
  simp
 | k + 1, n, h => by
  rcases Nat.lt_or_ge n 10 with h1 | h1
  ·rw [numD_lt h1]; simp
  ·rw [numD_ge h1, List.length_append]
   have := numD_few k (n / 10) (by rw [Nat.pow_succ] at h; omega)
   simp only [List.length_cons, List.length_nil]
   omega
theorem numT_four {n : Int} (h : n <= 9999) : (numT n).length <= 4 := numD_few 3 n.toNat (by simp; omega)
theorem joinB_four {b : UInt8} : ∀ {ws : List (List UInt8)}, (∀ w ∈ ws, w.length <= 4) -> (joinB b ws).length <= 5 * ws.length
 | [], _ => by simp [joinB]
 | [v], h => by
  have := h v (by simp)
  simp only [joinB, List.length_cons, List.length_nil]
  omega
 | v :: u :: ws, h => by
  have ih := joinB_four (b := b) (ws := u :: ws) (fun w hw => h w (List.mem_cons_of_mem _ hw))
  have := h v (by simp)
  simp only [joinB, List.length_append, List.length_cons] at ih ⊢
  omega
theorem cmdT_few {c : TCmd} (hc : cmdOk c = true) : (cmdT c).length <= 24 := by
 obtain ⟨⟨i0, i1⟩, ⟨f0, f1⟩, ⟨t0, t1⟩, a0, a1⟩ := cmdOk_rng hc
 have li := numT_four i1
 have lf := numT_four f1
 have lt := numT_four t1
 have la := numT_four a1
 unfold cmdT
 split
 ·simp only [List.length_append, List.length_cons, List.length_nil]; omega
 ·split
  ·simp only [List.length_append, List.length_cons, List.length_nil]; omega
  ·simp
theorem attrT_few {n : Int} {a : TAttr} (hg : isGrp n = true) (h : attrOk n a = true) : (attrT a).length <= 30 := by
 have h1 := attrOk_rng h
 have hn := isGrp_rng hg
 have l1 := numT_four (n := a.seq) (by omega)
 have l2 := joinB_four (b := 44) (ws := a.deps.map numT) (by
  intro w hw
  obtain ⟨x, h2, rfl⟩ := List.mem_map.1 hw
  exact numT_four (by have := (h1.2.2.2 x h2).2; omega))
 rw [List.length_map] at l2
 simp only [attrT, List.length_append, List.length_cons]
 omega
theorem rowT_few {n rep no : Int} {r : TRow} (hg : isGrp n = true) (hi : inst n rep no = true) (hr : rowOk n r = true) : (rowT rep no r).length <= 100 := by
 have h1 := inst_rng hi
 have hn := isGrp_rng hg
 have h2 := rowOk_rng hr
 have l1 := numT_four (n := rep) (by omega)
 have l2 := numT_four (n := no) (by omega)
 have l3 := numT_four (n := r.ballot) (by omega)
 have l4 := numT_four (n := r.vote) (by omega)
 have l5 := numT_four (n := r.state) (by omega)
 have l6 := cmdT_few (rowOk_cmd hr)
 have l7 := attrT_few hg (rowOk_attr hr hg)
 simp only [rowT, List.length_append, List.length_cons]
 omega
theorem frameB_len {w : List UInt8} : (frameB w).length = w.length + 4 := by
 simp only [frameB, headF, tailF, List.length_append, List.length_cons, List.length_nil]
 omega
end Go.Proofs.YtnlhnfifkninpaaDoor.Rf

namespace Go.Proofs.YtnlhnfifkninpaaDoor.Rf
set_option linter.unusedVariables false
set_option linter.unusedSimpArgs false
def rowF (rep : Int) (xs : List TRow) : Nat -> List UInt8
 | 0 => []
 | k + 1 => rowF rep xs k ++ frameB (rowT rep ((k : Int) + 1) (atI xs (k : Int)))
def tabF (rows : List (List TRow)) : Nat -> List UInt8
 | 0 => []
 | i + 1 => tabF rows i ++ rowF (i : Int) (atI rows (i : Int)) (atI rows (i : Int)).length
theorem tab_at {t : TTable} (h : tabOk t = true) {i j : Nat} (hi : i < t.rows.length) (hj : j < (atI t.rows (i : Int)).length) :
  isGrp t.n = true /\ inst t.n (i : Int) ((j : Int) + 1) = true /\ rowOk t.n (atI (atI t.rows (i : Int)) (j : Int)) = true /\ (atI t.rows (i : Int)).length <= 6 := by
 have hg := tabOk_grp h
 have hl := tabOk_len h
 obtain ⟨h1, h2⟩ := tabOk_rows h (at_mem hi)
 refine ⟨hg, ?_, h2 _ (at_mem hj), h1⟩
 simp only [inst, inR, Bool.and_eq_true, decide_eq_true_eq]
 omega
theorem rowF_len {t : TTable} (h : tabOk t = true) {i : Nat} (hi : i < t.rows.length) : ∀ j : Nat, j <= (atI t.rows (i : Int)).length -> (rowF (i : Int) (atI t.rows (i : Int)) j).length <= 104 * j
 | 0, _ => by simp [rowF]
 | j + 1, hj => by
  have ih := rowF_len h hi j (by omega)
  obtain ⟨h1, h2, h3, h4⟩ := tab_at h hi (j := j) (by omega)
  have := rowT_few h1 h2 h3
  simp only [rowF, List.length_append, frameB_len]
  omega
theorem tabF_len {t : TTable} (h : tabOk t = true) : ∀ i : Nat, i <= t.rows.length -> (tabF t.rows i).length <= 624 * i
 | 0, _ => by simp [tabF]
 | i + 1, hi => by
  have ih := tabF_len h i (by omega)
  have h1 := rowF_len h (i := i) (by omega) _ (Nat.le_refl _)
  have h2 := (tabOk_rows h (at_mem (show i < t.rows.length by omega))).1
  simp only [tabF, List.length_append]
  omega
def logR (t : TTable) : List UInt8 × Bool := if tabOk t && !decide (20000 < ((tabF t.rows t.rows.length).length : Int)) then (tabF t.rows t.rows.length, true) else ([], false)
end Go.Proofs.YtnlhnfifkninpaaDoor.Rf
