/- Terms for the program's functions, and that they are right: part 8 of 8. -/
import Derived.Test.YtmpakpgonfnadaaGreatRf7
set_option linter.unusedSimpArgs false
set_option linter.unusedVariables false
set_option linter.unnecessarySimpa false
set_option linter.unusedSectionVars false
namespace Go.Proofs.YtmpakpgonfnadaaGreat.Rf
set_option linter.unusedVariables false
set_option linter.unusedSimpArgs false
section
variable {T : Nat -> Ent} {β : Type} {α : Type} [Inhabited α]
inductive Rd1 (σ : Type) where
 | go (s : σ)
 | out (r : Kind × List D)
def foldX {σ : Type} (f : Nat -> α -> σ -> Rd1 σ) : Nat -> List α -> σ -> Rd1 σ
 | _, [], s => .go s
 | i, x :: xs, s => match f i x s with
  | .go s' => foldX f (i + 1) xs s'
  | .out r => .out r
def rndK {σ : Type} (vs : Int -> σ -> List D) (i : Int) : Rd1 σ -> Kind × List D
 | .go s => (.cont, vs (i + 1) s)
 | .out r => r
theorem loopX {σ : Type} {body : Tm β} {ρ : List D} {init : List Atom} (xs : List α) (vs : Int -> σ -> List D) (s0 : σ) (f : Nat -> α -> σ -> Rd1 σ) (inv : Nat -> σ -> Prop) (fin : σ -> Kind × List D)
  (h0 : init.map (·.val ρ) = vs 0 s0) (hi : inv 0 s0)
  (h1 : ∀ (i : Nat) s, i < xs.length -> inv i s -> Er T body (ρ ++ vs i s) = some (rndK vs i (f i (atI xs i) s)) /\ (∀ s', f i (atI xs i) s = .go s' -> inv (i + 1) s') /\ ∀ r, f i (atI xs i) s = .out r -> r.1 ≠ .cont)
  (h2 : ∀ s, inv xs.length s -> Er T body (ρ ++ vs xs.length s) = some (fin s) /\ (fin s).1 ≠ .cont) :
  ∃ r, Er T (.loop init body) ρ = some r /\ ((∃ s, foldX f 0 xs s0 = .go s /\ inv xs.length s /\ r = fin s) \/ foldX f 0 xs s0 = .out r) := by
 have key := loopR (T := T) (body := body) (ρ := ρ) (γ := Nat × σ) (fun c => xs.length - c.1) (fun c => c.1 <= xs.length /\ inv c.1 c.2 /\ foldX f c.1 (xs.drop c.1) c.2 = foldX f 0 xs s0) (fun c => vs (c.1 : Int) c.2)
  (fun r => (∃ s, foldX f 0 xs s0 = .go s /\ inv xs.length s /\ r = fin s) \/ foldX f 0 xs s0 = .out r)
  (fun ⟨i, s⟩ ⟨hle, hv, hf⟩ => by
   simp only at hle hv hf ⊢
   rcases Nat.lt_or_ge i xs.length with hlt | hge
   ·obtain ⟨h3, h4, h5⟩ := h1 i s hlt hv
    have hd : xs.drop i = atI xs i :: xs.drop (i + 1) := by
     rw [List.drop_eq_getElem_cons hlt, atI_get hlt]
    rw [hd, foldX] at hf
    refine ⟨_, h3, ?_⟩
    cases e : f i (atI xs i) s with
    | go s' =>
     rw [e] at hf
     exact .inl ⟨rfl, (i + 1, s'), ⟨by simp only; omega, h4 s' e, hf⟩, by simp only; omega, rfl⟩
    | out r =>
     rw [e] at hf
     exact .inr ⟨h5 r e, .inr hf.symm⟩
   ·obtain rfl : i = xs.length := by omega
    obtain ⟨h3, h4⟩ := h2 s hv
    rw [List.drop_length, foldX] at hf
    exact ⟨_, h3, .inr ⟨h4, .inl ⟨s, hf.symm, hv, rfl⟩⟩⟩)
  xs.length (0, s0) (by simp) ⟨by simp, hi, by simp⟩ init h0
 exact key
theorem scanX {body : Tm β} {ρ : List D} (j : Nat) (n : Nat) (p : Nat -> Bool) (r : List D)
  (h1 : ∀ i : Nat, i < n -> p i = true -> Er T body (ρ ++ [i64 i]) = some (.cont, [i64 ((i : Int) + 1)]))
  (h2 : ∀ i : Nat, i < n -> p i = false -> Er T body (ρ ++ [i64 i]) = some (.ret, r))
  (h3 : Er T body (ρ ++ [i64 n]) = some (.yield j, [])) :
  Er T (.loop [.c (i64 0)] body) ρ = forkT (allB p n) (some (.yield j, [])) (some (.ret, r)) := by
 have key := loopR (T := T) (body := body) (ρ := ρ) (fun i => n - i) (fun i => i <= n /\ ∀ j, j < i -> p j = true) (fun i => [i64 (i : Nat)])
  (fun q => (∀ j, j < n -> p j = true) /\ q = (.yield j, []) \/ (∃ j, j < n /\ p j = false) /\ q = (.ret, r))
  (fun i ⟨hi, hall⟩ => by
   rcases Nat.lt_or_ge i n with hlt | hge
   ·cases e : p i with
    | true => exact ⟨_, h1 i hlt e, .inl ⟨rfl, i + 1, ⟨by omega, fun j hj => by
      rcases Nat.lt_or_ge j i with h | h
      ·exact hall j h
      ·obtain rfl : j = i := by omega
       exact e⟩, by omega, rfl⟩⟩
    | false => exact ⟨_, h2 i hlt e, .inr ⟨by simp, .inr ⟨⟨i, hlt, e⟩, rfl⟩⟩⟩
   ·obtain rfl : i = n := by omega
    exact ⟨_, h3, .inr ⟨by simp, .inl ⟨hall, rfl⟩⟩⟩)
  n 0 (by omega) ⟨by omega, fun j hj => by omega⟩ [.c (i64 0)] (by simp [Atom.val])
 obtain ⟨q, h4, h5⟩ := key
 rw [h4]
 rcases h5 with ⟨h6, rfl⟩ | ⟨h6, rfl⟩
 ·rw [allB_true.2 h6]; rfl
 ·rw [allB_false.2 h6]; rfl
theorem allB_all (xs : List α) (p : α -> Bool) : allB (fun i => p (atI xs i)) xs.length = xs.all p := by
 cases e : xs.all p with
 | true =>
  rw [List.all_eq_true] at e
  rw [allB_true]
  intro i hi
  rw [atI_get hi]
  exact e _ (List.getElem_mem hi)
 | false =>
  rw [List.all_eq_false] at e
  obtain ⟨x, hx, hp⟩ := e
  obtain ⟨i, hi, rfl⟩ := List.getElem_of_mem hx
  exact allB_false.2 ⟨i, hi, by rw [atI_get hi]; simpa using hp⟩
theorem allB_eq [DecidableEq α] {xs ys : List α} (hl : xs.length = ys.length) : allB (fun i => decide (atI xs i = atI ys i)) xs.length = decide (xs = ys) := by
 by_cases e : xs = ys
 ·subst e
  rw [decide_eq_true rfl, allB_true]
  exact fun i _ => decide_eq_true rfl
 ·rw [decide_eq_false e]
  cases h : allB (fun i => decide (atI xs i = atI ys i)) xs.length with
  | false => rfl
  | true =>
   rw [allB_true] at h
   refine absurd (List.ext_getElem hl fun i h1 h2 => ?_) e
   have := of_decide_eq_true (h i h1)
   rwa [atI_get h1, atI_get h2] at this
theorem eq_len {xs ys : List α} [DecidableEq α] (h : ¬ xs.length = ys.length) : decide (xs = ys) = false := decide_eq_false fun e => h (by rw [e])
theorem allX {body : Tm β} {ρ : List D} (j : Nat) (xs : List α) (p : α -> Bool) (r : List D)
  (h1 : ∀ i : Nat, i < xs.length -> InB xs (i : Int) -> decide ((i : Int) < xs.length) = true -> p (atI xs i) = true -> Er T body (ρ ++ [i64 i]) = some (.cont, [i64 ((i : Int) + 1)]))
  (h2 : ∀ i : Nat, i < xs.length -> InB xs (i : Int) -> decide ((i : Int) < xs.length) = true -> p (atI xs i) = false -> Er T body (ρ ++ [i64 i]) = some (.ret, r))
  (h3 : decide ((xs.length : Int) < xs.length) = false -> Er T body (ρ ++ [i64 xs.length]) = some (.yield j, [])) :
  Er T (.loop [.c (i64 0)] body) ρ = forkT (xs.all p) (some (.yield j, [])) (some (.ret, r)) := by
 rw [scanX j xs.length (fun i => p (atI xs i)) r (fun i hi hp => h1 i hi (InB_nat.2 hi) (by simp; omega) hp) (fun i hi hp => h2 i hi (InB_nat.2 hi) (by simp; omega) hp) (h3 (by simp)), allB_all]
omit [Inhabited α] in
theorem scanF {body : Tm β} {ρ : List D} (j : Nat) (n : Nat) (p : Nat -> Bool) (r : List D)
  (h1 : ∀ i : Nat, i < n -> decide ((i : Int) < n) = true -> Er T body (ρ ++ [i64 i]) = forkT (p i) (some (.cont, [i64 ((i : Int) + 1)])) (some (.ret, r)))
  (h3 : decide ((n : Int) < n) = false -> Er T body (ρ ++ [i64 n]) = some (.yield j, [])) :
  Er T (.loop [.c (i64 0)] body) ρ = forkT (allB p n) (some (.yield j, [])) (some (.ret, r)) :=
 scanX j n p r (fun i hi hp => by rw [h1 i hi (by simp; omega), hp]; rfl) (fun i hi hp => by rw [h1 i hi (by simp; omega), hp]; rfl) (h3 (by simp))
theorem allF {body : Tm β} {ρ : List D} (j : Nat) (xs : List α) (p : α -> Bool) (r : List D)
  (h1 : ∀ i : Nat, i < xs.length -> InB xs (i : Int) -> decide ((i : Int) < xs.length) = true -> atI xs (i : Int) ∈ xs -> Er T body (ρ ++ [i64 i]) = forkT (p (atI xs i)) (some (.cont, [i64 ((i : Int) + 1)])) (some (.ret, r)))
  (h3 : decide ((xs.length : Int) < xs.length) = false -> Er T body (ρ ++ [i64 xs.length]) = some (.yield j, [])) :
  Er T (.loop [.c (i64 0)] body) ρ = forkT (xs.all p) (some (.yield j, [])) (some (.ret, r)) :=
 allX j xs p r (fun i hi hb hl hp => by rw [h1 i hi hb hl (by rw [atI_get hi]; exact List.getElem_mem hi), hp]; rfl) (fun i hi hb hl hp => by rw [h1 i hi hb hl (by rw [atI_get hi]; exact List.getElem_mem hi), hp]; rfl) h3
def ixF (p : α -> Bool) (xs : List α) : Int := match xs.findIdx? p with
 | some i => i
 | none => -1
omit [Inhabited α] in
theorem ixF_any (p : α -> Bool) (xs : List α) : decide (0 <= ixF p xs) = xs.any p := by
 unfold ixF
 cases h : xs.findIdx? p with
 | none =>
  rw [List.findIdx?_eq_none_iff] at h
  have : xs.any p = false := by
   rw [List.any_eq_false]
   exact fun x hx => by simp [h x hx]
  rw [this]; rfl
 | some i =>
  have : xs.any p = true := by
   rw [List.findIdx?_eq_some_iff_getElem] at h
   obtain ⟨hi, hp, -⟩ := h
   rw [List.any_eq_true]
   exact ⟨_, List.getElem_mem hi, hp⟩
  rw [this]; simp
theorem findX {body : Tm β} {ρ : List D} (j : Nat) (xs : List α) (p : α -> Bool) (rf : Int -> List D)
  (h1 : ∀ i : Nat, i < xs.length -> InB xs (i : Int) -> decide ((i : Int) < xs.length) = true -> p (atI xs i) = true -> Er T body (ρ ++ [i64 i]) = some (.ret, rf i))
  (h2 : ∀ i : Nat, i < xs.length -> InB xs (i : Int) -> decide ((i : Int) < xs.length) = true -> p (atI xs i) = false -> Er T body (ρ ++ [i64 i]) = some (.cont, [i64 ((i : Int) + 1)]))
  (h3 : decide ((xs.length : Int) < xs.length) = false -> Er T body (ρ ++ [i64 xs.length]) = some (.yield j, [])) :
  Er T (.loop [.c (i64 0)] body) ρ = forkT (xs.any p) (some (.ret, rf (ixF p xs))) (some (.yield j, [])) := by
 have hall : ∀ (i : Nat) (ys : List α), foldX (fun (i : Nat) x (_ : Unit) => if p x then Rd1.out (.ret, rf i) else .go ()) i ys () = match ys.findIdx? p with | some k => .out (.ret, rf ((i + k : Nat) : Int)) | none => .go () := by
  intro i ys
  induction ys generalizing i with
  | nil => rfl
  | cons y ys ih =>
   rw [foldX, List.findIdx?_cons]
   cases p y with
   | true => simp
   | false =>
    simp only [Bool.false_eq_true, if_false]
    rw [ih (i + 1)]
    cases ys.findIdx? p with
    | none => rfl
    | some k => simp only [Option.map_some]; congr 4; omega
 obtain ⟨q, h4, h5⟩ := loopX (T := T) (body := body) (ρ := ρ) (init := [.c (i64 0)]) xs (fun i (_ : Unit) => [i64 i]) () (fun i x _ => if p x then .out (.ret, rf i) else .go ()) (fun _ _ => True) (fun _ => (.yield j, [])) rfl trivial
  (fun i _ hi _ => by
   cases e : p (atI xs i) with
   | true => exact ⟨by rw [h1 i hi (InB_nat.2 hi) (by simp; omega) e]; rfl, fun _ _ => trivial, fun r h => by simp at h; rw [<- h]; simp⟩
   | false => exact ⟨by rw [h2 i hi (InB_nat.2 hi) (by simp; omega) e]; rfl, fun _ _ => trivial, fun r h => by simp at h⟩)
  (fun _ _ => ⟨h3 (by simp), by simp⟩)
 rw [h4, <- ixF_any]
 rw [hall] at h5
 unfold ixF
 cases e : xs.findIdx? p with
 | none =>
  rw [e] at h5
  rcases h5 with ⟨s, -, -, rfl⟩ | h5
  ·rfl
  ·simp at h5
 | some k =>
  rw [e] at h5
  rcases h5 with ⟨s, h5, -⟩ | h5
  ·simp at h5
  ·simp only [Nat.zero_add, Rd1.out.injEq] at h5
   rw [<- h5]
   simp [forkT]
theorem at_mem {xs : List α} {i : Nat} (h : i < xs.length) : atI xs (i : Int) ∈ xs := by rw [atI_get h]; exact List.getElem_mem h
omit [Inhabited α] in
theorem loopN {body : Tm β} {ρ : List D} {init : List Atom} (n : Nat) (vs : Nat -> List D) (r : Kind × List D) (h0 : init.map (·.val ρ) = vs 0) (hr : r.1 ≠ .cont)
  (h1 : ∀ i : Nat, i < n -> decide ((i : Int) < n) = true -> Er T body (ρ ++ vs i) = some (.cont, vs (i + 1)))
  (h2 : decide ((n : Int) < n) = false -> Er T body (ρ ++ vs n) = some r) : Er T (.loop init body) ρ = some r := by
 obtain ⟨q, h3, rfl⟩ := loopR (T := T) (body := body) (ρ := ρ) (fun i => n - i) (fun i => i <= n) vs (fun q => q = r)
  (fun i hi => by
   rcases Nat.lt_or_ge i n with hlt | hge
   ·exact ⟨_, h1 i hlt (by simp; omega), .inl ⟨rfl, i + 1, by omega, by omega, rfl⟩⟩
   ·obtain rfl : i = n := by omega
    exact ⟨_, h2 (by simp), .inr ⟨hr, rfl⟩⟩) n 0 (by omega) (by omega) init h0
 exact h3
omit [Inhabited α] in
theorem whileE {γ : Type} {body : Tm β} {ρ : List D} {init : List Atom} (r : Kind × List D) (m : γ -> Nat) (inv : γ -> Prop) (vs : γ -> List D) (c0 : γ) (h0 : init.map (·.val ρ) = vs c0) (hi : inv c0) (hr : r.1 ≠ .cont)
  (h : ∀ c, inv c -> (∃ c', Er T body (ρ ++ vs c) = some (.cont, vs c') /\ inv c' /\ m c' < m c) \/ Er T body (ρ ++ vs c) = some r) : Er T (.loop init body) ρ = some r := by
 obtain ⟨q, h1, rfl⟩ := loopR (T := T) (body := body) (ρ := ρ) m inv vs (fun q => q = r)
  (fun c hc => by
   rcases h c hc with ⟨c', h2, h3, h4⟩ | h2
   ·exact ⟨_, h2, .inl ⟨rfl, c', h3, h4, rfl⟩⟩
   ·exact ⟨_, h2, .inr ⟨hr, rfl⟩⟩) (m c0) c0 (Nat.le_refl _) hi init h0
 exact h1
theorem foldS {σ : Type} {body : Tm β} {ρ : List D} {init : List Atom} (j : Nat) (xs : List α) (vs : Int -> σ -> List D) (s0 : σ) (f : σ -> α -> σ) (inv : Nat -> σ -> Prop) (out : σ -> List D)
  (h0 : init.map (·.val ρ) = vs 0 s0) (hi : inv 0 s0)
  (h1 : ∀ (i : Nat) s, i < xs.length -> InB xs (i : Int) -> decide ((i : Int) < xs.length) = true -> inv i s -> Er T body (ρ ++ vs i s) = some (.cont, vs ((i : Int) + 1) (f s (atI xs i))) /\ inv (i + 1) (f s (atI xs i)))
  (h2 : ∀ s, decide ((xs.length : Int) < xs.length) = false -> inv xs.length s -> Er T body (ρ ++ vs xs.length s) = some (.yield j, out s)) :
  Er T (.loop init body) ρ = some (.yield j, out (xs.foldl f s0)) /\ inv xs.length (xs.foldl f s0) := by
 have hall : ∀ i xs s, foldX (fun (_ : Nat) (x : α) s => Rd1.go (f s x)) i xs s = .go (xs.foldl f s) := by
  intro i xs
  induction xs generalizing i with
  | nil => exact fun _ => rfl
  | cons x xs ih => exact fun s => ih (i + 1) _
 obtain ⟨q, h4, h5⟩ := loopX (T := T) (body := body) (ρ := ρ) (init := init) xs vs s0 (fun _ x s => .go (f s x)) inv (fun s => (.yield j, out s)) h0 hi
  (fun i s hl hv => by
   obtain ⟨h5, h6⟩ := h1 i s hl (InB_nat.2 hl) (by simp; omega) hv
   exact ⟨h5, fun s' h => by simp only [Rd1.go.injEq] at h; rw [<- h]; exact h6, fun r h => by cases h⟩)
  (fun s hv => ⟨h2 s (by simp) hv, by simp⟩)
 rw [hall] at h5
 rcases h5 with ⟨s, h5, h6, rfl⟩ | h5
 ·simp only [Rd1.go.injEq] at h5
  subst h5
  exact ⟨h4, h6⟩
 ·cases h5
end
theorem take_at {α : Type} [Inhabited α] {xs : List α} {i : Nat} (h : i < xs.length) : xs.take i ++ [atI xs (i : Int)] = xs.take (i + 1) := by rw [List.take_succ_eq_append_getElem h, atI_get h]
theorem setI_at {α : Type} [Inhabited α] {xs : List α} {k : Int} (h : InB xs k) : setI xs k (atI xs k) = xs := by
 have h2 := h.lt
 unfold setI atI
 rw [List.getD_eq_getElem?_getD, List.getElem?_eq_getElem h2]
 exact List.set_getElem_self h2
def holeL {α : Type} [Enc α] (xs : List (List α)) (k : Int) : D := .rows 1 ((xs.map Enc.enc).set k.toNat [.hole])
theorem S_hole : (∀ {α : Type} [Enc α] {xs : List (List α)} {k : Int}, InB xs k -> (Prim.set 1 0 1).run [rL xs, i64 k, .hole] = some [holeL xs k]) /\ (∀ {α : Type} [Enc α] {xs : List (List α)} {k j : Int}, InB xs j -> Prim.inb.run [holeL xs k, i64 j] = some []) /\
  (∀ {α : Type} [Enc α] {xs : List (List α)} {k : Int} {l : List α}, InB xs k -> (Prim.set 1 0 1).run [holeL xs k, i64 k, rL l] = some [rL (setI xs k l)]) := by
 refine ⟨?_, ?_, ?_⟩
 ·intro α _ xs k h
  have h2 := h.lt
  unfold InB at h
  have e : (xs.map Enc.enc)[k.toNat]? = some [rL xs[k.toNat]] := by rw [List.getElem?_map, List.getElem?_eq_getElem h2]; rfl
  show (if _ then _ else _) = _
  rw [if_pos ⟨rfl, h.1⟩, e]
  rfl
 ·intro α _ xs k j h
  unfold InB at h
  show (if _ then _ else _) = _
  rw [if_pos ⟨h.1, by simpa using h.2⟩]
 ·intro α _ xs k l h
  have h2 := h.lt
  unfold InB at h
  have e : ((xs.map Enc.enc).set k.toNat [.hole])[k.toNat]? = some [.hole] := by rw [List.getElem?_set_self (by simpa using h2)]
  show (if _ then _ else _) = _
  rw [if_pos ⟨rfl, h.1⟩, e]
  show some _ = _
  simp only [rL, setI, List.map_set, List.set_set]
  rfl
theorem SQ : (∀ {a b : Int}, -9223372036854775808 <= a + b -> a + b <= 9223372036854775807 -> (Prim.bin .add).run [i64 a, i64 b] = some [i64 (a + b)]) /\
  (∀ {a b : Int}, -9223372036854775808 <= a - b -> a - b <= 9223372036854775807 -> (Prim.bin .sub).run [i64 a, i64 b] = some [i64 (a - b)]) /\
  (∀ {a b : Int}, 0 <= a -> a <= 9223372036854775807 -> 0 < b -> (Prim.bin .quo).run [i64 a, i64 b] = some [i64 (a / b)]) /\ (∀ {a b : Int}, 0 <= a -> 0 < b -> (Prim.bin .rem).run [i64 a, i64 b] = some [i64 (a % b)]) :=
 ⟨run_add, run_sub, run_quoI, run_remI⟩
end Go.Proofs.YtmpakpgonfnadaaGreat.Rf

namespace Go.Proofs.YtmpakpgonfnadaaGreat.Rf
set_option linter.unusedVariables false
set_option linter.unusedSimpArgs false
theorem S_upd : (∀ {α : Type} [Inhabited α] {xs : List α} {k : Int} {a : α}, InB xs k -> atI (setI xs k a) k = a) /\ (∀ {α : Type} {xs : List α} {k : Int} {a b : α}, setI (setI xs k a) k b = setI xs k b) /\
  (∀ {α : Type} {xs : List α} {j k : Int} {a : α}, InB (setI xs j a) k = InB xs k) /\ (∀ {α : Type} {xs : List α} {j : Int} {a : α}, (setI xs j a).length = xs.length) := by
 refine ⟨?_, ?_, ?_, ?_⟩
 ·intro α _ xs k a h
  have := h.lt
  rw [setI, atI, List.getD_eq_getElem?_getD, List.getElem?_set_self this]; rfl
 ·intro α xs k a b
  rw [setI, setI, setI, List.set_set]
 ·intro α xs j k a
  unfold InB setI
  rw [List.length_set]
 ·intro α xs j a
  exact List.length_set ..
def szL {α : Type} (f : α -> Nat) (xs : List α) : Nat := xs.length + (xs.map f).sum
def szR (l : Int) (n : Nat) : Int := if (n : Int) <= l then l - n else -1
theorem szL_cons {α : Type} {f : α -> Nat} {x : α} {xs : List α} : szL f (x :: xs) = 1 + f x + szL f xs := by simp [szL]; omega
theorem szL_mem {α : Type} {f : α -> Nat} : ∀ {xs : List α} {x : α}, x ∈ xs -> 1 + f x <= szL f xs
 | [], x, h => by cases h
 | y :: ys, x, h => by
  rw [szL_cons]
  rcases List.mem_cons.1 h with rfl | h
  ·omega
  ·have := szL_mem (f := f) h
   omega
theorem szL_zero {α : Type} {xs : List α} : szL (fun _ => 0) xs = xs.length := by
 have : ∀ xs : List α, (xs.map fun _ => 0).sum = 0 := fun xs => by
  induction xs with
  | nil => rfl
  | cons x xs ih => simp only [List.map_cons, List.sum_cons, ih]
 rw [szL, this]; rfl
theorem szL_len {α : Type} {f : α -> Nat} {xs : List α} : xs.length <= szL f xs := by unfold szL; omega
section
variable {T : Nat -> Ent} {β : Type} {α : Type} [Inhabited α]
theorem szLoop {body : Tm β} {ρ : List D} {a : Atom} (xs : List α) (f : α -> Nat) (l : Int) (h0 : a.val ρ = i64 l) (hl : 0 <= l) (hl' : l <= 1048576)
  (h1 : ∀ (i : Nat) (m : Int), i < xs.length -> InB xs (i : Int) -> decide ((i : Int) < xs.length) = true -> 0 <= m -> m <= 1048576 -> (f (atI xs i) : Int) <= m -> szR m (f (atI xs i)) = m - f (atI xs i) -> decide (m - (f (atI xs i) : Int) < 0) = false -> Er T body (ρ ++ [i64 m, i64 i]) = some (.cont, [i64 (m - f (atI xs i)), i64 ((i : Int) + 1)]))
  (h2 : ∀ (i : Nat) (m : Int), i < xs.length -> InB xs (i : Int) -> decide ((i : Int) < xs.length) = true -> 0 <= m -> m <= 1048576 -> m < f (atI xs i) -> szR m (f (atI xs i)) = -1 -> decide ((-1 : Int) < 0) = true -> Er T body (ρ ++ [i64 m, i64 i]) = some (.ret, [i64 (-1)]))
  (h3 : ∀ m : Int, decide ((xs.length : Int) < xs.length) = false -> Er T body (ρ ++ [i64 m, i64 xs.length]) = some (.yield 1, [i64 m])) :
  Er T (.loop [a, .c (i64 0)] body) ρ = forkT (decide (((xs.map f).sum : Int) <= l)) (some (.yield 1, [i64 (l - (xs.map f).sum)])) (some (.ret, [i64 (-1)])) := by
 have hall : ∀ (ys : List α) (i : Nat) (m : Int), 0 <= m -> foldX (fun (_ : Nat) x (m : Int) => if (f x : Int) <= m then Rd1.go (m - f x) else .out (.ret, [i64 (-1)])) i ys m = if ((ys.map f).sum : Int) <= m then .go (m - (ys.map f).sum) else .out (.ret, [i64 (-1)]) := by
  intro ys
  induction ys with
  | nil =>
   intro i m hm
   simp only [foldX, List.map_nil, List.sum_nil]
   rw [if_pos (by simpa using hm)]
   simp
  | cons y ys ih =>
   intro i m hm
   simp only [foldX, List.map_cons, List.sum_cons]
   by_cases h : (f y : Int) <= m
   ·rw [if_pos h]
    simp only
    rw [ih (i + 1) _ (by omega)]
    by_cases h4 : ((ys.map f).sum : Int) <= m - f y
    ·rw [if_pos h4, if_pos (by omega)]
     congr 1
     omega
    ·rw [if_neg h4, if_neg (by omega)]
   ·rw [if_neg h]
    simp only
    rw [if_neg (by omega)]
 obtain ⟨q, h4, h5⟩ := loopX (T := T) (body := body) (ρ := ρ) (init := [a, .c (i64 0)]) xs (fun i (m : Int) => [i64 m, i64 i]) l (fun _ x m => if (f x : Int) <= m then .go (m - f x) else .out (.ret, [i64 (-1)])) (fun _ m => 0 <= m /\ m <= 1048576) (fun m => (.yield 1, [i64 m])) (by show [a.val ρ, _] = _; rw [h0]; rfl) ⟨hl, hl'⟩
  (fun i m hi hm => by
   by_cases e : (f (atI xs i) : Int) <= m
   ·rw [if_pos e]
    refine ⟨h1 i m hi (InB_nat.2 hi) (by simp; omega) hm.1 hm.2 e (by rw [szR, if_pos e]) (by simp; omega), fun s' h => ?_, fun r h => by cases h⟩
    simp only [Rd1.go.injEq] at h
    omega
   ·rw [if_neg e]
    refine ⟨h2 i m hi (InB_nat.2 hi) (by simp; omega) hm.1 hm.2 (by omega) (by rw [szR, if_neg e]) rfl, fun s' h => by simp at h, fun r h => ?_⟩
    simp only [Rd1.out.injEq] at h
    rw [<- h]; simp)
  (fun m hm => ⟨h3 m (by simp), by simp⟩)
 rw [h4]
 rw [hall xs 0 l hl] at h5
 by_cases h : ((xs.map f).sum : Int) <= l
 ·rw [if_pos h] at h5
  rw [decide_eq_true h]
  rcases h5 with ⟨s, h5, -, rfl⟩ | h5
  ·simp only [Rd1.go.injEq] at h5
   rw [<- h5]; rfl
  ·cases h5
 ·rw [if_neg h] at h5
  rw [decide_eq_false h]
  rcases h5 with ⟨s, h5, -⟩ | h5
  ·cases h5
  ·simp only [Rd1.out.injEq] at h5
   rw [<- h5]; rfl
theorem toLoop {body : Tm β} {ρ : List D} {a : Atom} [Enc α] (xs : List α) (h0 : a.val ρ = rL (List.replicate xs.length (default : α)))
  (h1 : ∀ (i : Nat) (ys : List α), i < xs.length -> InB xs (i : Int) -> InB ys (i : Int) -> decide ((i : Int) < xs.length) = true -> Er T body (ρ ++ [rL ys, i64 i]) = some (.cont, [rL (setI ys i (atI xs i)), i64 ((i : Int) + 1)]))
  (h2 : ∀ ys : List α, decide ((xs.length : Int) < xs.length) = false -> Er T body (ρ ++ [rL ys, i64 xs.length]) = some (.yield 1, [rL ys])) :
  Er T (.loop [a, .c (i64 0)] body) ρ = some (.yield 1, [rL xs]) := by
 have key := loopR (T := T) (body := body) (ρ := ρ) (fun i => xs.length - i) (fun i => i <= xs.length) (fun i => [rL (upto default xs i), i64 (i : Nat)]) (fun q => q = (.yield 1, [rL xs]))
  (fun i hi => by
   rcases Nat.lt_or_ge i xs.length with hlt | hge
   ·refine ⟨_, h1 i (upto default xs i) hlt (InB_nat.2 hlt) (InB_nat.2 (by rw [upto_len _ _ hi]; exact hlt)) (by simp; omega), .inl ⟨rfl, i + 1, by omega, by omega, ?_⟩⟩
    have : setI (upto default xs i) (i : Int) (atI xs i) = upto default xs (i + 1) := by
     rw [setI]
     exact upto_set default xs (by rw [atI_get hlt]; exact List.getElem?_eq_getElem hlt)
    rw [this]; simp
   ·obtain rfl : i = xs.length := by omega
    refine ⟨_, h2 _ (by simp), .inr ⟨by simp, ?_⟩⟩
    rw [upto_all])
  xs.length 0 (by omega) (by omega) [a, .c (i64 0)] (by show [a.val ρ, _] = _; rw [h0, upto_zero]; rfl)
 obtain ⟨q, h4, rfl⟩ := key
 exact h4
def mkL {α : Type} (c : α -> Nat) (f : α -> Int -> α) : List α -> Int -> List α
 | [], _ => []
 | x :: xs, k => f x k :: mkL c f xs (k + c x)
def ctL {α : Type} (c : α -> Nat) (xs : List α) : Nat := (xs.map c).sum
theorem mkL_len {α : Type} {c : α -> Nat} {f : α -> Int -> α} : ∀ {xs : List α} {k : Int}, (mkL c f xs k).length = xs.length
 | [], _ => rfl
 | x :: xs, k => by simp [mkL, mkL_len]
theorem mkL_at {c : α -> Nat} {f : α -> Int -> α} : ∀ {xs : List α} {k : Int} {i : Nat}, i < xs.length -> atI (mkL c f xs k) (i : Int) = f (atI xs i) (k + ctL c (xs.take i))
 | x :: xs, k, 0, h => by simp [mkL, atI, ctL]
 | x :: xs, k, i + 1, h => by
  have ih := mkL_at (c := c) (f := f) (xs := xs) (k := k + c x) (i := i) (by simpa using h)
  rw [mkL, atI_nat, atI_nat, List.getD_cons_succ, List.getD_cons_succ, <- atI_nat, ih, <- atI_nat]
  congr 1
  simp only [ctL, List.take_succ_cons, List.map_cons, List.sum_cons]
  omega
theorem ctL_take {c : α -> Nat} {xs : List α} {i : Nat} (h : i < xs.length) : ctL c (xs.take (i + 1)) = ctL c (xs.take i) + c (atI xs i) := by
 rw [List.take_succ_eq_append_getElem h, atI_get h]
 unfold ctL
 rw [List.map_append, List.sum_append]
 simp
omit [Inhabited α] in
theorem ctL_take_le {c : α -> Nat} : ∀ {xs : List α} {i : Nat}, ctL c (xs.take i) <= ctL c xs
 | [], i => by simp
 | x :: xs, 0 => by simp [ctL]
 | x :: xs, i + 1 => by
  have := ctL_take_le (c := c) (xs := xs) (i := i)
  simp only [ctL, List.take_succ_cons, List.map_cons, List.sum_cons] at this ⊢
  omega
theorem ctL_get_le {c : α -> Nat} {xs : List α} {i : Nat} (h : i < xs.length) : ctL c (xs.take i) + c (atI xs i) <= ctL c xs := by
 rw [<- ctL_take h]; exact ctL_take_le
def upM (c : α -> Nat) (f : α -> Int -> α) (xs : List α) (k : Int) (i : Nat) : List α := (mkL c f xs k).take i ++ xs.drop i
omit [Inhabited α] in
theorem upM_len {c : α -> Nat} {f : α -> Int -> α} {xs : List α} {k : Int} {i : Nat} (h : i <= xs.length) : (upM c f xs k i).length = xs.length := by
 simp [upM, mkL_len]; omega
theorem upM_at {c : α -> Nat} {f : α -> Int -> α} {xs : List α} {k : Int} {i : Nat} (h : i < xs.length) : atI (upM c f xs k i) (i : Int) = atI xs i := by
 rw [atI_get (by rw [upM_len (by omega)]; exact h), atI_get h]
 unfold upM
 rw [List.getElem_append_right (by simp [mkL_len]; omega)]
 simp [mkL_len, Nat.min_eq_left (Nat.le_of_lt h)]
theorem upM_set {c : α -> Nat} {f : α -> Int -> α} {xs : List α} {k : Int} {i : Nat} (h : i < xs.length) : setI (upM c f xs k i) (i : Int) (f (atI xs i) (k + ctL c (xs.take i))) = upM c f xs k (i + 1) := by
 have hm : i < (mkL c f xs k).length := by rw [mkL_len]; exact h
 unfold upM setI
 rw [Int.toNat_natCast, List.set_append_right _ _ (by simp [mkL_len]; omega), List.take_succ_eq_append_getElem hm, List.append_assoc]
 congr 1
 have e : i - ((mkL c f xs k).take i).length = 0 := by simp [mkL_len]; omega
 rw [e, List.drop_eq_getElem_cons h, List.set_cons_zero]
 have := mkL_at (c := c) (f := f) (k := k) h
 rw [atI_get hm] at this
 rw [this]; rfl
theorem markLoop {body : Tm β} {ρ : List D} {a b d : Atom} [Enc α] (xs : List α) (c : α -> Nat) (f : α -> Int -> α) (k : Int) (h0 : a.val ρ = rL xs) (h0' : b.val ρ = i64 k) (hd : d.val ρ = .undef) (hk : 0 <= k) (hb : k + ctL c xs <= 1152921504606846976)
  (h1 : ∀ (i : Nat) (ys : List α) (m : Int), i < xs.length -> ys.length = xs.length -> InB ys (i : Int) -> decide ((i : Int) < xs.length) = true -> atI ys i = atI xs i -> 0 <= m -> m + c (atI xs i) <= 1152921504606846976 -> xs.length <= 1152921504606846976 -> Er T body (ρ ++ [rL ys, .undef, i64 m, i64 i]) = some (.cont, [rL (setI ys i (f (atI xs i) m)), .undef, i64 (m + c (atI xs i)), i64 ((i : Int) + 1)]))
  (h2 : ∀ (ys : List α) (m : Int), ys.length = xs.length -> decide ((xs.length : Int) < xs.length) = false -> Er T body (ρ ++ [rL ys, .undef, i64 m, i64 xs.length]) = some (.yield 1, [rL ys, i64 m])) (hlen : xs.length <= 1152921504606846976) :
  Er T (.loop [a, d, b, .c (i64 0)] body) ρ = some (.yield 1, [rL (mkL c f xs k), i64 (k + ctL c xs)]) := by
 have key := loopR (T := T) (body := body) (ρ := ρ) (fun i => xs.length - i) (fun i => i <= xs.length) (fun i => [rL (upM c f xs k i), .undef, i64 (k + ctL c (xs.take i)), i64 (i : Nat)]) (fun q => q = (.yield 1, [rL (mkL c f xs k), i64 (k + ctL c xs)]))
  (fun i hi => by
   rcases Nat.lt_or_ge i xs.length with hlt | hge
   ·have h3 := ctL_get_le (c := c) hlt
    refine ⟨_, h1 i (upM c f xs k i) (k + ctL c (xs.take i)) hlt (upM_len hi) (InB_nat.2 (by rw [upM_len hi]; exact hlt)) (by simp; omega) (upM_at hlt) (by omega) (by omega) hlen, .inl ⟨rfl, i + 1, by omega, by omega, ?_⟩⟩
    rw [upM_set hlt, ctL_take hlt]
    simp only [Int.natCast_add, Int.add_assoc]; rfl
   ·obtain rfl : i = xs.length := by omega
    refine ⟨_, h2 _ _ (upM_len hi) (by simp), .inr ⟨by simp, ?_⟩⟩
    have e : upM c f xs k xs.length = mkL c f xs k := by
     unfold upM
     rw [List.drop_length, List.append_nil, List.take_of_length_le (by rw [mkL_len]; omega)]
    rw [e, List.take_length])
  xs.length 0 (by omega) (by omega) [a, d, b, .c (i64 0)] (by show [a.val ρ, d.val ρ, b.val ρ, _] = _; rw [h0, h0', hd]; simp [upM, ctL, Atom.val])
 obtain ⟨q, h4, rfl⟩ := key
 exact h4
theorem heldLoop {body : Tm β} {ρ : List D} {b : Atom} (xs : List α) (c : α -> Nat) (f : α -> Int -> α) (k : Int) (h0' : b.val ρ = i64 k) (hk : 0 <= k) (hb : k + ctL c xs <= 1152921504606846976) (hlen : xs.length <= 1152921504606846976)
  (h1 : ∀ (i : Nat) (m : Int), i < xs.length -> InB (mkL c f xs k) (i : Int) -> (mkL c f xs k).length = xs.length -> decide ((i : Int) < xs.length) = true -> atI (mkL c f xs k) i = f (atI xs i) m -> 0 <= m -> m + c (atI xs i) <= 1152921504606846976 -> xs.length <= 1152921504606846976 -> Er T body (ρ ++ [i64 m, i64 i]) = some (.cont, [i64 (m + c (atI xs i)), i64 ((i : Int) + 1)]))
  (h2 : ∀ m : Int, (mkL c f xs k).length = xs.length -> decide ((xs.length : Int) < xs.length) = false -> Er T body (ρ ++ [i64 m, i64 xs.length]) = some (.yield 1, [i64 m])) :
  Er T (.loop [b, .c (i64 0)] body) ρ = some (.yield 1, [i64 (k + ctL c xs)]) := by
 have key := loopR (T := T) (body := body) (ρ := ρ) (fun i => xs.length - i) (fun i => i <= xs.length) (fun i => [i64 (k + ctL c (xs.take i)), i64 (i : Nat)]) (fun q => q = (.yield 1, [i64 (k + ctL c xs)]))
  (fun i hi => by
   rcases Nat.lt_or_ge i xs.length with hlt | hge
   ·have h3 := ctL_get_le (c := c) hlt
    refine ⟨_, h1 i (k + ctL c (xs.take i)) hlt (InB_nat.2 (by rw [mkL_len]; exact hlt)) mkL_len (by simp; omega) (mkL_at hlt) (by omega) (by omega) hlen, .inl ⟨rfl, i + 1, by omega, by omega, ?_⟩⟩
    rw [ctL_take hlt]
    simp only [Int.natCast_add, Int.add_assoc]; rfl
   ·obtain rfl : i = xs.length := by omega
    refine ⟨_, h2 _ mkL_len (by simp), .inr ⟨by simp, ?_⟩⟩
    rw [List.take_length])
  xs.length 0 (by omega) (by omega) [b, .c (i64 0)] (by show [b.val ρ, _] = _; rw [h0']; simp [ctL, Atom.val])
 obtain ⟨q, h4, rfl⟩ := key
 exact h4
end
theorem ctL_le {α : Type} {c f : α -> Nat} {m : Nat} (hm : 1 <= m) (h : ∀ x, c x <= m + m * f x) : ∀ xs : List α, ctL c xs <= m * szL f xs
 | [] => by simp [ctL]
 | x :: xs => by
  have ih := ctL_le hm h xs
  have h1 := h x
  rw [szL_cons]
  simp only [ctL, List.map_cons, List.sum_cons] at ih ⊢
  rw [Nat.mul_add, Nat.mul_add]
  omega
theorem lt0 {k : Int} (h : 0 <= k) : decide (k < 0) = false := by simp; omega
theorem ltm1 : decide ((-1 : Int) < 0) = true := rfl
theorem WT_rL {α : Type} [Enc α] {tys : List Ty} {bytes : Nat} {P : α -> Prop} {d : D} (hs : tys.length = Enc.sz α) (hd : ∀ ds, WTs tys ds -> ∃ a : α, ds = Enc.enc a /\ P a) (h : WT (.sl bytes tys) d) : ∃ xs : List α, d = rL xs /\ xs.length * bytes <= reachBytes /\ ∀ x ∈ xs, P x := by
 simp only [WT] at h
 obtain ⟨rs, rfl, h1, h2⟩ := h
 have key : ∀ rs : List (List D), (∀ r ∈ rs, WTs tys r) -> ∃ xs : List α, rs = xs.map Enc.enc /\ ∀ x ∈ xs, P x := by
  intro rs
  induction rs with
  | nil => exact fun _ => ⟨[], rfl, by simp⟩
  | cons r rs ih =>
   intro h
   obtain ⟨xs, hx, hp⟩ := ih fun r hr => h r (List.mem_cons_of_mem _ hr)
   obtain ⟨a, ha, hpa⟩ := hd r (h r List.mem_cons_self)
   exact ⟨a :: xs, by rw [hx, ha]; rfl, by simpa using ⟨hpa, hp⟩⟩
 obtain ⟨xs, rfl, hp⟩ := key rs h2
 exact ⟨xs, by rw [hs]; rfl, by simpa using h1, hp⟩
theorem WT_int {d : D} (h : WT (.int .i64) d) : ∃ n : Int, d = i64 n /\ -9223372036854775808 <= n /\ n <= 9223372036854775807 := by
 obtain ⟨n, rfl, h1, h2⟩ := h
 exact ⟨n, rfl, h1, h2⟩
theorem WT_bool {d : D} (h : WT .bool d) : ∃ b : Bool, d = .bool b := h
theorem reach_len {n b : Nat} (h : n * b <= reachBytes) (hb : 0 < b) : n <= reachBytes := Nat.le_trans (Nat.le_mul_of_pos_right n hb) h
end Go.Proofs.YtmpakpgonfnadaaGreat.Rf

namespace Go.Proofs.YtmpakpgonfnadaaGreat.Rf
set_option linter.unusedVariables false
set_option linter.unusedSimpArgs false
theorem dec_int (ds : List D) (h : WTs [.int .i64] ds) : ∃ x : Int, ds = Enc.enc x /\ True := by
 simp only [WTs] at h
 obtain ⟨d, r, rfl, w, rfl⟩ := h
 obtain ⟨x, rfl, -, -⟩ := WT_int w
 exact ⟨x, rfl, trivial⟩
def ct_TCmd (x : TCmd) : Nat := 1 + 1 + 1 + 1 + 1
theorem ctu_TCmd (x : TCmd) : ct_TCmd x = 5 := by
 unfold ct_TCmd
 try omega
def sz_TAttr (x : TAttr) : Nat := szL (fun _ => 0) x.deps
def wf_TAttr (x : TAttr) : Prop := (x.deps.length <= 140737488351232)
def ct_TAttr (x : TAttr) : Nat := 1 + ctL (fun _ => 1) x.deps
theorem ctu_TAttr (x : TAttr) : ct_TAttr x = 1 + ctL (fun _ => 1) x.deps := by
 unfold ct_TAttr
 try omega
theorem szu_TAttr (x : TAttr) : sz_TAttr x = x.deps.length := by
 unfold sz_TAttr
 simp only [szL_zero]
 try omega
def sz_TRow (x : TRow) : Nat := sz_TAttr x.attr
def wf_TRow (x : TRow) : Prop := (wf_TAttr x.attr)
def ct_TRow (x : TRow) : Nat := 1 + 1 + 1 + ct_TCmd x.cmd + ct_TAttr x.attr
def mk_TRow (x : TRow) (k : Int) : TRow := ⟨(k), (k + 1), (k + 1 + 1), ⟨(k + 1 + 1 + 1), (k + 1 + 1 + 1 + 1), (k + 1 + 1 + 1 + 1 + 1), (k + 1 + 1 + 1 + 1 + 1 + 1), (k + 1 + 1 + 1 + 1 + 1 + 1 + 1)⟩, ⟨(k + 1 + 1 + 1 + 1 + 1 + 1 + 1 + 1), (mkL (fun _ => 1) (fun _ k => k) x.attr.deps (k + 1 + 1 + 1 + 1 + 1 + 1 + 1 + 1 + 1))⟩⟩
theorem ctu_TRow (x : TRow) : ct_TRow x = 9 + ctL (fun _ => 1) x.attr.deps := by
 unfold ct_TRow
 simp only [ctu_TCmd]
 simp only [ctu_TAttr]
 try omega
theorem szu_TRow (x : TRow) : sz_TRow x = x.attr.deps.length := by
 unfold sz_TRow
 simp only [szL_zero, szu_TAttr]
 try omega
theorem ctb_TRow (x : TRow) : ct_TRow x <= 16 + 16 * sz_TRow x := by
 have h0 := ctL_le (c := (fun _ => 1)) (f := (fun _ => 0)) (m := 16) (by omega) (fun _ => by simp) x.attr.deps
 rw [ctu_TRow, szu_TRow]
 try simp only [szL_zero] at *
 omega
theorem dec_TRow (ds : List D) (h : WTs [.int .i64, .int .i64, .int .i64, .int .i64, .int .i64, .int .i64, .int .i64, .int .i64, .int .i64, .sl 8 [.int .i64]] ds) : ∃ x : TRow, ds = Enc.enc x /\ wf_TRow x := by
 simp only [WTs] at h
 obtain ⟨d0, r0, rfl, w0, d1, r1, rfl, w1, d2, r2, rfl, w2, d3, r3, rfl, w3, d4, r4, rfl, w4, d5, r5, rfl, w5, d6, r6, rfl, w6, d7, r7, rfl, w7, d8, r8, rfl, w8, d9, r9, rfl, w9, rfl⟩ := h
 obtain ⟨x0, rfl, -, -⟩ := WT_int w0
 obtain ⟨x1, rfl, -, -⟩ := WT_int w1
 obtain ⟨x2, rfl, -, -⟩ := WT_int w2
 obtain ⟨x3, rfl, -, -⟩ := WT_int w3
 obtain ⟨x4, rfl, -, -⟩ := WT_int w4
 obtain ⟨x5, rfl, -, -⟩ := WT_int w5
 obtain ⟨x6, rfl, -, -⟩ := WT_int w6
 obtain ⟨x7, rfl, -, -⟩ := WT_int w7
 obtain ⟨x8, rfl, -, -⟩ := WT_int w8
 obtain ⟨x9, rfl, l9, p9⟩ := WT_rL (α := Int) (P := fun _ => True) rfl dec_int w9
 exact ⟨⟨x0, x1, x2, ⟨x3, x4, x5, x6, x7⟩, ⟨x8, x9⟩⟩, rfl, reach_len l9 (by decide)⟩
theorem dec_LTRow (ds : List D) (h : WTs [.sl 96 [.int .i64, .int .i64, .int .i64, .int .i64, .int .i64, .int .i64, .int .i64, .int .i64, .int .i64, .sl 8 [.int .i64]]] ds) : ∃ x : (List TRow), ds = Enc.enc x /\ x.length <= 140737488351232 /\ ∀ y0 ∈ x, wf_TRow y0 := by
 simp only [WTs] at h
 obtain ⟨d, r, rfl, w, rfl⟩ := h
 obtain ⟨x, rfl, l, p⟩ := WT_rL (α := TRow) (P := fun y => wf_TRow y) rfl dec_TRow w
 exact ⟨x, rfl, ⟨reach_len l (by decide), p⟩⟩
def sz_TTable (x : TTable) : Nat := szL (szL sz_TRow) x.rows
def wf_TTable (x : TTable) : Prop := (x.rows.length <= 140737488351232 /\ ∀ y0 ∈ x.rows, y0.length <= 140737488351232 /\ ∀ y1 ∈ y0, wf_TRow y1)
def ct_TTable (x : TTable) : Nat := 1 + ctL (ctL ct_TRow) x.rows
theorem ctu_TTable (x : TTable) : ct_TTable x = 1 + ctL (ctL ct_TRow) x.rows := by
 unfold ct_TTable
 try omega
theorem szu_TTable (x : TTable) : sz_TTable x = szL (szL sz_TRow) x.rows := by
 unfold sz_TTable
 simp only [szL_zero]
 try omega
def sz_TLead (x : TLead) : Nat := sz_TAttr x.first + sz_TAttr x.attr + szL (fun _ => 0) x.who + szL sz_TRow x.seen
def wf_TLead (x : TLead) : Prop := (wf_TAttr x.first) /\ (wf_TAttr x.attr) /\ (x.who.length <= 140737488351232) /\ (x.seen.length <= 140737488351232 /\ ∀ y0 ∈ x.seen, wf_TRow y0)
def ct_TLead (x : TLead) : Nat := 1 + 1 + 1 + 1 + ct_TCmd x.cmd + ct_TAttr x.first + ct_TAttr x.attr + 1 + ctL (fun _ => 1) x.who + ctL ct_TRow x.seen
def mk_TLead (x : TLead) (k : Int) : TLead := ⟨(k), (k + 1), (k + 1 + 1), (k + 1 + 1 + 1), ⟨(k + 1 + 1 + 1 + 1), (k + 1 + 1 + 1 + 1 + 1), (k + 1 + 1 + 1 + 1 + 1 + 1), (k + 1 + 1 + 1 + 1 + 1 + 1 + 1), (k + 1 + 1 + 1 + 1 + 1 + 1 + 1 + 1)⟩, ⟨(k + 1 + 1 + 1 + 1 + 1 + 1 + 1 + 1 + 1), (mkL (fun _ => 1) (fun _ k => k) x.first.deps (k + 1 + 1 + 1 + 1 + 1 + 1 + 1 + 1 + 1 + 1))⟩, ⟨(k + 1 + 1 + 1 + 1 + 1 + 1 + 1 + 1 + 1 + 1 + (ctL (fun _ => 1) x.first.deps : Nat)), (mkL (fun _ => 1) (fun _ k => k) x.attr.deps (k + 1 + 1 + 1 + 1 + 1 + 1 + 1 + 1 + 1 + 1 + (ctL (fun _ => 1) x.first.deps : Nat) + 1))⟩, ((k + 1 + 1 + 1 + 1 + 1 + 1 + 1 + 1 + 1 + 1 + (ctL (fun _ => 1) x.first.deps : Nat) + 1 + (ctL (fun _ => 1) x.attr.deps : Nat)) % 3 == 0), (mkL (fun _ => 1) (fun _ k => k) x.who (k + 1 + 1 + 1 + 1 + 1 + 1 + 1 + 1 + 1 + 1 + (ctL (fun _ => 1) x.first.deps : Nat) + 1 + (ctL (fun _ => 1) x.attr.deps : Nat) + 1)), (mkL ct_TRow mk_TRow x.seen (k + 1 + 1 + 1 + 1 + 1 + 1 + 1 + 1 + 1 + 1 + (ctL (fun _ => 1) x.first.deps : Nat) + 1 + (ctL (fun _ => 1) x.attr.deps : Nat) + 1 + (ctL (fun _ => 1) x.who : Nat)))⟩
theorem ctu_TLead (x : TLead) : ct_TLead x = 12 + ctL (fun _ => 1) x.first.deps + ctL (fun _ => 1) x.attr.deps + ctL (fun _ => 1) x.who + ctL ct_TRow x.seen := by
 unfold ct_TLead
 simp only [ctu_TCmd]
 simp only [ctu_TAttr]
 try omega
theorem szu_TLead (x : TLead) : sz_TLead x = x.first.deps.length + x.attr.deps.length + x.who.length + szL sz_TRow x.seen := by
 unfold sz_TLead
 simp only [szL_zero, szu_TAttr]
 try omega
theorem ctb_TLead (x : TLead) : ct_TLead x <= 16 + 16 * sz_TLead x := by
 have h0 := ctL_le (c := (fun _ => 1)) (f := (fun _ => 0)) (m := 16) (by omega) (fun _ => by simp) x.first.deps
 have h1 := ctL_le (c := (fun _ => 1)) (f := (fun _ => 0)) (m := 16) (by omega) (fun _ => by simp) x.attr.deps
 have h2 := ctL_le (c := (fun _ => 1)) (f := (fun _ => 0)) (m := 16) (by omega) (fun _ => by simp) x.who
 have h3 := ctL_le (c := ct_TRow) (f := sz_TRow) (m := 16) (by omega) ctb_TRow x.seen
 rw [ctu_TLead, szu_TLead]
 try simp only [szL_zero] at *
 omega
theorem dec_TLead (ds : List D) (h : WTs [.int .i64, .int .i64, .int .i64, .int .i64, .int .i64, .int .i64, .int .i64, .int .i64, .int .i64, .int .i64, .sl 8 [.int .i64], .int .i64, .sl 8 [.int .i64], .bool, .sl 8 [.int .i64], .sl 96 [.int .i64, .int .i64, .int .i64, .int .i64, .int .i64, .int .i64, .int .i64, .int .i64, .int .i64, .sl 8 [.int .i64]]] ds) : ∃ x : TLead, ds = Enc.enc x /\ wf_TLead x := by
 simp only [WTs] at h
 obtain ⟨d0, r0, rfl, w0, d1, r1, rfl, w1, d2, r2, rfl, w2, d3, r3, rfl, w3, d4, r4, rfl, w4, d5, r5, rfl, w5, d6, r6, rfl, w6, d7, r7, rfl, w7, d8, r8, rfl, w8, d9, r9, rfl, w9, d10, r10, rfl, w10, d11, r11, rfl, w11, d12, r12, rfl, w12, d13, r13, rfl, w13, d14, r14, rfl, w14, d15, r15, rfl, w15, rfl⟩ := h
 obtain ⟨x0, rfl, -, -⟩ := WT_int w0
 obtain ⟨x1, rfl, -, -⟩ := WT_int w1
 obtain ⟨x2, rfl, -, -⟩ := WT_int w2
 obtain ⟨x3, rfl, -, -⟩ := WT_int w3
 obtain ⟨x4, rfl, -, -⟩ := WT_int w4
 obtain ⟨x5, rfl, -, -⟩ := WT_int w5
 obtain ⟨x6, rfl, -, -⟩ := WT_int w6
 obtain ⟨x7, rfl, -, -⟩ := WT_int w7
 obtain ⟨x8, rfl, -, -⟩ := WT_int w8
 obtain ⟨x9, rfl, -, -⟩ := WT_int w9
 obtain ⟨x10, rfl, l10, p10⟩ := WT_rL (α := Int) (P := fun _ => True) rfl dec_int w10
 obtain ⟨x11, rfl, -, -⟩ := WT_int w11
 obtain ⟨x12, rfl, l12, p12⟩ := WT_rL (α := Int) (P := fun _ => True) rfl dec_int w12
 obtain ⟨x13, rfl⟩ := WT_bool w13
 obtain ⟨x14, rfl, l14, p14⟩ := WT_rL (α := Int) (P := fun _ => True) rfl dec_int w14
 obtain ⟨x15, rfl, l15, p15⟩ := WT_rL (α := TRow) (P := fun y => wf_TRow y) rfl dec_TRow w15
 exact ⟨⟨x0, x1, x2, x3, ⟨x4, x5, x6, x7, x8⟩, ⟨x9, x10⟩, ⟨x11, x12⟩, x13, x14, x15⟩, rfl, ⟨reach_len l10 (by decide), reach_len l12 (by decide), reach_len l14 (by decide), ⟨reach_len l15 (by decide), p15⟩⟩⟩
def sz_TRep (x : TRep) : Nat := sz_TTable x.table + szL sz_TLead x.leads
def wf_TRep (x : TRep) : Prop := (wf_TTable x.table) /\ (x.leads.length <= 140737488351232 /\ ∀ y0 ∈ x.leads, wf_TLead y0)
def ct_TRep (x : TRep) : Nat := 1 + ct_TTable x.table + ctL ct_TLead x.leads
def mk_TRep (x : TRep) (k : Int) : TRep := ⟨(k), ⟨(k + 1), (mkL (ctL ct_TRow) (mkL ct_TRow mk_TRow) x.table.rows (k + 1 + 1))⟩, (mkL ct_TLead mk_TLead x.leads (k + 1 + 1 + (ctL (ctL ct_TRow) x.table.rows : Nat)))⟩
theorem ctu_TRep (x : TRep) : ct_TRep x = 2 + ctL (ctL ct_TRow) x.table.rows + ctL ct_TLead x.leads := by
 unfold ct_TRep
 simp only [ctu_TTable]
 try omega
theorem szu_TRep (x : TRep) : sz_TRep x = szL (szL sz_TRow) x.table.rows + szL sz_TLead x.leads := by
 unfold sz_TRep
 simp only [szL_zero, szu_TTable]
 try omega
theorem ctb_TRep (x : TRep) : ct_TRep x <= 16 + 16 * sz_TRep x := by
 have h0 := ctL_le (c := (ctL ct_TRow)) (f := (szL sz_TRow)) (m := 16) (by omega) (fun xs => Nat.le_trans (ctL_le (c := ct_TRow) (f := sz_TRow) (m := 16) (by omega) ctb_TRow xs) (Nat.le_add_left _ _)) x.table.rows
 have h1 := ctL_le (c := ct_TLead) (f := sz_TLead) (m := 16) (by omega) ctb_TLead x.leads
 rw [ctu_TRep, szu_TRep]
 try simp only [szL_zero] at *
 omega
theorem dec_TRep (ds : List D) (h : WTs [.int .i64, .int .i64, .sl 24 [.sl 96 [.int .i64, .int .i64, .int .i64, .int .i64, .int .i64, .int .i64, .int .i64, .int .i64, .int .i64, .sl 8 [.int .i64]]], .sl 192 [.int .i64, .int .i64, .int .i64, .int .i64, .int .i64, .int .i64, .int .i64, .int .i64, .int .i64, .int .i64, .sl 8 [.int .i64], .int .i64, .sl 8 [.int .i64], .bool, .sl 8 [.int .i64], .sl 96 [.int .i64, .int .i64, .int .i64, .int .i64, .int .i64, .int .i64, .int .i64, .int .i64, .int .i64, .sl 8 [.int .i64]]]] ds) : ∃ x : TRep, ds = Enc.enc x /\ wf_TRep x := by
 simp only [WTs] at h
 obtain ⟨d0, r0, rfl, w0, d1, r1, rfl, w1, d2, r2, rfl, w2, d3, r3, rfl, w3, rfl⟩ := h
 obtain ⟨x0, rfl, -, -⟩ := WT_int w0
 obtain ⟨x1, rfl, -, -⟩ := WT_int w1
 obtain ⟨x2, rfl, l2, p2⟩ := WT_rL (α := (List TRow)) (P := fun y => y.length <= 140737488351232 /\ ∀ y0 ∈ y, wf_TRow y0) rfl (dec_LTRow) w2
 obtain ⟨x3, rfl, l3, p3⟩ := WT_rL (α := TLead) (P := fun y => wf_TLead y) rfl dec_TLead w3
 exact ⟨⟨x0, ⟨x1, x2⟩, x3⟩, rfl, ⟨⟨reach_len l2 (by decide), p2⟩, ⟨reach_len l3 (by decide), p3⟩⟩⟩
def sz_TMsg (x : TMsg) : Nat := sz_TAttr x.attr
def wf_TMsg (x : TMsg) : Prop := (wf_TAttr x.attr)
def ct_TMsg (x : TMsg) : Nat := 1 + 1 + 1 + 1 + 1 + 1 + 1 + 1 + ct_TCmd x.cmd + ct_TAttr x.attr
def mk_TMsg (x : TMsg) (k : Int) : TMsg := ⟨(k), (k + 1), (k + 1 + 1), (k + 1 + 1 + 1), (k + 1 + 1 + 1 + 1), (k + 1 + 1 + 1 + 1 + 1), (k + 1 + 1 + 1 + 1 + 1 + 1), (k + 1 + 1 + 1 + 1 + 1 + 1 + 1), ⟨(k + 1 + 1 + 1 + 1 + 1 + 1 + 1 + 1), (k + 1 + 1 + 1 + 1 + 1 + 1 + 1 + 1 + 1), (k + 1 + 1 + 1 + 1 + 1 + 1 + 1 + 1 + 1 + 1), (k + 1 + 1 + 1 + 1 + 1 + 1 + 1 + 1 + 1 + 1 + 1), (k + 1 + 1 + 1 + 1 + 1 + 1 + 1 + 1 + 1 + 1 + 1 + 1)⟩, ⟨(k + 1 + 1 + 1 + 1 + 1 + 1 + 1 + 1 + 1 + 1 + 1 + 1 + 1), (mkL (fun _ => 1) (fun _ k => k) x.attr.deps (k + 1 + 1 + 1 + 1 + 1 + 1 + 1 + 1 + 1 + 1 + 1 + 1 + 1 + 1))⟩⟩
theorem ctu_TMsg (x : TMsg) : ct_TMsg x = 14 + ctL (fun _ => 1) x.attr.deps := by
 unfold ct_TMsg
 simp only [ctu_TCmd]
 simp only [ctu_TAttr]
 try omega
theorem szu_TMsg (x : TMsg) : sz_TMsg x = x.attr.deps.length := by
 unfold sz_TMsg
 simp only [szL_zero, szu_TAttr]
 try omega
theorem ctb_TMsg (x : TMsg) : ct_TMsg x <= 16 + 16 * sz_TMsg x := by
 have h0 := ctL_le (c := (fun _ => 1)) (f := (fun _ => 0)) (m := 16) (by omega) (fun _ => by simp) x.attr.deps
 rw [ctu_TMsg, szu_TMsg]
 try simp only [szL_zero] at *
 omega
theorem dec_TMsg (ds : List D) (h : WTs [.int .i64, .int .i64, .int .i64, .int .i64, .int .i64, .int .i64, .int .i64, .int .i64, .int .i64, .int .i64, .int .i64, .int .i64, .int .i64, .int .i64, .sl 8 [.int .i64]] ds) : ∃ x : TMsg, ds = Enc.enc x /\ wf_TMsg x := by
 simp only [WTs] at h
 obtain ⟨d0, r0, rfl, w0, d1, r1, rfl, w1, d2, r2, rfl, w2, d3, r3, rfl, w3, d4, r4, rfl, w4, d5, r5, rfl, w5, d6, r6, rfl, w6, d7, r7, rfl, w7, d8, r8, rfl, w8, d9, r9, rfl, w9, d10, r10, rfl, w10, d11, r11, rfl, w11, d12, r12, rfl, w12, d13, r13, rfl, w13, d14, r14, rfl, w14, rfl⟩ := h
 obtain ⟨x0, rfl, -, -⟩ := WT_int w0
 obtain ⟨x1, rfl, -, -⟩ := WT_int w1
 obtain ⟨x2, rfl, -, -⟩ := WT_int w2
 obtain ⟨x3, rfl, -, -⟩ := WT_int w3
 obtain ⟨x4, rfl, -, -⟩ := WT_int w4
 obtain ⟨x5, rfl, -, -⟩ := WT_int w5
 obtain ⟨x6, rfl, -, -⟩ := WT_int w6
 obtain ⟨x7, rfl, -, -⟩ := WT_int w7
 obtain ⟨x8, rfl, -, -⟩ := WT_int w8
 obtain ⟨x9, rfl, -, -⟩ := WT_int w9
 obtain ⟨x10, rfl, -, -⟩ := WT_int w10
 obtain ⟨x11, rfl, -, -⟩ := WT_int w11
 obtain ⟨x12, rfl, -, -⟩ := WT_int w12
 obtain ⟨x13, rfl, -, -⟩ := WT_int w13
 obtain ⟨x14, rfl, l14, p14⟩ := WT_rL (α := Int) (P := fun _ => True) rfl dec_int w14
 exact ⟨⟨x0, x1, x2, x3, x4, x5, x6, x7, ⟨x8, x9, x10, x11, x12⟩, ⟨x13, x14⟩⟩, rfl, reach_len l14 (by decide)⟩
def ct_TAsked (x : TAsked) : Nat := 1 + 1 + ct_TCmd x.cmd
def mk_TAsked (x : TAsked) (k : Int) : TAsked := ⟨(k), (k + 1), ⟨(k + 1 + 1), (k + 1 + 1 + 1), (k + 1 + 1 + 1 + 1), (k + 1 + 1 + 1 + 1 + 1), (k + 1 + 1 + 1 + 1 + 1 + 1)⟩⟩
theorem ctu_TAsked (x : TAsked) : ct_TAsked x = 7 := by
 unfold ct_TAsked
 simp only [ctu_TCmd]
 try omega
theorem ctb_TAsked (x : TAsked) : ct_TAsked x <= 16 + 16 * (fun _ : TAsked => 0) x := by
 rw [ctu_TAsked]
 simp
theorem dec_TAsked (ds : List D) (h : WTs [.int .i64, .int .i64, .int .i64, .int .i64, .int .i64, .int .i64, .int .i64] ds) : ∃ x : TAsked, ds = Enc.enc x /\ True := by
 simp only [WTs] at h
 obtain ⟨d0, r0, rfl, w0, d1, r1, rfl, w1, d2, r2, rfl, w2, d3, r3, rfl, w3, d4, r4, rfl, w4, d5, r5, rfl, w5, d6, r6, rfl, w6, rfl⟩ := h
 obtain ⟨x0, rfl, -, -⟩ := WT_int w0
 obtain ⟨x1, rfl, -, -⟩ := WT_int w1
 obtain ⟨x2, rfl, -, -⟩ := WT_int w2
 obtain ⟨x3, rfl, -, -⟩ := WT_int w3
 obtain ⟨x4, rfl, -, -⟩ := WT_int w4
 obtain ⟨x5, rfl, -, -⟩ := WT_int w5
 obtain ⟨x6, rfl, -, -⟩ := WT_int w6
 exact ⟨⟨x0, x1, ⟨x2, x3, x4, x5, x6⟩⟩, rfl, trivial⟩
def sz_TNet (x : TNet) : Nat := szL sz_TRep x.reps + szL sz_TMsg x.bag + szL (fun _ => 0) x.asked
def wf_TNet (x : TNet) : Prop := (x.reps.length <= 140737488351232 /\ ∀ y0 ∈ x.reps, wf_TRep y0) /\ (x.bag.length <= 140737488351232 /\ ∀ y0 ∈ x.bag, wf_TMsg y0) /\ (x.asked.length <= 140737488351232)
theorem szu_TNet (x : TNet) : sz_TNet x = szL sz_TRep x.reps + szL sz_TMsg x.bag + x.asked.length := by
 unfold sz_TNet
 simp only [szL_zero]
 try omega
theorem dec_TNet (ds : List D) (h : WTs [.sl 64 [.int .i64, .int .i64, .sl 24 [.sl 96 [.int .i64, .int .i64, .int .i64, .int .i64, .int .i64, .int .i64, .int .i64, .int .i64, .int .i64, .sl 8 [.int .i64]]], .sl 192 [.int .i64, .int .i64, .int .i64, .int .i64, .int .i64, .int .i64, .int .i64, .int .i64, .int .i64, .int .i64, .sl 8 [.int .i64], .int .i64, .sl 8 [.int .i64], .bool, .sl 8 [.int .i64], .sl 96 [.int .i64, .int .i64, .int .i64, .int .i64, .int .i64, .int .i64, .int .i64, .int .i64, .int .i64, .sl 8 [.int .i64]]]], .sl 136 [.int .i64, .int .i64, .int .i64, .int .i64, .int .i64, .int .i64, .int .i64, .int .i64, .int .i64, .int .i64, .int .i64, .int .i64, .int .i64, .int .i64, .sl 8 [.int .i64]], .sl 56 [.int .i64, .int .i64, .int .i64, .int .i64, .int .i64, .int .i64, .int .i64]] ds) : ∃ x : TNet, ds = Enc.enc x /\ wf_TNet x := by
 simp only [WTs] at h
 obtain ⟨d0, r0, rfl, w0, d1, r1, rfl, w1, d2, r2, rfl, w2, rfl⟩ := h
 obtain ⟨x0, rfl, l0, p0⟩ := WT_rL (α := TRep) (P := fun y => wf_TRep y) rfl dec_TRep w0
 obtain ⟨x1, rfl, l1, p1⟩ := WT_rL (α := TMsg) (P := fun y => wf_TMsg y) rfl dec_TMsg w1
 obtain ⟨x2, rfl, l2, p2⟩ := WT_rL (α := TAsked) (P := fun y => True) rfl dec_TAsked w2
 exact ⟨⟨x0, x1, x2⟩, rfl, ⟨⟨reach_len l0 (by decide), p0⟩, ⟨reach_len l1 (by decide), p1⟩, reach_len l2 (by decide)⟩⟩
end Go.Proofs.YtmpakpgonfnadaaGreat.Rf

namespace Go.Proofs.YtmpakpgonfnadaaGreat.Rf
set_option linter.unusedVariables false
set_option linter.unusedSimpArgs false
theorem SZ : (∀ b : Bool, (b && true) = b) /\ (∀ b : Bool, (true && b) = b) /\ (∀ b : Bool, (b && false) = false) /\ (∀ b : Bool, (false && b) = false) /\
  (∀ b : Bool, (b || true) = true) /\ (∀ b : Bool, (true || b) = true) /\ (∀ b : Bool, (b || false) = b) /\ (∀ b : Bool, (false || b) = b) /\ ((!true) = false) /\ ((!false) = true) :=
 ⟨Bool.and_true, Bool.true_and, Bool.and_false, Bool.false_and, Bool.or_true, Bool.true_or, Bool.or_false, Bool.false_or, rfl, rfl⟩
theorem fork_in {γ : Type} {a r : γ} (h : forkT true a r = r) : a = r := h
theorem S0 : type_of% (And.intro Bool.false_eq_true (And.intro @ite_true.{1} (And.intro @ite_false.{1} (And.intro @SA (And.intro @SB (And.intro @SC (And.intro @SP (And.intro @SQ (And.intro @SZ (And.intro @beq_self_eq_true.{0} (And.intro @decide_true (And.intro @decide_false (And.intro @cast1 @S_eta))))))))))))) := And.intro Bool.false_eq_true (And.intro @ite_true.{1} (And.intro @ite_false.{1} (And.intro @SA (And.intro @SB (And.intro @SC (And.intro @SP (And.intro @SQ (And.intro @SZ (And.intro @beq_self_eq_true.{0} (And.intro @decide_true (And.intro @decide_false (And.intro @cast1 @S_eta))))))))))))
theorem bool_fin {x y : Bool} (h : x = true ↔ y = true) : some [D.bool x] = some [D.bool y] := by rw [Bool.eq_iff_iff.2 h]
def isGrp (n : Int) : Bool := n == 3 || n == 5
theorem isGrp_rng {n : Int} (h : isGrp n = true) : n = 3 \/ n = 5 := by simpa [isGrp] using h
def inst (n rep no : Int) : Bool := inR rep 0 (n - 1) && inR no 1 6
def cmdOk (c : TCmd) : Bool :=
 if c.kind == 0 then decide (c = ⟨0, 0, 0, 0, 0⟩) else if c.kind == 1 then inR c.id 1 999 && inR c.src 0 3 && inR c.dst 0 3 && !(c.src == c.dst) && inR c.amt 1 1000
 else c.kind == 2 && inR c.id 1 999 && inR c.src 0 3 && c.dst == 0 && c.amt == 0
def cmdCode (c : TCmd) : Int :=
 if !inR c.src 0 3 || (c.kind == 1 && !inR c.dst 0 3) then 4 else if c.kind == 1 && c.src == c.dst then 5 else if !inR c.id 1 999 || (c.kind == 1 && !inR c.amt 1 1000) then 6 else 0
def attrOk (n : Int) (a : TAttr) : Bool := inR a.seq 0 999 && (a.deps.length : Int) == n && a.deps.all fun x => inR x 0 6
def none0 (n : Int) : TAttr := ⟨0, List.replicate n.toNat 0⟩
def rowOk (n : Int) (r : TRow) : Bool :=
 inR r.ballot 0 9999 && inR r.vote 0 r.ballot && inR r.state 0 3 && (if r.state == 0 then r.vote == 0 && decide (r.cmd = ⟨0, 0, 0, 0, 0⟩) && decide (r.attr = none0 n) else cmdOk r.cmd && attrOk n r.attr)
def msgOk (n : Int) (m : TMsg) : Bool :=
  isGrp n && inR m.kind 1 7 && inst n m.rep m.no && inR m.src 0 (n - 1) && inR m.dst 0 (n - 1) && !(m.src == m.dst) && inR m.ballot 0 9999 &&
  (if m.kind == 7 then !(m.state == 3) && rowOk n ⟨m.ballot, m.vote, m.state, m.cmd, m.attr⟩
   else !(m.kind == 5 && !(m.ballot == 0)) && m.vote == 0 && m.state == 0 && cmdOk m.cmd && attrOk n m.attr &&
     (if m.kind == 2 then decide (m.cmd = ⟨0, 0, 0, 0, 0⟩) else if m.kind == 4 || m.kind == 6 then decide (m.cmd = ⟨0, 0, 0, 0, 0⟩) && decide (m.attr = none0 n) else true))
theorem none0_ok {n : Int} (h : isGrp n = true) : attrOk n (none0 n) = true := by
 rcases isGrp_rng h with rfl | rfl <;> rfl
theorem cmdZ_ok {c : TCmd} (h : decide (c = ⟨0, 0, 0, 0, 0⟩) = true) : cmdOk c = true := by
 rw [of_decide_eq_true h]; rfl
theorem cmdCode0 {c : TCmd} : (cmdCode c == 0) = (inR c.src 0 3 && inR c.id 1 999 && (!(c.kind == 1) || (inR c.dst 0 3 && !(c.src == c.dst) && inR c.amt 1 1000))) := by
 unfold cmdCode
 cases inR c.src 0 3 <;> cases inR c.id 1 999 <;> cases c.kind == 1 <;> cases inR c.dst 0 3 <;> cases c.src == c.dst <;> cases inR c.amt 1 1000 <;> rfl
def smRows (xs : List TRow) : Prop := xs.length <= 10000000000 /\ ∀ r ∈ xs, r.attr.deps.length <= 10000000000
def smTab (rows : List (List TRow)) : Prop := rows.length <= 10000000000 /\ ∀ l ∈ rows, smRows l
theorem sz_row (r : TRow) : sz_TRow r = r.attr.deps.length := szL_zero
theorem smRows_of {xs : List TRow} (h : szL sz_TRow xs <= 1048576) : smRows xs := by
 refine ⟨Nat.le_trans (szL_len (f := sz_TRow)) (by omega), fun r hr => ?_⟩
 have h1 := szL_mem (f := sz_TRow) hr
 rw [sz_row] at h1
 omega
theorem smTab_of {rows : List (List TRow)} (h : szL (szL sz_TRow) rows <= 1048576) : smTab rows := by
 refine ⟨Nat.le_trans (szL_len (f := szL sz_TRow)) (by omega), fun l hl => smRows_of ?_⟩
 have h1 := szL_mem (f := szL sz_TRow) hl
 omega
def tabOk (t : TTable) : Bool := isGrp t.n && (t.rows.length : Int) == t.n && t.rows.all fun l => l.all (fun r => rowOk t.n r) && decide ((l.length : Int) <= 6)
def row0 (n : Int) : TRow := ⟨0, 0, 0, ⟨0, 0, 0, 0, 0⟩, none0 n⟩
def trow (t : TTable) (rep no : Int) : TRow := if no <= (atI t.rows rep).length then atI (atI t.rows rep) (no - 1) else row0 t.n
theorem inst_rng {n rep no : Int} (h : inst n rep no = true) : 0 <= rep /\ rep <= n - 1 /\ 1 <= no /\ no <= 6 := by
 simp only [inst, inR, Bool.and_eq_true, decide_eq_true_eq] at h
 omega
theorem tabOk_grp {t : TTable} (h : tabOk t = true) : isGrp t.n = true := by
 simp only [tabOk, Bool.and_eq_true] at h; exact h.1.1
theorem tabOk_len {t : TTable} (h : tabOk t = true) : (t.rows.length : Int) = t.n := by
 simp only [tabOk, Bool.and_eq_true, beq_iff_eq] at h; exact h.1.2
theorem tabOk_in {t : TTable} {rep no : Int} (h : tabOk t = true) (hi : inst t.n rep no = true) : InB t.rows rep := by
 have := tabOk_len h
 have := inst_rng hi
 unfold InB; omega
theorem tabOk_rows {t : TTable} (h : tabOk t = true) {l : List TRow} (hl : l ∈ t.rows) : l.length <= 6 /\ ∀ r ∈ l, rowOk t.n r = true := by
 simp only [tabOk, Bool.and_eq_true, List.all_eq_true, decide_eq_true_eq] at h
 have := h.2 l hl
 exact ⟨by omega, this.1⟩
theorem rowOk_deps {n : Int} {r : TRow} (h : rowOk n r = true) (hg : isGrp n = true) : (r.attr.deps.length : Int) = n := by
 have h2 : attrOk n r.attr = true := by
  simp only [rowOk, Bool.and_eq_true] at h
  have h3 := h.2
  split at h3
  ·simp only [Bool.and_eq_true] at h3
   rw [of_decide_eq_true h3.2]
   exact none0_ok hg
  ·simp only [Bool.and_eq_true] at h3
   exact h3.2
 simp only [attrOk, Bool.and_eq_true, beq_iff_eq] at h2
 exact h2.1.2
theorem at_memI {α : Type} [Inhabited α] {xs : List α} {k : Int} (h : InB xs k) : atI xs k ∈ xs := by
 have h2 := h.lt
 have e : ((k.toNat : Nat) : Int) = k := by unfold InB at h; omega
 rw [<- e]
 exact at_mem h2
theorem trow_ok {t : TTable} {rep no : Int} (h : tabOk t = true) (hi : inst t.n rep no = true) : rowOk t.n (trow t rep no) = true := by
 unfold trow
 have hb := tabOk_in h hi
 have hr := inst_rng hi
 split
 ·exact (tabOk_rows h (at_memI hb)).2 _ (at_memI (by unfold InB; omega))
 ·rcases isGrp_rng (tabOk_grp h) with e | e <;> rw [e] <;> rfl
theorem trow_deps {t : TTable} {rep no : Int} (h : tabOk t = true) (hi : inst t.n rep no = true) : ((trow t rep no).attr.deps.length : Int) = t.n := rowOk_deps (trow_ok h hi) (tabOk_grp h)
def ext (n : Int) (l : List TRow) (no : Int) : List TRow := l ++ List.replicate (no - l.length).toNat (row0 n)
def tset (t : TTable) (rep no : Int) (r : TRow) : TTable := ⟨t.n, setI t.rows rep (setI (ext t.n (atI t.rows rep) no) (no - 1) r)⟩
theorem ext_len {n : Int} {l : List TRow} {no : Int} (h : 0 <= no) : ((ext n l no).length : Int) = max (l.length : Int) no := by
 simp only [ext, List.length_append, List.length_replicate]
 omega
def nb (b me : Int) : Int := if b < 8 + me then 8 + me else b + 1 + (me - b - 1) % 8
end Go.Proofs.YtmpakpgonfnadaaGreat.Rf

namespace Go.Proofs.YtmpakpgonfnadaaGreat.Rf
set_option linter.unusedVariables false
set_option linter.unusedSimpArgs false
end Go.Proofs.YtmpakpgonfnadaaGreat.Rf

namespace Go.Proofs.YtmpakpgonfnadaaGreat.Rf
set_option linter.unusedVariables false
set_option linter.unusedSimpArgs false
def hasM (xs : List Int) (n : Int) : Bool := xs.any fun x => x == n
def comRowN (l : List TRow) (k : Int) (m : Nat) : List (List Int) := (List.range m).flatMap fun i : Nat => if (atI l (i : Int)).state == 3 then [[k, (i : Int) + 1]] else []
def comN (rows : List (List TRow)) (m : Nat) : List (List Int) := (List.range m).flatMap fun k : Nat => comRowN (atI rows (k : Int)) k (atI rows (k : Int)).length
def comM (rows : List (List TRow)) : List (List Int) := comN rows rows.length
theorem comRowN_succ (l : List TRow) (k : Int) (m : Nat) : comRowN l k (m + 1) = comRowN l k m ++ if (atI l (m : Int)).state == 3 then [[k, (m : Int) + 1]] else [] := by
 simp [comRowN, List.range_succ, List.flatMap_append]
theorem comN_succ (rows : List (List TRow)) (m : Nat) : comN rows (m + 1) = comN rows m ++ comRowN (atI rows (m : Int)) m (atI rows (m : Int)).length := by
 simp [comN, List.range_succ, List.flatMap_append]
theorem comRowN_len (l : List TRow) (k : Int) : ∀ m, (comRowN l k m).length <= m
 | 0 => by simp [comRowN]
 | m + 1 => by
  have := comRowN_len l k m
  rw [comRowN_succ, List.length_append]
  split <;> simp <;> omega
theorem comN_len {rows : List (List TRow)} (h : ∀ l ∈ rows, l.length <= 6) : ∀ {m}, m <= rows.length -> (comN rows m).length <= 6 * m
 | 0, _ => by simp [comN]
 | m + 1, hm => by
  have h1 := comN_len h (m := m) (by omega)
  have h2 := comRowN_len (atI rows (m : Int)) m (atI rows (m : Int)).length
  have h3 := h _ (at_mem (show m < rows.length by omega))
  rw [comN_succ, List.length_append]
  omega
theorem comM_mem {rows : List (List TRow)} {x : List Int} (h : x ∈ comM rows) : ∃ k i : Nat, k < rows.length /\ i < (atI rows (k : Int)).length /\ x = [(k : Int), (i : Int) + 1] /\ (atI (atI rows (k : Int)) (i : Int)).state = 3 := by
 unfold comM comN comRowN at h
 simp only [List.mem_flatMap, List.mem_range] at h
 obtain ⟨k, hk, i, hi, hx⟩ := h
 split at hx
 ·rename_i hs
  exact ⟨k, i, hk, hi, by simpa using hx, by simpa using hs⟩
 ·cases hx
theorem comM_spec {t : TTable} (ht : tabOk t = true) {x : List Int} (h : x ∈ comM t.rows) : InB x 0 /\ InB x 1 /\ x.length = 2 /\ inst t.n (atI x 0) (atI x 1) = true /\ (trow t (atI x 0) (atI x 1)).state = 3 := by
 obtain ⟨k, i, hk, hi, rfl, hs⟩ := comM_mem h
 have h1 := (tabOk_rows ht (at_mem hk)).1
 have h2 := tabOk_len ht
 refine ⟨by unfold InB; simp, by unfold InB; simp, rfl, ?_, ?_⟩
 ·simp only [atI, inst, inR, Bool.and_eq_true, decide_eq_true_eq]
  simp
  omega
 ·show (trow t (k : Int) ((i : Int) + 1)).state = 3
  unfold trow
  rw [if_pos (by omega), show (i : Int) + 1 - 1 = i by omega]
  exact hs
end Go.Proofs.YtmpakpgonfnadaaGreat.Rf

namespace Go.Proofs.YtmpakpgonfnadaaGreat.Rf
set_option linter.unusedVariables false
set_option linter.unusedSimpArgs false
end Go.Proofs.YtmpakpgonfnadaaGreat.Rf

namespace Go.Proofs.YtmpakpgonfnadaaGreat.Rf
set_option linter.unusedVariables false
set_option linter.unusedSimpArgs false
end Go.Proofs.YtmpakpgonfnadaaGreat.Rf

namespace Go.Proofs.YtmpakpgonfnadaaGreat.Rf
set_option linter.unusedVariables false
set_option linter.unusedSimpArgs false
section
variable {T : Nat -> Ent} {β : Type}
theorem scanS {body : Tm β} {ρ : List D} (j s n : Nat) (p : Nat -> Bool) (r : List D)
  (h1 : ∀ i : Nat, s <= i -> i < n -> decide ((i : Int) < n) = true -> Er T body (ρ ++ [i64 i]) = forkT (p i) (some (.cont, [i64 ((i : Int) + 1)])) (some (.ret, r)))
  (h3 : ∀ i : Nat, n <= i -> decide ((i : Int) < n) = false -> Er T body (ρ ++ [i64 i]) = some (.yield j, [])) :
  Er T (.loop [.c (i64 s)] body) ρ = forkT (allB (fun i => decide (i < s) || p i) n) (some (.yield j, [])) (some (.ret, r)) := by
 obtain ⟨q, h4, h5⟩ := loopR (T := T) (body := body) (ρ := ρ) (fun i : Nat => n - i) (fun i => s <= i /\ ∀ k, s <= k -> k < i -> k < n -> p k = true) (fun i => [i64 (i : Nat)])
  (fun q => q = forkT (allB (fun i => decide (i < s) || p i) n) (.yield j, []) (.ret, r))
  (fun i ⟨hs, hall⟩ => by
   rcases Nat.lt_or_ge i n with hlt | hge
   ·have e := h1 i hs hlt (by simp; omega)
    cases hp : p i with
    | true =>
     rw [hp] at e
     exact ⟨_, e, .inl ⟨rfl, i + 1, ⟨by omega, fun k h2 h6 h7 => by
      rcases Nat.lt_or_ge k i with h8 | h8
      ·exact hall k h2 h8 h7
      ·obtain rfl : k = i := by omega
       exact hp⟩, by omega, rfl⟩⟩
    | false =>
     rw [hp] at e
     have hf : allB (fun i => decide (i < s) || p i) n = false := allB_false.2 ⟨i, hlt, by simp [hp]; omega⟩
     exact ⟨_, e, .inr ⟨by simp, by rw [hf]; rfl⟩⟩
   ·have ht : allB (fun i => decide (i < s) || p i) n = true := allB_true.2 fun k hk => by
     by_cases h2 : k < s
     ·simp [h2]
     ·rw [hall k (by omega) (by omega) hk, Bool.or_true]
    exact ⟨_, h3 i hge (by simp; omega), .inr ⟨by simp, by rw [ht]; rfl⟩⟩)
  n s (by omega) ⟨Nat.le_refl _, fun k h1 h2 _ => by omega⟩ [.c (i64 s)] rfl
 rw [h4, h5]
 cases allB (fun i => decide (i < s) || p i) n <;> rfl
end
def isGrpN (n : Int) : Prop := 0 <= n /\ n <= 1000000
theorem isGrpN_of {n : Int} (h : isGrp n = true) : isGrpN n := by have := isGrp_rng h; unfold isGrpN; omega
theorem phase3 (k : Int) : k = 1 \/ k = 2 \/ k = 3 \/ (k == 1) = false /\ (k == 2) = false /\ (k == 3) = false := by
 by_cases h1 : k = 1
 ·exact .inl h1
 by_cases h2 : k = 2
 ·exact .inr (.inl h2)
 by_cases h3 : k = 3
 ·exact .inr (.inr (.inl h3))
 ·exact .inr (.inr (.inr ⟨by simpa using h1, by simpa using h2, by simpa using h3⟩))
def riseB (xs : List Int) (i : Nat) : Bool := !(decide (0 < i) && decide (atI xs (i : Int) <= atI xs ((i : Int) - 1)))
def risM (xs : List Int) (lo hi : Int) : Bool := allB (fun i => inR (atI xs (i : Int)) lo hi && riseB xs i) xs.length
def leadGe (p l : TLead) : Bool := decide (l.rep < p.rep) || (p.rep == l.rep && decide (l.no <= p.no))
def leadOk (n me : Int) (l : TLead) : Bool :=
  inst n l.rep l.no && inR l.ballot 0 9999 && risM l.who 0 (n - 1) && hasM l.who me && attrOk n l.first && attrOk n l.attr &&
  (if l.phase == 1 then cmdOk l.cmd && (l.seen.length : Int) == 0 else if l.phase == 2 then cmdOk l.cmd && (l.seen.length : Int) == 0 && !l.same && decide (l.first = l.attr)
   else if l.phase == 3 then decide (l.cmd = ⟨0, 0, 0, 0, 0⟩) && decide (l.first = none0 n) && decide (l.attr = none0 n) && !l.same && (l.seen.length : Int) == l.who.length && l.seen.all fun r => rowOk n r && !(r.state == 3)
   else false)
def leadAt (n me : Int) (ls : List TLead) (i : Nat) : Bool := leadOk n me (atI ls (i : Int)) && !(decide (0 < (i : Int)) && leadGe (atI ls ((i : Int) - 1)) (atI ls (i : Int)))
def repOk (r : TRep) : Bool := tabOk r.table && inR r.me 0 (r.table.n - 1) && allB (leadAt r.table.n r.me r.leads) r.leads.length
def askedAt (n : Int) (l : List TAsked) (i : Nat) : Bool := inst n (atI l (i : Int)).rep (atI l (i : Int)).no && cmdOk (atI l (i : Int)).cmd && !((atI l (i : Int)).cmd.kind == 0) && !(l.take i).any fun b => b.rep == (atI l (i : Int)).rep && b.no == (atI l (i : Int)).no
def askedM (n : Int) (l : List TAsked) : Bool := allB (askedAt n l) l.length
def repAt (n : Int) (l : List TRep) (i : Nat) : Bool := repOk (atI l (i : Int)) && (atI l (i : Int)).me == (i : Int) && (atI l (i : Int)).table.n == n
def netOk (t : TNet) : Bool := isGrp t.reps.length && !decide (80 < (t.bag.length : Int)) && askedM t.reps.length t.asked && allB (repAt t.reps.length t.reps) t.reps.length && t.bag.all fun m => msgOk t.reps.length m
def smLead (l : TLead) : Prop := l.first.deps.length <= 10000000000 /\ l.attr.deps.length <= 10000000000 /\ l.who.length <= 10000000000 /\ smRows l.seen
def smLeads (l : List TLead) : Prop := l.length <= 10000000000 /\ ∀ x ∈ l, smLead x
def smRep (r : TRep) : Prop := smTab r.table.rows /\ smLeads r.leads
def smReps (l : List TRep) : Prop := l.length <= 10000000000 /\ ∀ x ∈ l, smRep x
def smMsgs (l : List TMsg) : Prop := l.length <= 10000000000 /\ ∀ x ∈ l, x.attr.deps.length <= 10000000000
theorem smLead_of {l : TLead} (h : sz_TLead l <= 1048576) : smLead l := by
 rw [szu_TLead] at h
 exact ⟨by omega, by omega, by omega, smRows_of (by omega)⟩
theorem smLeads_of {l : List TLead} (h : szL sz_TLead l <= 1048576) : smLeads l := by
 refine ⟨Nat.le_trans (szL_len (f := sz_TLead)) (by omega), fun x hx => smLead_of ?_⟩
 have := szL_mem (f := sz_TLead) hx
 omega
theorem smRep_of {r : TRep} (h : sz_TRep r <= 1048576) : smRep r := by
 rw [szu_TRep] at h
 exact ⟨smTab_of (by omega), smLeads_of (by omega)⟩
theorem smReps_of {l : List TRep} (h : szL sz_TRep l <= 1048576) : smReps l := by
 refine ⟨Nat.le_trans (szL_len (f := sz_TRep)) (by omega), fun x hx => smRep_of ?_⟩
 have := szL_mem (f := sz_TRep) hx
 omega
theorem smMsgs_of {l : List TMsg} (h : szL sz_TMsg l <= 1048576) : smMsgs l := by
 refine ⟨Nat.le_trans (szL_len (f := sz_TMsg)) (by omega), fun x hx => ?_⟩
 have h2 := szL_mem (f := sz_TMsg) hx
 rw [szu_TMsg] at h2
 omega
def cmpD : List Int -> List Int -> Option Int
 | [], _ => none
 | _ :: _, [] => some 1
 | x :: xs, y :: ys => if x < y then some (-1) else if y < x then some 1 else cmpD xs ys
def cmpM (xs ys : List Int) : Int := match cmpD xs ys with
 | some c => c
 | none => if decide ((xs.length : Int) < ys.length) then -1 else 0
def cmp1 (a b : Int) : Int := if a < b then -1 else if b < a then 1 else 0
theorem cmpD_drop {xs ys : List Int} {i : Nat} (h : i < xs.length) (h2 : i < ys.length) : cmpD (xs.drop i) (ys.drop i) = if atI xs (i : Int) < atI ys (i : Int) then some (-1) else if atI ys (i : Int) < atI xs (i : Int) then some 1 else cmpD (xs.drop (i + 1)) (ys.drop (i + 1)) := by
 rw [List.drop_eq_getElem_cons h, List.drop_eq_getElem_cons h2, atI_get h, atI_get h2]; rfl
theorem cmpD_end {xs ys : List Int} {i : Nat} (h : i < xs.length) (h2 : ys.length <= i) : cmpD (xs.drop i) (ys.drop i) = some 1 := by
 rw [List.drop_eq_getElem_cons h, List.drop_eq_nil_of_le h2]; rfl
theorem cmp2 (a b c d : Int) : decide (cmpM [a, b] [c, d] <= 0) = (decide (a < c) || (c == a && decide (b <= d))) := by
 unfold cmpM cmpD
 by_cases h1 : a < c
 ·simp [h1]
 ·rw [if_neg h1]
  by_cases h2 : c < a
  ·simp [h1, h2]; omega
  ·rw [if_neg h2]
   have : c = a := by omega
   subst this
   unfold cmpD
   by_cases h3 : b < d
   ·simp [h3]; omega
   ·rw [if_neg h3]
    by_cases h4 : d < b
    ·simp [h4]
    ·rw [if_neg h4]
     simp [cmpD]; omega
end Go.Proofs.YtmpakpgonfnadaaGreat.Rf

namespace Go.Proofs.YtmpakpgonfnadaaGreat.Rf
set_option linter.unusedVariables false
set_option linter.unusedSimpArgs false
theorem netOk_rep {t : TNet} (h : netOk t = true) {i : Nat} (hi : i < t.reps.length) : tabOk (atI t.reps (i : Int)).table = true /\ (atI t.reps (i : Int)).table.n = t.reps.length /\ isGrp (t.reps.length : Int) = true := by
 unfold netOk at h
 simp only [Bool.and_eq_true] at h
 have h2 := allB_true.1 h.1.2 i hi
 unfold repAt repOk at h2
 simp only [Bool.and_eq_true, beq_iff_eq] at h2
 exact ⟨h2.1.1.1.1, h2.2, h.1.1.1.1⟩
theorem netOk_grp {t : TNet} (h : netOk t = true) : isGrp (t.reps.length : Int) = true := by
 unfold netOk at h
 simp only [Bool.and_eq_true] at h
 exact h.1.1.1.1
theorem all_swap {α β : Type} (xs : List α) (ys : List β) (p : α -> β -> Bool) : (xs.all fun x => ys.all fun y => p x y) = ys.all fun y => xs.all fun x => p x y := by
 rw [Bool.eq_iff_iff]
 simp only [List.all_eq_true]
 exact ⟨fun h y hy x hx => h x hx y hy, fun h x hx y hy => h y hy x hx⟩
def agrOk (t u : TTable) (x : List Int) : Bool :=
 !((trow u (atI x 0) (atI x 1)).state == 3 && (!decide ((trow t (atI x 0) (atI x 1)).cmd = (trow u (atI x 0) (atI x 1)).cmd) || !decide ((trow t (atI x 0) (atI x 1)).attr = (trow u (atI x 0) (atI x 1)).attr)))
def agrM (t : TNet) : Bool := allB (fun i => (comM (atI t.reps (i : Int)).table.rows).all fun x => (t.reps.take i).all fun b => agrOk (atI t.reps (i : Int)).table b.table x) t.reps.length
def setRow (w : TRow) : TRow := ⟨0, 0, w.state, w.cmd, w.attr⟩
def setX (t acc : TTable) (x : List Int) : TTable := tset acc (atI x 0) (atI x 1) (setRow (trow t (atI x 0) (atI x 1)))
def setF (t acc : TTable) : TTable := (comM t.rows).foldl (setX t) acc
def setM (t : TNet) : TTable := t.reps.foldl (fun acc R => setF R.table acc) ⟨t.reps.length, List.replicate (t.reps.length : Int).toNat []⟩
def setR (t : TNet) : TTable × Bool := if netOk t && agrM t then (setM t, true) else (⟨0, []⟩, false)
def TInv (n : Int) (t : TTable) : Prop := t.n = n /\ (t.rows.length : Int) = n /\ ∀ l ∈ t.rows, l.length <= 6 /\ ∀ r ∈ l, r.attr.deps.length <= 5
theorem TInv_new {n : Int} (h : 0 <= n) : TInv n ⟨n, List.replicate n.toNat []⟩ := by
 refine ⟨rfl, by simp; omega, fun l hl => ?_⟩
 obtain ⟨-, rfl⟩ := List.mem_replicate.1 hl
 exact ⟨by simp, fun r hr => by cases hr⟩
theorem TInv_set {n : Int} {t : TTable} (h : TInv n t) (hn : n <= 5) {rep no : Int} {r : TRow} (hb : InB t.rows rep) (h1 : 1 <= no) (h2 : no <= 6) (hr : r.attr.deps.length <= 5) : TInv n (tset t rep no r) := by
 obtain ⟨e1, e2, e3⟩ := h
 refine ⟨e1, by simp only [tset, setI, List.length_set]; exact e2, fun l hl => ?_⟩
 simp only [tset, setI] at hl
 rcases List.mem_or_eq_of_mem_set hl with hl | rfl
 ·exact e3 l hl
 ·obtain ⟨f1, f2⟩ := e3 _ (at_memI hb)
  have f3 := ext_len (n := t.n) (l := atI t.rows rep) (no := no) (by omega)
  refine ⟨by rw [List.length_set]; omega, fun q hq => ?_⟩
  rcases List.mem_or_eq_of_mem_set hq with hq | rfl
  ·unfold ext at hq
   rcases List.mem_append.1 hq with hq | hq
   ·exact f2 q hq
   ·obtain ⟨-, rfl⟩ := List.mem_replicate.1 hq
    simp only [row0, none0, List.length_replicate]
    omega
  ·exact hr
theorem TInv_sm {n : Int} {t : TTable} (h : TInv n t) (hn : n <= 5) : smTab t.rows := by
 obtain ⟨e1, e2, e3⟩ := h
 exact ⟨by omega, fun l hl => ⟨by have := (e3 l hl).1; omega, fun r hr => by have := (e3 l hl).2 r hr; omega⟩⟩
theorem szL_bd {α : Type} {f : α -> Nat} {k : Nat} : ∀ {xs : List α}, (∀ x ∈ xs, f x <= k) -> szL f xs <= xs.length * (k + 1)
 | [], _ => by simp [szL]
 | x :: xs, h => by
  have h1 := h x List.mem_cons_self
  have h2 := szL_bd (f := f) (k := k) (xs := xs) fun y hy => h y (List.mem_cons_of_mem _ hy)
  rw [szL_cons, List.length_cons, Nat.succ_mul]
  omega
theorem TInv_sz {n : Int} {t : TTable} (h : TInv n t) (hn : n <= 5) : szL (szL sz_TRow) t.rows <= 1000 := by
 obtain ⟨e1, e2, e3⟩ := h
 have h1 := szL_bd (f := szL sz_TRow) (k := 100) (xs := t.rows) fun l hl => by
  have h2 := szL_bd (f := sz_TRow) (k := 5) (xs := l) fun r hr => by rw [sz_row]; exact (e3 l hl).2 r hr
  have h3 := (e3 l hl).1
  have : l.length * 6 <= 6 * 6 := Nat.mul_le_mul_right 6 h3
  omega
 have h4 : t.rows.length <= 5 := by omega
 have : t.rows.length * 101 <= 5 * 101 := Nat.mul_le_mul_right 101 h4
 omega
theorem setX_inv {n : Int} {t acc : TTable} (ht : tabOk t = true) (hN : t.n = n) (hn : n <= 5) (h : TInv n acc) {x : List Int} (hx : x ∈ comM t.rows) : TInv n (setX t acc x) := by
 obtain ⟨-, -, -, xi, -⟩ := comM_spec ht hx
 have xr := inst_rng xi
 have xd := trow_deps ht xi
 have e2 := h.2.1
 refine TInv_set h hn ?_ xr.2.2.1 xr.2.2.2 ?_
 ·unfold InB; omega
 ·show (trow t (atI x 0) (atI x 1)).attr.deps.length <= 5
  omega
theorem foldl_inv {α σ : Type} {P : σ -> Prop} {f : σ -> α -> σ} : ∀ {xs : List α} {s : σ}, (∀ s x, x ∈ xs -> P s -> P (f s x)) -> P s -> P (xs.foldl f s)
 | [], s, _, h => h
 | x :: xs, s, hf, h => foldl_inv (xs := xs) (fun s y hy => hf s y (List.mem_cons_of_mem _ hy)) (hf s x List.mem_cons_self h)
theorem setF_inv {n : Int} {t acc : TTable} (ht : tabOk t = true) (hN : t.n = n) (hn : n <= 5) (h : TInv n acc) : TInv n (setF t acc) :=
 foldl_inv (fun s x hx hs => setX_inv ht hN hn hs hx) h
theorem setM_inv {t : TNet} (h : netOk t = true) : TInv t.reps.length (setM t) := by
 have hg := isGrp_rng (netOk_grp h)
 refine foldl_inv (fun s R hR hs => ?_) (TInv_new (by omega))
 obtain ⟨k, hk, rfl⟩ := List.getElem_of_mem hR
 obtain ⟨h1, h2, -⟩ := netOk_rep h hk
 rw [atI_get hk] at h1 h2
 exact setF_inv h1 h2 (by omega) hs
theorem setR_sz (t : TNet) : szL (szL sz_TRow) (setR t).1.rows <= 1000 := by
 unfold setR
 split
 ·rename_i h
  rw [Bool.and_eq_true] at h
  have hg := isGrp_rng (netOk_grp h.1)
  exact TInv_sz (setM_inv h.1) (by omega)
 ·exact Nat.zero_le _
end Go.Proofs.YtmpakpgonfnadaaGreat.Rf

namespace Go.Proofs.YtmpakpgonfnadaaGreat.Rf
set_option linter.unusedVariables false
set_option linter.unusedSimpArgs false
end Go.Proofs.YtmpakpgonfnadaaGreat.Rf

namespace Go.Proofs.YtmpakpgonfnadaaGreat.Rf
set_option linter.unusedVariables false
set_option linter.unusedSimpArgs false
end Go.Proofs.YtmpakpgonfnadaaGreat.Rf

namespace Go.Proofs.YtmpakpgonfnadaaGreat.Rf
set_option linter.unusedVariables false
set_option linter.unusedSimpArgs false
end Go.Proofs.YtmpakpgonfnadaaGreat.Rf

namespace Go.Proofs.YtmpakpgonfnadaaGreat.Rf
set_option linter.unusedVariables false
set_option linter.unusedSimpArgs false
end Go.Proofs.YtmpakpgonfnadaaGreat.Rf

namespace Go.Proofs.YtmpakpgonfnadaaGreat.Rf
set_option linter.unusedVariables false
set_option linter.unusedSimpArgs false
end Go.Proofs.YtmpakpgonfnadaaGreat.Rf

namespace Go.Proofs.YtmpakpgonfnadaaGreat.Rf
set_option linter.unusedVariables false
set_option linter.unusedSimpArgs false
def u8 (c : UInt8) : D := .int .u8 (c.toNat : Nat)
end Go.Proofs.YtmpakpgonfnadaaGreat.Rf

namespace Go.Proofs.YtmpakpgonfnadaaGreat.Rf
set_option linter.unusedVariables false
set_option linter.unusedSimpArgs false
end Go.Proofs.YtmpakpgonfnadaaGreat.Rf
