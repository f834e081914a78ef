/- Terms for the program's functions, and that they are right: part 8 of 8. -/
import Derived.Test.YtnlhnfifkninpaaDoorRf7
import Derived.Lib.ItoaNum
set_option linter.unusedSimpArgs false
set_option linter.unusedVariables false
set_option linter.unnecessarySimpa false
set_option linter.unusedSectionVars false
namespace Go.Proofs.YtnlhnfifkninpaaDoor.Rf
set_option linter.unusedVariables false
set_option linter.unusedSimpArgs false
section
variable {T : Nat -> Ent} {β : Type} {α : Type} [Inhabited α]
inductive Rd1 (σ : Type) where
 | go (s : σ)
 | out (r : Kind × List D)
def foldX {σ : Type} (f : Nat -> α -> σ -> Rd1 σ) : Nat -> List α -> σ -> Rd1 σ
 | _, [], s => .go s
 | i, x :: xs, s => match f i x s with
  | .go s' => foldX f (i + 1) xs s'
  | .out r => .out r
def rndK {σ : Type} (vs : Int -> σ -> List D) (i : Int) : Rd1 σ -> Kind × List D
 | .go s => (.cont, vs (i + 1) s)
 | .out r => r
theorem loopX {σ : Type} {body : Tm β} {ρ : List D} {init : List Atom} (xs : List α) (vs : Int -> σ -> List D) (s0 : σ) (f : Nat -> α -> σ -> Rd1 σ) (inv : Nat -> σ -> Prop) (fin : σ -> Kind × List D)
  (h0 : init.map (·.val ρ) = vs 0 s0) (hi : inv 0 s0)
  (h1 : ∀ (i : Nat) s, i < xs.length -> inv i s -> Er T body (ρ ++ vs i s) = some (rndK vs i (f i (atI xs i) s)) /\ (∀ s', f i (atI xs i) s = .go s' -> inv (i + 1) s') /\ ∀ r, f i (atI xs i) s = .out r -> r.1 ≠ .cont)
  (h2 : ∀ s, inv xs.length s -> Er T body (ρ ++ vs xs.length s) = some (fin s) /\ (fin s).1 ≠ .cont) :
  ∃ r, Er T (.loop init body) ρ = some r /\ ((∃ s, foldX f 0 xs s0 = .go s /\ inv xs.length s /\ r = fin s) \/ foldX f 0 xs s0 = .out r) := by
 have key := loopR (T := T) (body := body) (ρ := ρ) (γ := Nat × σ) (fun c => xs.length - c.1) (fun c => c.1 <= xs.length /\ inv c.1 c.2 /\ foldX f c.1 (xs.drop c.1) c.2 = foldX f 0 xs s0) (fun c => vs (c.1 : Int) c.2)
  (fun r => (∃ s, foldX f 0 xs s0 = .go s /\ inv xs.length s /\ r = fin s) \/ foldX f 0 xs s0 = .out r)
  (fun ⟨i, s⟩ ⟨hle, hv, hf⟩ => by
   simp only at hle hv hf ⊢
   rcases Nat.lt_or_ge i xs.length with hlt | hge
   ·obtain ⟨h3, h4, h5⟩ := h1 i s hlt hv
    have hd : xs.drop i = atI xs i :: xs.drop (i + 1) := by
     rw [List.drop_eq_getElem_cons hlt, atI_get hlt]
    rw [hd, foldX] at hf
    refine ⟨_, h3, ?_⟩
    cases e : f i (atI xs i) s with
    | go s' =>
     rw [e] at hf
     exact .inl ⟨rfl, (i + 1, s'), ⟨by simp only; omega, h4 s' e, hf⟩, by simp only; omega, rfl⟩
    | out r =>
     rw [e] at hf
     exact .inr ⟨h5 r e, .inr hf.symm⟩
   ·obtain rfl : i = xs.length := by omega
    obtain ⟨h3, h4⟩ := h2 s hv
    rw [List.drop_length, foldX] at hf
    exact ⟨_, h3, .inr ⟨h4, .inl ⟨s, hf.symm, hv, rfl⟩⟩⟩)
  xs.length (0, s0) (by simp) ⟨by simp, hi, by simp⟩ init h0
 exact key
theorem scanX {body : Tm β} {ρ : List D} (j : Nat) (n : Nat) (p : Nat -> Bool) (r : List D)
  (h1 : ∀ i : Nat, i < n -> p i = true -> Er T body (ρ ++ [i64 i]) = some (.cont, [i64 ((i : Int) + 1)]))
  (h2 : ∀ i : Nat, i < n -> p i = false -> Er T body (ρ ++ [i64 i]) = some (.ret, r))
  (h3 : Er T body (ρ ++ [i64 n]) = some (.yield j, [])) :
  Er T (.loop [.c (i64 0)] body) ρ = forkT (allB p n) (some (.yield j, [])) (some (.ret, r)) := by
 have key := loopR (T := T) (body := body) (ρ := ρ) (fun i => n - i) (fun i => i <= n /\ ∀ j, j < i -> p j = true) (fun i => [i64 (i : Nat)])
  (fun q => (∀ j, j < n -> p j = true) /\ q = (.yield j, []) \/ (∃ j, j < n /\ p j = false) /\ q = (.ret, r))
  (fun i ⟨hi, hall⟩ => by
   rcases Nat.lt_or_ge i n with hlt | hge
   ·cases e : p i with
    | true => exact ⟨_, h1 i hlt e, .inl ⟨rfl, i + 1, ⟨by omega, fun j hj => by
      rcases Nat.lt_or_ge j i with h | h
      ·exact hall j h
      ·obtain rfl : j = i := by omega
       exact e⟩, by omega, rfl⟩⟩
    | false => exact ⟨_, h2 i hlt e, .inr ⟨by simp, .inr ⟨⟨i, hlt, e⟩, rfl⟩⟩⟩
   ·obtain rfl : i = n := by omega
    exact ⟨_, h3, .inr ⟨by simp, .inl ⟨hall, rfl⟩⟩⟩)
  n 0 (by omega) ⟨by omega, fun j hj => by omega⟩ [.c (i64 0)] (by simp [Atom.val])
 obtain ⟨q, h4, h5⟩ := key
 rw [h4]
 rcases h5 with ⟨h6, rfl⟩ | ⟨h6, rfl⟩
 ·rw [allB_true.2 h6]; rfl
 ·rw [allB_false.2 h6]; rfl
theorem allB_all (xs : List α) (p : α -> Bool) : allB (fun i => p (atI xs i)) xs.length = xs.all p := by
 cases e : xs.all p with
 | true =>
  rw [List.all_eq_true] at e
  rw [allB_true]
  intro i hi
  rw [atI_get hi]
  exact e _ (List.getElem_mem hi)
 | false =>
  rw [List.all_eq_false] at e
  obtain ⟨x, hx, hp⟩ := e
  obtain ⟨i, hi, rfl⟩ := List.getElem_of_mem hx
  exact allB_false.2 ⟨i, hi, by rw [atI_get hi]; simpa using hp⟩
theorem allB_eq [DecidableEq α] {xs ys : List α} (hl : xs.length = ys.length) : allB (fun i => decide (atI xs i = atI ys i)) xs.length = decide (xs = ys) := by
 by_cases e : xs = ys
 ·subst e
  rw [decide_eq_true rfl, allB_true]
  exact fun i _ => decide_eq_true rfl
 ·rw [decide_eq_false e]
  cases h : allB (fun i => decide (atI xs i = atI ys i)) xs.length with
  | false => rfl
  | true =>
   rw [allB_true] at h
   refine absurd (List.ext_getElem hl fun i h1 h2 => ?_) e
   have := of_decide_eq_true (h i h1)
   rwa [atI_get h1, atI_get h2] at this
theorem eq_len {xs ys : List α} [DecidableEq α] (h : ¬ xs.length = ys.length) : decide (xs = ys) = false := decide_eq_false fun e => h (by rw [e])
theorem allX {body : Tm β} {ρ : List D} (j : Nat) (xs : List α) (p : α -> Bool) (r : List D)
  (h1 : ∀ i : Nat, i < xs.length -> InB xs (i : Int) -> decide ((i : Int) < xs.length) = true -> p (atI xs i) = true -> Er T body (ρ ++ [i64 i]) = some (.cont, [i64 ((i : Int) + 1)]))
  (h2 : ∀ i : Nat, i < xs.length -> InB xs (i : Int) -> decide ((i : Int) < xs.length) = true -> p (atI xs i) = false -> Er T body (ρ ++ [i64 i]) = some (.ret, r))
  (h3 : decide ((xs.length : Int) < xs.length) = false -> Er T body (ρ ++ [i64 xs.length]) = some (.yield j, [])) :
  Er T (.loop [.c (i64 0)] body) ρ = forkT (xs.all p) (some (.yield j, [])) (some (.ret, r)) := by
 rw [scanX j xs.length (fun i => p (atI xs i)) r (fun i hi hp => h1 i hi (InB_nat.2 hi) (by simp; omega) hp) (fun i hi hp => h2 i hi (InB_nat.2 hi) (by simp; omega) hp) (h3 (by simp)), allB_all]
def ixF (p : α -> Bool) (xs : List α) : Int := match xs.findIdx? p with
 | some i => i
 | none => -1
omit [Inhabited α] in
theorem ixF_any (p : α -> Bool) (xs : List α) : decide (0 <= ixF p xs) = xs.any p := by
 unfold ixF
 cases h : xs.findIdx? p with
 | none =>
  rw [List.findIdx?_eq_none_iff] at h
  have : xs.any p = false := by
   rw [List.any_eq_false]
   exact fun x hx => by simp [h x hx]
  rw [this]; rfl
 | some i =>
  have : xs.any p = true := by
   rw [List.findIdx?_eq_some_iff_getElem] at h
   obtain ⟨hi, hp, -⟩ := h
   rw [List.any_eq_true]
   exact ⟨_, List.getElem_mem hi, hp⟩
  rw [this]; simp
theorem findX {body : Tm β} {ρ : List D} (j : Nat) (xs : List α) (p : α -> Bool) (rf : Int -> List D)
  (h1 : ∀ i : Nat, i < xs.length -> InB xs (i : Int) -> decide ((i : Int) < xs.length) = true -> p (atI xs i) = true -> Er T body (ρ ++ [i64 i]) = some (.ret, rf i))
  (h2 : ∀ i : Nat, i < xs.length -> InB xs (i : Int) -> decide ((i : Int) < xs.length) = true -> p (atI xs i) = false -> Er T body (ρ ++ [i64 i]) = some (.cont, [i64 ((i : Int) + 1)]))
  (h3 : decide ((xs.length : Int) < xs.length) = false -> Er T body (ρ ++ [i64 xs.length]) = some (.yield j, [])) :
  Er T (.loop [.c (i64 0)] body) ρ = forkT (xs.any p) (some (.ret, rf (ixF p xs))) (some (.yield j, [])) := by
 have hall : ∀ (i : Nat) (ys : List α), foldX (fun (i : Nat) x (_ : Unit) => if p x then Rd1.out (.ret, rf i) else .go ()) i ys () = match ys.findIdx? p with | some k => .out (.ret, rf ((i + k : Nat) : Int)) | none => .go () := by
  intro i ys
  induction ys generalizing i with
  | nil => rfl
  | cons y ys ih =>
   rw [foldX, List.findIdx?_cons]
   cases p y with
   | true => simp
   | false =>
    simp only [Bool.false_eq_true, if_false]
    rw [ih (i + 1)]
    cases ys.findIdx? p with
    | none => rfl
    | some k => simp only [Option.map_some]; congr 4; omega
 obtain ⟨q, h4, h5⟩ := loopX (T := T) (body := body) (ρ := ρ) (init := [.c (i64 0)]) xs (fun i (_ : Unit) => [i64 i]) () (fun i x _ => if p x then .out (.ret, rf i) else .go ()) (fun _ _ => True) (fun _ => (.yield j, [])) rfl trivial
  (fun i _ hi _ => by
   cases e : p (atI xs i) with
   | true => exact ⟨by rw [h1 i hi (InB_nat.2 hi) (by simp; omega) e]; rfl, fun _ _ => trivial, fun r h => by simp at h; rw [<- h]; simp⟩
   | false => exact ⟨by rw [h2 i hi (InB_nat.2 hi) (by simp; omega) e]; rfl, fun _ _ => trivial, fun r h => by simp at h⟩)
  (fun _ _ => ⟨h3 (by simp), by simp⟩)
 rw [h4, <- ixF_any]
 rw [hall] at h5
 unfold ixF
 cases e : xs.findIdx? p with
 | none =>
  rw [e] at h5
  rcases h5 with ⟨s, -, -, rfl⟩ | h5
  ·rfl
  ·simp at h5
 | some k =>
  rw [e] at h5
  rcases h5 with ⟨s, h5, -⟩ | h5
  ·simp at h5
  ·simp only [Nat.zero_add, Rd1.out.injEq] at h5
   rw [<- h5]
   simp [forkT]
theorem at_mem {xs : List α} {i : Nat} (h : i < xs.length) : atI xs (i : Int) ∈ xs := by rw [atI_get h]; exact List.getElem_mem h
omit [Inhabited α] in
theorem whileE {γ : Type} {body : Tm β} {ρ : List D} {init : List Atom} (r : Kind × List D) (m : γ -> Nat) (inv : γ -> Prop) (vs : γ -> List D) (c0 : γ) (h0 : init.map (·.val ρ) = vs c0) (hi : inv c0) (hr : r.1 ≠ .cont)
  (h : ∀ c, inv c -> (∃ c', Er T body (ρ ++ vs c) = some (.cont, vs c') /\ inv c' /\ m c' < m c) \/ Er T body (ρ ++ vs c) = some r) : Er T (.loop init body) ρ = some r := by
 obtain ⟨q, h1, rfl⟩ := loopR (T := T) (body := body) (ρ := ρ) m inv vs (fun q => q = r)
  (fun c hc => by
   rcases h c hc with ⟨c', h2, h3, h4⟩ | h2
   ·exact ⟨_, h2, .inl ⟨rfl, c', h3, h4, rfl⟩⟩
   ·exact ⟨_, h2, .inr ⟨hr, rfl⟩⟩) (m c0) c0 (Nat.le_refl _) hi init h0
 exact h1
end
theorem take_at {α : Type} [Inhabited α] {xs : List α} {i : Nat} (h : i < xs.length) : xs.take i ++ [atI xs (i : Int)] = xs.take (i + 1) := by rw [List.take_succ_eq_append_getElem h, atI_get h]
theorem SQ : (∀ {a b : Int}, -9223372036854775808 <= a + b -> a + b <= 9223372036854775807 -> (Prim.bin .add).run [i64 a, i64 b] = some [i64 (a + b)]) /\
  (∀ {a b : Int}, -9223372036854775808 <= a - b -> a - b <= 9223372036854775807 -> (Prim.bin .sub).run [i64 a, i64 b] = some [i64 (a - b)]) /\
  (∀ {a b : Int}, 0 <= a -> a <= 9223372036854775807 -> 0 < b -> (Prim.bin .quo).run [i64 a, i64 b] = some [i64 (a / b)]) /\ (∀ {a b : Int}, 0 <= a -> 0 < b -> (Prim.bin .rem).run [i64 a, i64 b] = some [i64 (a % b)]) :=
 ⟨run_add, run_sub, run_quoI, run_remI⟩
end Go.Proofs.YtnlhnfifkninpaaDoor.Rf

namespace Go.Proofs.YtnlhnfifkninpaaDoor.Rf
set_option linter.unusedVariables false
set_option linter.unusedSimpArgs false
def szL {α : Type} (f : α -> Nat) (xs : List α) : Nat := xs.length + (xs.map f).sum
def szR (l : Int) (n : Nat) : Int := if (n : Int) <= l then l - n else -1
theorem szL_cons {α : Type} {f : α -> Nat} {x : α} {xs : List α} : szL f (x :: xs) = 1 + f x + szL f xs := by simp [szL]; omega
theorem szL_zero {α : Type} {xs : List α} : szL (fun _ => 0) xs = xs.length := by
 have : ∀ xs : List α, (xs.map fun _ => 0).sum = 0 := fun xs => by
  induction xs with
  | nil => rfl
  | cons x xs ih => simp only [List.map_cons, List.sum_cons, ih]
 rw [szL, this]; rfl
theorem szL_len {α : Type} {f : α -> Nat} {xs : List α} : xs.length <= szL f xs := by unfold szL; omega
section
variable {T : Nat -> Ent} {β : Type} {α : Type} [Inhabited α]
theorem toLoop {body : Tm β} {ρ : List D} {a : Atom} [Enc α] (xs : List α) (h0 : a.val ρ = rL (List.replicate xs.length (default : α)))
  (h1 : ∀ (i : Nat) (ys : List α), i < xs.length -> InB xs (i : Int) -> InB ys (i : Int) -> decide ((i : Int) < xs.length) = true -> Er T body (ρ ++ [rL ys, i64 i]) = some (.cont, [rL (setI ys i (atI xs i)), i64 ((i : Int) + 1)]))
  (h2 : ∀ ys : List α, decide ((xs.length : Int) < xs.length) = false -> Er T body (ρ ++ [rL ys, i64 xs.length]) = some (.yield 1, [rL ys])) :
  Er T (.loop [a, .c (i64 0)] body) ρ = some (.yield 1, [rL xs]) := by
 have key := loopR (T := T) (body := body) (ρ := ρ) (fun i => xs.length - i) (fun i => i <= xs.length) (fun i => [rL (upto default xs i), i64 (i : Nat)]) (fun q => q = (.yield 1, [rL xs]))
  (fun i hi => by
   rcases Nat.lt_or_ge i xs.length with hlt | hge
   ·refine ⟨_, h1 i (upto default xs i) hlt (InB_nat.2 hlt) (InB_nat.2 (by rw [upto_len _ _ hi]; exact hlt)) (by simp; omega), .inl ⟨rfl, i + 1, by omega, by omega, ?_⟩⟩
    have : setI (upto default xs i) (i : Int) (atI xs i) = upto default xs (i + 1) := by
     rw [setI]
     exact upto_set default xs (by rw [atI_get hlt]; exact List.getElem?_eq_getElem hlt)
    rw [this]; simp
   ·obtain rfl : i = xs.length := by omega
    refine ⟨_, h2 _ (by simp), .inr ⟨by simp, ?_⟩⟩
    rw [upto_all])
  xs.length 0 (by omega) (by omega) [a, .c (i64 0)] (by show [a.val ρ, _] = _; rw [h0, upto_zero]; rfl)
 obtain ⟨q, h4, rfl⟩ := key
 exact h4
def ctL {α : Type} (c : α -> Nat) (xs : List α) : Nat := (xs.map c).sum
end
theorem ctL_le {α : Type} {c f : α -> Nat} {m : Nat} (hm : 1 <= m) (h : ∀ x, c x <= m + m * f x) : ∀ xs : List α, ctL c xs <= m * szL f xs
 | [] => by simp [ctL]
 | x :: xs => by
  have ih := ctL_le hm h xs
  have h1 := h x
  rw [szL_cons]
  simp only [ctL, List.map_cons, List.sum_cons] at ih ⊢
  rw [Nat.mul_add, Nat.mul_add]
  omega
theorem lt0 {k : Int} (h : 0 <= k) : decide (k < 0) = false := by simp; omega
theorem ltm1 : decide ((-1 : Int) < 0) = true := rfl
theorem WT_rL {α : Type} [Enc α] {tys : List Ty} {bytes : Nat} {P : α -> Prop} {d : D} (hs : tys.length = Enc.sz α) (hd : ∀ ds, WTs tys ds -> ∃ a : α, ds = Enc.enc a /\ P a) (h : WT (.sl bytes tys) d) : ∃ xs : List α, d = rL xs /\ xs.length * bytes <= reachBytes /\ ∀ x ∈ xs, P x := by
 simp only [WT] at h
 obtain ⟨rs, rfl, h1, h2⟩ := h
 have key : ∀ rs : List (List D), (∀ r ∈ rs, WTs tys r) -> ∃ xs : List α, rs = xs.map Enc.enc /\ ∀ x ∈ xs, P x := by
  intro rs
  induction rs with
  | nil => exact fun _ => ⟨[], rfl, by simp⟩
  | cons r rs ih =>
   intro h
   obtain ⟨xs, hx, hp⟩ := ih fun r hr => h r (List.mem_cons_of_mem _ hr)
   obtain ⟨a, ha, hpa⟩ := hd r (h r List.mem_cons_self)
   exact ⟨a :: xs, by rw [hx, ha]; rfl, by simpa using ⟨hpa, hp⟩⟩
 obtain ⟨xs, rfl, hp⟩ := key rs h2
 exact ⟨xs, by rw [hs]; rfl, by simpa using h1, hp⟩
theorem WT_int {d : D} (h : WT (.int .i64) d) : ∃ n : Int, d = i64 n /\ -9223372036854775808 <= n /\ n <= 9223372036854775807 := by
 obtain ⟨n, rfl, h1, h2⟩ := h
 exact ⟨n, rfl, h1, h2⟩
theorem reach_len {n b : Nat} (h : n * b <= reachBytes) (hb : 0 < b) : n <= reachBytes := Nat.le_trans (Nat.le_mul_of_pos_right n hb) h
end Go.Proofs.YtnlhnfifkninpaaDoor.Rf

namespace Go.Proofs.YtnlhnfifkninpaaDoor.Rf
set_option linter.unusedVariables false
set_option linter.unusedSimpArgs false
theorem dec_int (ds : List D) (h : WTs [.int .i64] ds) : ∃ x : Int, ds = Enc.enc x /\ True := by
 simp only [WTs] at h
 obtain ⟨d, r, rfl, w, rfl⟩ := h
 obtain ⟨x, rfl, -, -⟩ := WT_int w
 exact ⟨x, rfl, trivial⟩
def sz_TAttr (x : TAttr) : Nat := szL (fun _ => 0) x.deps
def wf_TAttr (x : TAttr) : Prop := (x.deps.length <= 140737488351232)
theorem szu_TAttr (x : TAttr) : sz_TAttr x = x.deps.length := by
 unfold sz_TAttr
 simp only [szL_zero]
 try omega
def sz_TMsg (x : TMsg) : Nat := sz_TAttr x.attr
def wf_TMsg (x : TMsg) : Prop := (wf_TAttr x.attr)
theorem szu_TMsg (x : TMsg) : sz_TMsg x = x.attr.deps.length := by
 unfold sz_TMsg
 simp only [szL_zero, szu_TAttr]
 try omega
theorem dec_TMsg (ds : List D) (h : WTs [.int .i64, .int .i64, .int .i64, .int .i64, .int .i64, .int .i64, .int .i64, .int .i64, .int .i64, .int .i64, .int .i64, .int .i64, .int .i64, .int .i64, .sl 8 [.int .i64]] ds) : ∃ x : TMsg, ds = Enc.enc x /\ wf_TMsg x := by
 simp only [WTs] at h
 obtain ⟨d0, r0, rfl, w0, d1, r1, rfl, w1, d2, r2, rfl, w2, d3, r3, rfl, w3, d4, r4, rfl, w4, d5, r5, rfl, w5, d6, r6, rfl, w6, d7, r7, rfl, w7, d8, r8, rfl, w8, d9, r9, rfl, w9, d10, r10, rfl, w10, d11, r11, rfl, w11, d12, r12, rfl, w12, d13, r13, rfl, w13, d14, r14, rfl, w14, rfl⟩ := h
 obtain ⟨x0, rfl, -, -⟩ := WT_int w0
 obtain ⟨x1, rfl, -, -⟩ := WT_int w1
 obtain ⟨x2, rfl, -, -⟩ := WT_int w2
 obtain ⟨x3, rfl, -, -⟩ := WT_int w3
 obtain ⟨x4, rfl, -, -⟩ := WT_int w4
 obtain ⟨x5, rfl, -, -⟩ := WT_int w5
 obtain ⟨x6, rfl, -, -⟩ := WT_int w6
 obtain ⟨x7, rfl, -, -⟩ := WT_int w7
 obtain ⟨x8, rfl, -, -⟩ := WT_int w8
 obtain ⟨x9, rfl, -, -⟩ := WT_int w9
 obtain ⟨x10, rfl, -, -⟩ := WT_int w10
 obtain ⟨x11, rfl, -, -⟩ := WT_int w11
 obtain ⟨x12, rfl, -, -⟩ := WT_int w12
 obtain ⟨x13, rfl, -, -⟩ := WT_int w13
 obtain ⟨x14, rfl, l14, p14⟩ := WT_rL (α := Int) (P := fun _ => True) rfl dec_int w14
 exact ⟨⟨x0, x1, x2, x3, x4, x5, x6, x7, ⟨x8, x9, x10, x11, x12⟩, ⟨x13, x14⟩⟩, rfl, reach_len l14 (by decide)⟩
end Go.Proofs.YtnlhnfifkninpaaDoor.Rf

namespace Go.Proofs.YtnlhnfifkninpaaDoor.Rf
set_option linter.unusedVariables false
set_option linter.unusedSimpArgs false
theorem SZ : (∀ b : Bool, (b && true) = b) /\ (∀ b : Bool, (true && b) = b) /\ (∀ b : Bool, (b && false) = false) /\ (∀ b : Bool, (false && b) = false) /\
  (∀ b : Bool, (b || true) = true) /\ (∀ b : Bool, (true || b) = true) /\ (∀ b : Bool, (b || false) = b) /\ (∀ b : Bool, (false || b) = b) /\ ((!true) = false) /\ ((!false) = true) :=
 ⟨Bool.and_true, Bool.true_and, Bool.and_false, Bool.false_and, Bool.or_true, Bool.true_or, Bool.or_false, Bool.false_or, rfl, rfl⟩
theorem fork_in {γ : Type} {a r : γ} (h : forkT true a r = r) : a = r := h
theorem S0 : type_of% (And.intro Bool.false_eq_true (And.intro @ite_true.{1} (And.intro @ite_false.{1} (And.intro @SA (And.intro @SB (And.intro @SC (And.intro @SP (And.intro @SQ (And.intro @SZ (And.intro @beq_self_eq_true.{0} (And.intro @decide_true (And.intro @decide_false (And.intro @cast1 @S_eta))))))))))))) := And.intro Bool.false_eq_true (And.intro @ite_true.{1} (And.intro @ite_false.{1} (And.intro @SA (And.intro @SB (And.intro @SC (And.intro @SP (And.intro @SQ (And.intro @SZ (And.intro @beq_self_eq_true.{0} (And.intro @decide_true (And.intro @decide_false (And.intro @cast1 @S_eta))))))))))))
theorem bool_fin {x y : Bool} (h : x = true ↔ y = true) : some [D.bool x] = some [D.bool y] := by rw [Bool.eq_iff_iff.2 h]
def isGrp (n : Int) : Bool := n == 3 || n == 5
theorem isGrp_rng {n : Int} (h : isGrp n = true) : n = 3 \/ n = 5 := by simpa [isGrp] using h
def inst (n rep no : Int) : Bool := inR rep 0 (n - 1) && inR no 1 6
def cmdOk (c : TCmd) : Bool :=
 if c.kind == 0 then decide (c = ⟨0, 0, 0, 0, 0⟩) else if c.kind == 1 then inR c.id 1 999 && inR c.src 0 3 && inR c.dst 0 3 && !(c.src == c.dst) && inR c.amt 1 1000
 else c.kind == 2 && inR c.id 1 999 && inR c.src 0 3 && c.dst == 0 && c.amt == 0
def cmdCode (c : TCmd) : Int :=
 if !inR c.src 0 3 || (c.kind == 1 && !inR c.dst 0 3) then 4 else if c.kind == 1 && c.src == c.dst then 5 else if !inR c.id 1 999 || (c.kind == 1 && !inR c.amt 1 1000) then 6 else 0
def attrOk (n : Int) (a : TAttr) : Bool := inR a.seq 0 999 && (a.deps.length : Int) == n && a.deps.all fun x => inR x 0 6
def none0 (n : Int) : TAttr := ⟨0, List.replicate n.toNat 0⟩
def rowOk (n : Int) (r : TRow) : Bool :=
 inR r.ballot 0 9999 && inR r.vote 0 r.ballot && inR r.state 0 3 && (if r.state == 0 then r.vote == 0 && decide (r.cmd = ⟨0, 0, 0, 0, 0⟩) && decide (r.attr = none0 n) else cmdOk r.cmd && attrOk n r.attr)
def msgOk (n : Int) (m : TMsg) : Bool :=
  isGrp n && inR m.kind 1 7 && inst n m.rep m.no && inR m.src 0 (n - 1) && inR m.dst 0 (n - 1) && !(m.src == m.dst) && inR m.ballot 0 9999 &&
  (if m.kind == 7 then !(m.state == 3) && rowOk n ⟨m.ballot, m.vote, m.state, m.cmd, m.attr⟩
   else !(m.kind == 5 && !(m.ballot == 0)) && m.vote == 0 && m.state == 0 && cmdOk m.cmd && attrOk n m.attr &&
     (if m.kind == 2 then decide (m.cmd = ⟨0, 0, 0, 0, 0⟩) else if m.kind == 4 || m.kind == 6 then decide (m.cmd = ⟨0, 0, 0, 0, 0⟩) && decide (m.attr = none0 n) else true))
theorem none0_ok {n : Int} (h : isGrp n = true) : attrOk n (none0 n) = true := by
 rcases isGrp_rng h with rfl | rfl <;> rfl
theorem cmdZ_ok {c : TCmd} (h : decide (c = ⟨0, 0, 0, 0, 0⟩) = true) : cmdOk c = true := by
 rw [of_decide_eq_true h]; rfl
theorem cmdCode0 {c : TCmd} : (cmdCode c == 0) = (inR c.src 0 3 && inR c.id 1 999 && (!(c.kind == 1) || (inR c.dst 0 3 && !(c.src == c.dst) && inR c.amt 1 1000))) := by
 unfold cmdCode
 cases inR c.src 0 3 <;> cases inR c.id 1 999 <;> cases c.kind == 1 <;> cases inR c.dst 0 3 <;> cases c.src == c.dst <;> cases inR c.amt 1 1000 <;> rfl
def row0 (n : Int) : TRow := ⟨0, 0, 0, ⟨0, 0, 0, 0, 0⟩, none0 n⟩
theorem inst_rng {n rep no : Int} (h : inst n rep no = true) : 0 <= rep /\ rep <= n - 1 /\ 1 <= no /\ no <= 6 := by
 simp only [inst, inR, Bool.and_eq_true, decide_eq_true_eq] at h
 omega
theorem rowOk_cmd {n : Int} {r : TRow} (h : rowOk n r = true) : cmdOk r.cmd = true := by
 simp only [rowOk, Bool.and_eq_true] at h
 have h3 := h.2
 split at h3
 ·simp only [Bool.and_eq_true] at h3
  exact cmdZ_ok h3.1.2
 ·simp only [Bool.and_eq_true] at h3
  exact h3.1
theorem at_memI {α : Type} [Inhabited α] {xs : List α} {k : Int} (h : InB xs k) : atI xs k ∈ xs := by
 have h2 := h.lt
 have e : ((k.toNat : Nat) : Int) = k := by unfold InB at h; omega
 rw [<- e]
 exact at_mem h2
def ext (n : Int) (l : List TRow) (no : Int) : List TRow := l ++ List.replicate (no - l.length).toNat (row0 n)
def nb (b me : Int) : Int := if b < 8 + me then 8 + me else b + 1 + (me - b - 1) % 8
end Go.Proofs.YtnlhnfifkninpaaDoor.Rf

namespace Go.Proofs.YtnlhnfifkninpaaDoor.Rf
set_option linter.unusedVariables false
set_option linter.unusedSimpArgs false
end Go.Proofs.YtnlhnfifkninpaaDoor.Rf

namespace Go.Proofs.YtnlhnfifkninpaaDoor.Rf
set_option linter.unusedVariables false
set_option linter.unusedSimpArgs false
end Go.Proofs.YtnlhnfifkninpaaDoor.Rf

namespace Go.Proofs.YtnlhnfifkninpaaDoor.Rf
set_option linter.unusedVariables false
set_option linter.unusedSimpArgs false
end Go.Proofs.YtnlhnfifkninpaaDoor.Rf

namespace Go.Proofs.YtnlhnfifkninpaaDoor.Rf
set_option linter.unusedVariables false
set_option linter.unusedSimpArgs false
end Go.Proofs.YtnlhnfifkninpaaDoor.Rf

namespace Go.Proofs.YtnlhnfifkninpaaDoor.Rf
set_option linter.unusedVariables false
set_option linter.unusedSimpArgs false
section
variable {T : Nat -> Ent} {β : Type}
end
end Go.Proofs.YtnlhnfifkninpaaDoor.Rf

namespace Go.Proofs.YtnlhnfifkninpaaDoor.Rf
set_option linter.unusedVariables false
set_option linter.unusedSimpArgs false
end Go.Proofs.YtnlhnfifkninpaaDoor.Rf

namespace Go.Proofs.YtnlhnfifkninpaaDoor.Rf
set_option linter.unusedVariables false
set_option linter.unusedSimpArgs false
end Go.Proofs.YtnlhnfifkninpaaDoor.Rf

namespace Go.Proofs.YtnlhnfifkninpaaDoor.Rf
set_option linter.unusedVariables false
set_option linter.unusedSimpArgs false
def u64 (n : Int) : D := .int .u64 n
end Go.Proofs.YtnlhnfifkninpaaDoor.Rf

namespace Go.Proofs.YtnlhnfifkninpaaDoor.Rf
set_option linter.unusedVariables false
set_option linter.unusedSimpArgs false
theorem attrOk_of {n : Int} {a : TAttr} (h1 : 0 <= a.seq /\ a.seq <= 999) (h2 : (a.deps.length : Int) = n) (h3 : ∀ k : Nat, k < a.deps.length -> 0 <= atI a.deps (k : Int) /\ atI a.deps (k : Int) <= 6) : attrOk n a = true := by
 simp only [attrOk, Bool.and_eq_true, beq_iff_eq, List.all_eq_true]
 refine ⟨⟨by simp [inR, h1], h2⟩, fun x hx => ?_⟩
 obtain ⟨k, hk, rfl⟩ := List.getElem_of_mem hx
 have := h3 k hk
 rw [atI_get hk] at this
 simp [inR, this]
theorem rowOk_attr {n : Int} {r : TRow} (h : rowOk n r = true) (hg : isGrp n = true) : attrOk n r.attr = true := by
 simp only [rowOk, Bool.and_eq_true] at h
 have h3 := h.2
 have hn := isGrp_rng hg
 split at h3
 ·simp only [Bool.and_eq_true, decide_eq_true_eq] at h3
  rw [h3.2]
  refine attrOk_of (by simp [none0]) (by simp [none0]; omega) fun k hk => ?_
  rw [atI_get hk]
  simp [none0]
 ·simp only [Bool.and_eq_true] at h3
  exact h3.2
end Go.Proofs.YtnlhnfifkninpaaDoor.Rf

namespace Go.Proofs.YtnlhnfifkninpaaDoor.Rf
set_option linter.unusedVariables false
set_option linter.unusedSimpArgs false
end Go.Proofs.YtnlhnfifkninpaaDoor.Rf

namespace Go.Proofs.YtnlhnfifkninpaaDoor.Rf
set_option linter.unusedVariables false
set_option linter.unusedSimpArgs false
end Go.Proofs.YtnlhnfifkninpaaDoor.Rf

namespace Go.Proofs.YtnlhnfifkninpaaDoor.Rf
set_option linter.unusedVariables false
set_option linter.unusedSimpArgs false
def joinB (b : UInt8) : List (List UInt8) -> List UInt8
 | [] => []
 | [w] => w
 | w :: v :: ws => w ++ b :: joinB b (v :: ws)
def numD (n : Nat) : List UInt8 := if n < 10 then [UInt8.ofNat (48 + n)] else numD (n / 10) ++ [UInt8.ofNat (48 + n % 10)]
termination_by n
decreasing_by omega
theorem numD_lt {n : Nat} (h : n < 10) : numD n = [UInt8.ofNat (48 + n)] := by rw [numD, if_pos h]
theorem numD_ge {n : Nat} (h : 10 <= n) : numD n = numD (n / 10) ++ [UInt8.ofNat (48 + n % 10)] := by rw [numD, if_neg (by omega)]
def u8 (c : UInt8) : D := .int .u8 (c.toNat : Nat)
theorem t_add {a b : List UInt8} (h : a.length + b.length <= 4611686018427387904) : (Prim.bin .add).run [.str a, .str b] = some [.str (a ++ b)] := by
 show ((if a.length + b.length <= 4611686018427387904 then some (D.str (a ++ b)) else none).map fun d => [d]) = _
 rw [if_pos h]
 rfl
theorem t_ne {a b : List UInt8} : (Prim.bin .neq).run [.str a, .str b] = some [.bool (!(a == b))] := rfl
end Go.Proofs.YtnlhnfifkninpaaDoor.Rf

namespace Go.Proofs.YtnlhnfifkninpaaDoor.Rf
set_option linter.unusedVariables false
set_option linter.unusedSimpArgs false
def numT (n : Int) : List UInt8 := numD n.toNat
theorem numD_len : ∀ n : Nat, (numD n).length <= n + 1 := by
 intro n
 induction n using Nat.strongRecOn with
 | _ n ih =>
  rcases Nat.lt_or_ge n 10 with h | h
  ·rw [numD_lt h]; simp
  ·rw [numD_ge h, List.length_append]
   have := ih (n / 10) (by omega)
   simp only [List.length_cons, List.length_nil]
   omega
def cmdT (c : TCmd) : List UInt8 :=
 if c.kind == 1 then [109, 111, 118, 101, 32] ++ numT c.id ++ [32] ++ numT c.src ++ [32] ++ numT c.dst ++ [32] ++ numT c.amt
 else if c.kind == 2 then [114, 101, 97, 100, 32] ++ numT c.id ++ [32] ++ numT c.src else [45]
theorem numT_len {n : Int} (h : n <= 9999) : (numT n).length <= 10000 := by
 have := numD_len n.toNat
 unfold numT
 omega
theorem cmdOk_rng {c : TCmd} (h : cmdOk c = true) : (0 <= c.id /\ c.id <= 9999) /\ (0 <= c.src /\ c.src <= 9999) /\ (0 <= c.dst /\ c.dst <= 9999) /\ 0 <= c.amt /\ c.amt <= 9999 := by
 unfold cmdOk at h
 split at h
 ·rw [of_decide_eq_true h]; decide
 ·split at h
  ·simp only [inR, Bool.and_eq_true, decide_eq_true_eq] at h; omega
  ·simp only [inR, Bool.and_eq_true, decide_eq_true_eq, beq_iff_eq] at h; omega
theorem cmdOk_kind {c : TCmd} (h : cmdOk c = true) : c.kind = 0 \/ c.kind = 1 \/ c.kind = 2 := by
 unfold cmdOk at h
 split at h
 ·rename_i h1; exact .inl (by simpa using h1)
 ·split at h
  ·rename_i h1; exact .inr (.inl (by simpa using h1))
  ·simp only [Bool.and_eq_true, beq_iff_eq] at h; exact .inr (.inr h.1.1.1.1)
theorem joinB_snoc {b : UInt8} : ∀ {ws : List (List UInt8)} {w : List UInt8}, ws ≠ [] -> joinB b (ws ++ [w]) = joinB b ws ++ [b] ++ w
 | [], _, h => absurd rfl h
 | [v], w, _ => by simp [joinB]
 | v :: u :: ws, w, _ => by
  have ih := joinB_snoc (b := b) (ws := u :: ws) (w := w) (by simp)
  simp only [List.cons_append] at ih ⊢
  simp only [joinB, ih]
  simp
theorem joinB_len {b : UInt8} : ∀ {ws : List (List UInt8)}, (∀ w ∈ ws, w.length <= 10000) -> (joinB b ws).length <= 10001 * ws.length
 | [], _ => by simp [joinB]
 | [v], h => by
  have := h v (by simp)
  simp only [joinB, List.length_cons, List.length_nil]
  omega
 | v :: u :: ws, h => by
  have ih := joinB_len (b := b) (ws := u :: ws) (fun w hw => h w (List.mem_cons_of_mem _ hw))
  have := h v (by simp)
  simp only [joinB, List.length_append, List.length_cons] at ih ⊢
  omega
def attrT (a : TAttr) : List UInt8 := numT a.seq ++ 58 :: joinB 44 (a.deps.map numT)
theorem attrOk_rng {n : Int} {a : TAttr} (h : attrOk n a = true) : 0 <= a.seq /\ a.seq <= 999 /\ (a.deps.length : Int) = n /\ ∀ x ∈ a.deps, 0 <= x /\ x <= 6 := by
 simp only [attrOk, inR, Bool.and_eq_true, decide_eq_true_eq, beq_iff_eq, List.all_eq_true] at h
 exact ⟨h.1.1.1, h.1.1.2, h.1.2, fun x hx => h.2 x hx⟩
theorem rowOk_rng {n : Int} {r : TRow} (h : rowOk n r = true) : (0 <= r.ballot /\ r.ballot <= 9999) /\ (0 <= r.vote /\ r.vote <= 9999) /\ 0 <= r.state /\ r.state <= 3 := by
 simp only [rowOk, inR, Bool.and_eq_true, decide_eq_true_eq] at h
 omega
theorem flat_len {xs : List Int} (h : ∀ x ∈ xs, 0 <= x /\ x <= 9999) : (xs.flatMap fun x => 32 :: numT x).length <= 10001 * xs.length := by
 induction xs with
 | nil => simp
 | cons x xs ih =>
  have h1 := ih (fun y hy => h y (List.mem_cons_of_mem _ hy))
  have h2 := numT_len (h x List.mem_cons_self).2
  simp only [List.flatMap_cons, List.length_append, List.length_cons]
  omega
end Go.Proofs.YtnlhnfifkninpaaDoor.Rf

namespace Go.Proofs.YtnlhnfifkninpaaDoor.Rf
set_option linter.unusedVariables false
set_option linter.unusedSimpArgs false
def wordsM : List (List UInt8) := [[], [112, 114, 101], [112, 114, 101, 111, 107], [97, 99, 99], [97, 99, 99, 111, 107], [99, 111, 109], [112, 114, 101, 112], [112, 114, 101, 112, 111, 107]]
end Go.Proofs.YtnlhnfifkninpaaDoor.Rf

namespace Go.Proofs.YtnlhnfifkninpaaDoor.Rf
set_option linter.unusedVariables false
set_option linter.unusedSimpArgs false
end Go.Proofs.YtnlhnfifkninpaaDoor.Rf

namespace Go.Proofs.YtnlhnfifkninpaaDoor.Rf
set_option linter.unusedVariables false
set_option linter.unusedSimpArgs false
theorem decD_num : ∀ n : Nat, Lib.decDigits n = numD n := by
 intro n
 induction n using Nat.strongRecOn with
 | _ n ih =>
  rw [Lib.decDigits]
  by_cases h : n < 10
  ·rw [numD_lt h]
   simp [h]
  ·rw [numD_ge (by omega)]
   simp [h, ih (n / 10) (by omega)]
theorem itoa_num {n : Int} (h0 : 0 <= n) : Lib.itoa n = numT n := by
 unfold Lib.itoa numT
 rw [if_neg (by omega), decD_num]
theorem fmtE_num {n : Int} (h0 : 0 <= n) (h1 : n <= 9999) : fmtE [i64 n, i64 10] = some [.str (numT n)] := by
 show (if (10 : Int) = 10 /\ -9223372036854775808 <= n /\ n <= 9223372036854775807 then some [D.str (Lib.itoa n)] else none) = _
 rw [if_pos ⟨rfl, by omega, by omega⟩, itoa_num h0]
theorem join_B {b : UInt8} : ∀ xs : List (List UInt8), Lib.join xs [b] = joinB b xs
 | [] => rfl
 | [x] => by simp [Lib.join, List.intercalate, joinB]
 | x :: y :: r => by
  have ih := join_B (b := b) (y :: r)
  simp only [Lib.join, List.intercalate, joinB] at ih ⊢
  simp [List.intersperse, <- ih]
theorem strsOf_rL : ∀ xs : List (List UInt8), strsOf (xs.map fun s => [D.str s]) = some xs
 | [] => rfl
 | x :: r => by
  simp only [List.map_cons, strsOf, strsOf_rL r]
  rfl
theorem joinE_B {xs : List (List UInt8)} {b : UInt8} (hne : xs ≠ []) (hl : xs.length <= 100000) (hw : ∀ w ∈ xs, w.length <= 10000) : joinE [rL xs, .str [b]] = some [.str (joinB b xs)] := by
 have e : (rL xs : D) = .rows 1 (xs.map fun s => [D.str s]) := rfl
 have h1 := joinB_len (b := b) (ws := xs) hw
 rw [e]
 show (strsOf (xs.map fun s => [D.str s])).bind _ = _
 rw [strsOf_rL, Option.bind_some, if_pos, join_B]
 rw [join_B]
 exact ⟨hne, by omega, by omega⟩
theorem cmdT_len {c : TCmd} (hc : cmdOk c = true) : (cmdT c).length <= 100000 := by
 obtain ⟨⟨i0, i1⟩, ⟨f0, f1⟩, ⟨t0, t1⟩, a0, a1⟩ := cmdOk_rng hc
 have li := numT_len i1
 have lf := numT_len f1
 have lt := numT_len t1
 have la := numT_len a1
 unfold cmdT
 split
 ·simp only [List.length_append, List.length_cons, List.length_nil]; omega
 ·split
  ·simp only [List.length_append, List.length_cons, List.length_nil]; omega
  ·simp
def msgNs (m : TMsg) : List Int := [m.src, m.dst, m.rep, m.no, m.ballot, m.vote, m.state]
def msgT (m : TMsg) : List UInt8 := atI wordsM m.kind ++ (msgNs m).flatMap (fun x => 32 :: numT x) ++ [124] ++ cmdT m.cmd ++ [124] ++ attrT m.attr
def msgR (n : Int) (m : TMsg) : List UInt8 × Bool := if msgOk n m then (msgT m, true) else ([], false)
theorem msgOk_rng {n : Int} {m : TMsg} (h : msgOk n m = true) : isGrp n = true /\ (1 <= m.kind /\ m.kind <= 7) /\ (∀ x ∈ msgNs m, 0 <= x /\ x <= 9999) /\ cmdOk m.cmd = true /\ attrOk n m.attr = true := by
 simp only [msgOk, Bool.and_eq_true] at h
 obtain ⟨⟨⟨⟨⟨⟨⟨hg, hk⟩, hi⟩, hs⟩, hd⟩, hne⟩, hb⟩, hr⟩ := h
 have hn := isGrp_rng hg
 have hi2 := inst_rng hi
 simp only [inR, Bool.and_eq_true, decide_eq_true_eq] at hk hs hd hb
 have key : (0 <= m.vote /\ m.vote <= 9999) /\ (0 <= m.state /\ m.state <= 9999) /\ cmdOk m.cmd = true /\ attrOk n m.attr = true := by
  split at hr
  ·simp only [Bool.and_eq_true] at hr
   have h2 := rowOk_rng hr.2
   have h3 := rowOk_cmd hr.2
   have h4 := rowOk_attr hr.2 hg
   simp only at h2 h3 h4
   exact ⟨by omega, by omega, h3, h4⟩
  ·simp only [Bool.and_eq_true, beq_iff_eq] at hr
   obtain ⟨⟨⟨⟨⟨h1, h2⟩, h3⟩, h4⟩, h5⟩, h6⟩ := hr
   exact ⟨by omega, by omega, h4, h5⟩
 refine ⟨hg, hk, ?_, key.2.2.1, key.2.2.2⟩
 intro x hx
 simp only [msgNs, List.mem_cons, List.not_mem_nil, or_false] at hx
 rcases hx with rfl | rfl | rfl | rfl | rfl | rfl | rfl <;> omega
theorem word_len {k : Int} (h : InB wordsM k) : (atI wordsM k).length <= 6 := by
 have h1 : ∀ w ∈ wordsM, w.length <= 6 := by decide
 exact h1 _ (at_memI h)
theorem join_flat {xs : List Int} (h : xs ≠ []) : [32] ++ joinB 32 (xs.map numT) = xs.flatMap (fun x => 32 :: numT x) := by
 induction xs with
 | nil => exact absurd rfl h
 | cons x xs ih =>
  cases xs with
  | nil => simp [joinB]
  | cons y ys =>
   have ih := ih (by simp)
   simp only [List.map_cons, joinB, List.flatMap_cons] at ih ⊢
   rw [<- ih]
   simp
end Go.Proofs.YtnlhnfifkninpaaDoor.Rf

namespace Go.Proofs.YtnlhnfifkninpaaDoor.Rf
set_option linter.unusedVariables false
set_option linter.unusedSimpArgs false
end Go.Proofs.YtnlhnfifkninpaaDoor.Rf
