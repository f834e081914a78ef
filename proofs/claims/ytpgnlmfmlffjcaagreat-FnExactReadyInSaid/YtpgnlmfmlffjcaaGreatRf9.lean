/- Terms for the program's functions, and that they are right: part 9 of 9. -/
import Derived.Test.YtpgnlmfmlffjcaaGreatRf8
import Derived.Lib.ItoaNum
set_option linter.unusedSimpArgs false
set_option linter.unusedVariables false
set_option linter.unnecessarySimpa false
set_option linter.unusedSectionVars false
namespace Go.Proofs.YtpgnlmfmlffjcaaGreat.Rf
set_option linter.unusedVariables false
set_option linter.unusedSimpArgs false
theorem S_upd : (∀ {α : Type} [Inhabited α] {xs : List α} {k : Int} {a : α}, InB xs k -> atI (setI xs k a) k = a) /\ (∀ {α : Type} {xs : List α} {k : Int} {a b : α}, setI (setI xs k a) k b = setI xs k b) /\
  (∀ {α : Type} {xs : List α} {j k : Int} {a : α}, InB (setI xs j a) k = InB xs k) /\ (∀ {α : Type} {xs : List α} {j : Int} {a : α}, (setI xs j a).length = xs.length) := by
 refine ⟨?_, ?_, ?_, ?_⟩
 ·intro α _ xs k a h
  have := h.lt
  rw [setI, atI, List.getD_eq_getElem?_getD, List.getElem?_set_self this]; rfl
 ·intro α xs k a b
  rw [setI, setI, setI, List.set_set]
 ·intro α xs j k a
  unfold InB setI
  rw [List.length_set]
 ·intro α xs j a
  exact List.length_set ..
def szL {α : Type} (f : α -> Nat) (xs : List α) : Nat := xs.length + (xs.map f).sum
def szR (l : Int) (n : Nat) : Int := if (n : Int) <= l then l - n else -1
theorem szL_cons {α : Type} {f : α -> Nat} {x : α} {xs : List α} : szL f (x :: xs) = 1 + f x + szL f xs := by simp [szL]; omega
theorem szL_mem {α : Type} {f : α -> Nat} : ∀ {xs : List α} {x : α}, x ∈ xs -> 1 + f x <= szL f xs
 | [], x, h => by cases h
 | y :: ys, x, h => by
  rw [szL_cons]
  rcases List.mem_cons.1 h with rfl | h
  ·omega
  ·have := szL_mem (f := f) h
   omega
theorem szL_zero {α : Type} {xs : List α} : szL (fun _ => 0) xs = xs.length := by
 have : ∀ xs : List α, (xs.map fun _ => 0).sum = 0 := fun xs => by
  induction xs with
  | nil => rfl
  | cons x xs ih => simp only [List.map_cons, List.sum_cons, ih]
 rw [szL, this]; rfl
theorem szL_len {α : Type} {f : α -> Nat} {xs : List α} : xs.length <= szL f xs := by unfold szL; omega
section
variable {T : Nat -> Ent} {β : Type} {α : Type} [Inhabited α]
theorem szLoop {body : Tm β} {ρ : List D} {a : Atom} (xs : List α) (f : α -> Nat) (l : Int) (h0 : a.val ρ = i64 l) (hl : 0 <= l) (hl' : l <= 1048576)
  (h1 : ∀ (i : Nat) (m : Int), i < xs.length -> InB xs (i : Int) -> decide ((i : Int) < xs.length) = true -> 0 <= m -> m <= 1048576 -> (f (atI xs i) : Int) <= m -> szR m (f (atI xs i)) = m - f (atI xs i) -> decide (m - (f (atI xs i) : Int) < 0) = false -> Er T body (ρ ++ [i64 m, i64 i]) = some (.cont, [i64 (m - f (atI xs i)), i64 ((i : Int) + 1)]))
  (h2 : ∀ (i : Nat) (m : Int), i < xs.length -> InB xs (i : Int) -> decide ((i : Int) < xs.length) = true -> 0 <= m -> m <= 1048576 -> m < f (atI xs i) -> szR m (f (atI xs i)) = -1 -> decide ((-1 : Int) < 0) = true -> Er T body (ρ ++ [i64 m, i64 i]) = some (.ret, [i64 (-1)]))
  (h3 : ∀ m : Int, decide ((xs.length : Int) < xs.length) = false -> Er T body (ρ ++ [i64 m, i64 xs.length]) = some (.yield 1, [i64 m])) :
  Er T (.loop [a, .c (i64 0)] body) ρ = forkT (decide (((xs.map f).sum : Int) <= l)) (some (.yield 1, [i64 (l - (xs.map f).sum)])) (some (.ret, [i64 (-1)])) := by
 have hall : ∀ (ys : List α) (i : Nat) (m : Int), 0 <= m -> foldX (fun (_ : Nat) x (m : Int) => if (f x : Int) <= m then Rd1.go (m - f x) else .out (.ret, [i64 (-1)])) i ys m = if ((ys.map f).sum : Int) <= m then .go (m - (ys.map f).sum) else .out (.ret, [i64 (-1)]) := by
  intro ys
  induction ys with
  | nil =>
   intro i m hm
   simp only [foldX, List.map_nil, List.sum_nil]
   rw [if_pos (by simpa using hm)]
   simp
  | cons y ys ih =>
   intro i m hm
   simp only [foldX, List.map_cons, List.sum_cons]
   by_cases h : (f y : Int) <= m
   ·rw [if_pos h]
    simp only
    rw [ih (i + 1) _ (by omega)]
    by_cases h4 : ((ys.map f).sum : Int) <= m - f y
    ·rw [if_pos h4, if_pos (by omega)]
     congr 1
     omega
    ·rw [if_neg h4, if_neg (by omega)]
   ·rw [if_neg h]
    simp only
    rw [if_neg (by omega)]
 obtain ⟨q, h4, h5⟩ := loopX (T := T) (body := body) (ρ := ρ) (init := [a, .c (i64 0)]) xs (fun i (m : Int) => [i64 m, i64 i]) l (fun _ x m => if (f x : Int) <= m then .go (m - f x) else .out (.ret, [i64 (-1)])) (fun _ m => 0 <= m /\ m <= 1048576) (fun m => (.yield 1, [i64 m])) (by show [a.val ρ, _] = _; rw [h0]; rfl) ⟨hl, hl'⟩
  (fun i m hi hm => by
   by_cases e : (f (atI xs i) : Int) <= m
   ·rw [if_pos e]
    refine ⟨h1 i m hi (InB_nat.2 hi) (by simp; omega) hm.1 hm.2 e (by rw [szR, if_pos e]) (by simp; omega), fun s' h => ?_, fun r h => by cases h⟩
    simp only [Rd1.go.injEq] at h
    omega
   ·rw [if_neg e]
    refine ⟨h2 i m hi (InB_nat.2 hi) (by simp; omega) hm.1 hm.2 (by omega) (by rw [szR, if_neg e]) rfl, fun s' h => by simp at h, fun r h => ?_⟩
    simp only [Rd1.out.injEq] at h
    rw [<- h]; simp)
  (fun m hm => ⟨h3 m (by simp), by simp⟩)
 rw [h4]
 rw [hall xs 0 l hl] at h5
 by_cases h : ((xs.map f).sum : Int) <= l
 ·rw [if_pos h] at h5
  rw [decide_eq_true h]
  rcases h5 with ⟨s, h5, -, rfl⟩ | h5
  ·simp only [Rd1.go.injEq] at h5
   rw [<- h5]; rfl
  ·cases h5
 ·rw [if_neg h] at h5
  rw [decide_eq_false h]
  rcases h5 with ⟨s, h5, -⟩ | h5
  ·cases h5
  ·simp only [Rd1.out.injEq] at h5
   rw [<- h5]; rfl
theorem toLoop {body : Tm β} {ρ : List D} {a : Atom} [Enc α] (xs : List α) (h0 : a.val ρ = rL (List.replicate xs.length (default : α)))
  (h1 : ∀ (i : Nat) (ys : List α), i < xs.length -> InB xs (i : Int) -> InB ys (i : Int) -> decide ((i : Int) < xs.length) = true -> Er T body (ρ ++ [rL ys, i64 i]) = some (.cont, [rL (setI ys i (atI xs i)), i64 ((i : Int) + 1)]))
  (h2 : ∀ ys : List α, decide ((xs.length : Int) < xs.length) = false -> Er T body (ρ ++ [rL ys, i64 xs.length]) = some (.yield 1, [rL ys])) :
  Er T (.loop [a, .c (i64 0)] body) ρ = some (.yield 1, [rL xs]) := by
 have key := loopR (T := T) (body := body) (ρ := ρ) (fun i => xs.length - i) (fun i => i <= xs.length) (fun i => [rL (upto default xs i), i64 (i : Nat)]) (fun q => q = (.yield 1, [rL xs]))
  (fun i hi => by
   rcases Nat.lt_or_ge i xs.length with hlt | hge
   ·refine ⟨_, h1 i (upto default xs i) hlt (InB_nat.2 hlt) (InB_nat.2 (by rw [upto_len _ _ hi]; exact hlt)) (by simp; omega), .inl ⟨rfl, i + 1, by omega, by omega, ?_⟩⟩
    have : setI (upto default xs i) (i : Int) (atI xs i) = upto default xs (i + 1) := by
     rw [setI]
     exact upto_set default xs (by rw [atI_get hlt]; exact List.getElem?_eq_getElem hlt)
    rw [this]; simp
   ·obtain rfl : i = xs.length := by omega
    refine ⟨_, h2 _ (by simp), .inr ⟨by simp, ?_⟩⟩
    rw [upto_all])
  xs.length 0 (by omega) (by omega) [a, .c (i64 0)] (by show [a.val ρ, _] = _; rw [h0, upto_zero]; rfl)
 obtain ⟨q, h4, rfl⟩ := key
 exact h4
def mkL {α : Type} (c : α -> Nat) (f : α -> Int -> α) : List α -> Int -> List α
 | [], _ => []
 | x :: xs, k => f x k :: mkL c f xs (k + c x)
def ctL {α : Type} (c : α -> Nat) (xs : List α) : Nat := (xs.map c).sum
theorem mkL_len {α : Type} {c : α -> Nat} {f : α -> Int -> α} : ∀ {xs : List α} {k : Int}, (mkL c f xs k).length = xs.length
 | [], _ => rfl
 | x :: xs, k => by simp [mkL, mkL_len]
theorem mkL_at {c : α -> Nat} {f : α -> Int -> α} : ∀ {xs : List α} {k : Int} {i : Nat}, i < xs.length -> atI (mkL c f xs k) (i : Int) = f (atI xs i) (k + ctL c (xs.take i))
 | x :: xs, k, 0, h => by simp [mkL, atI, ctL]
 | x :: xs, k, i + 1, h => by
  have ih := mkL_at (c := c) (f := f) (xs := xs) (k := k + c x) (i := i) (by simpa using h)
  rw [mkL, atI_nat, atI_nat, List.getD_cons_succ, List.getD_cons_succ, <- atI_nat, ih, <- atI_nat]
  congr 1
  simp only [ctL, List.take_succ_cons, List.map_cons, List.sum_cons]
  omega
theorem ctL_take {c : α -> Nat} {xs : List α} {i : Nat} (h : i < xs.length) : ctL c (xs.take (i + 1)) = ctL c (xs.take i) + c (atI xs i) := by
 rw [List.take_succ_eq_append_getElem h, atI_get h]
 unfold ctL
 rw [List.map_append, List.sum_append]
 simp
omit [Inhabited α] in
theorem ctL_take_le {c : α -> Nat} : ∀ {xs : List α} {i : Nat}, ctL c (xs.take i) <= ctL c xs
 | [], i => by simp
 | x :: xs, 0 => by simp [ctL]
 | x :: xs, i + 1 => by
  have := ctL_take_le (c := c) (xs := xs) (i := i)
  simp only [ctL, List.take_succ_cons, List.map_cons, List.sum_cons] at this ⊢
  omega
theorem ctL_get_le {c : α -> Nat} {xs : List α} {i : Nat} (h : i < xs.length) : ctL c (xs.take i) + c (atI xs i) <= ctL c xs := by
 rw [<- ctL_take h]; exact ctL_take_le
def upM (c : α -> Nat) (f : α -> Int -> α) (xs : List α) (k : Int) (i : Nat) : List α := (mkL c f xs k).take i ++ xs.drop i
omit [Inhabited α] in
theorem upM_len {c : α -> Nat} {f : α -> Int -> α} {xs : List α} {k : Int} {i : Nat} (h : i <= xs.length) : (upM c f xs k i).length = xs.length := by
 simp [upM, mkL_len]; omega
theorem upM_at {c : α -> Nat} {f : α -> Int -> α} {xs : List α} {k : Int} {i : Nat} (h : i < xs.length) : atI (upM c f xs k i) (i : Int) = atI xs i := by
 rw [atI_get (by rw [upM_len (by omega)]; exact h), atI_get h]
 unfold upM
 rw [List.getElem_append_right (by simp [mkL_len]; omega)]
 simp [mkL_len, Nat.min_eq_left (Nat.le_of_lt h)]
theorem upM_set {c : α -> Nat} {f : α -> Int -> α} {xs : List α} {k : Int} {i : Nat} (h : i < xs.length) : setI (upM c f xs k i) (i : Int) (f (atI xs i) (k + ctL c (xs.take i))) = upM c f xs k (i + 1) := by
 have hm : i < (mkL c f xs k).length := by rw [mkL_len]; exact h
 unfold upM setI
 rw [Int.toNat_natCast, List.set_append_right _ _ (by simp [mkL_len]; omega), List.take_succ_eq_append_getElem hm, List.append_assoc]
 congr 1
 have e : i - ((mkL c f xs k).take i).length = 0 := by simp [mkL_len]; omega
 rw [e, List.drop_eq_getElem_cons h, List.set_cons_zero]
 have := mkL_at (c := c) (f := f) (k := k) h
 rw [atI_get hm] at this
 rw [this]; rfl
theorem markLoop {body : Tm β} {ρ : List D} {a b d : Atom} [Enc α] (xs : List α) (c : α -> Nat) (f : α -> Int -> α) (k : Int) (h0 : a.val ρ = rL xs) (h0' : b.val ρ = i64 k) (hd : d.val ρ = .undef) (hk : 0 <= k) (hb : k + ctL c xs <= 1152921504606846976)
  (h1 : ∀ (i : Nat) (ys : List α) (m : Int), i < xs.length -> ys.length = xs.length -> InB ys (i : Int) -> decide ((i : Int) < xs.length) = true -> atI ys i = atI xs i -> 0 <= m -> m + c (atI xs i) <= 1152921504606846976 -> xs.length <= 1152921504606846976 -> Er T body (ρ ++ [rL ys, .undef, i64 m, i64 i]) = some (.cont, [rL (setI ys i (f (atI xs i) m)), .undef, i64 (m + c (atI xs i)), i64 ((i : Int) + 1)]))
  (h2 : ∀ (ys : List α) (m : Int), ys.length = xs.length -> decide ((xs.length : Int) < xs.length) = false -> Er T body (ρ ++ [rL ys, .undef, i64 m, i64 xs.length]) = some (.yield 1, [rL ys, i64 m])) (hlen : xs.length <= 1152921504606846976) :
  Er T (.loop [a, d, b, .c (i64 0)] body) ρ = some (.yield 1, [rL (mkL c f xs k), i64 (k + ctL c xs)]) := by
 have key := loopR (T := T) (body := body) (ρ := ρ) (fun i => xs.length - i) (fun i => i <= xs.length) (fun i => [rL (upM c f xs k i), .undef, i64 (k + ctL c (xs.take i)), i64 (i : Nat)]) (fun q => q = (.yield 1, [rL (mkL c f xs k), i64 (k + ctL c xs)]))
  (fun i hi => by
   rcases Nat.lt_or_ge i xs.length with hlt | hge
   ·have h3 := ctL_get_le (c := c) hlt
    refine ⟨_, h1 i (upM c f xs k i) (k + ctL c (xs.take i)) hlt (upM_len hi) (InB_nat.2 (by rw [upM_len hi]; exact hlt)) (by simp; omega) (upM_at hlt) (by omega) (by omega) hlen, .inl ⟨rfl, i + 1, by omega, by omega, ?_⟩⟩
    rw [upM_set hlt, ctL_take hlt]
    simp only [Int.natCast_add, Int.add_assoc]; rfl
   ·obtain rfl : i = xs.length := by omega
    refine ⟨_, h2 _ _ (upM_len hi) (by simp), .inr ⟨by simp, ?_⟩⟩
    have e : upM c f xs k xs.length = mkL c f xs k := by
     unfold upM
     rw [List.drop_length, List.append_nil, List.take_of_length_le (by rw [mkL_len]; omega)]
    rw [e, List.take_length])
  xs.length 0 (by omega) (by omega) [a, d, b, .c (i64 0)] (by show [a.val ρ, d.val ρ, b.val ρ, _] = _; rw [h0, h0', hd]; simp [upM, ctL, Atom.val])
 obtain ⟨q, h4, rfl⟩ := key
 exact h4
theorem heldLoop {body : Tm β} {ρ : List D} {b : Atom} (xs : List α) (c : α -> Nat) (f : α -> Int -> α) (k : Int) (h0' : b.val ρ = i64 k) (hk : 0 <= k) (hb : k + ctL c xs <= 1152921504606846976) (hlen : xs.length <= 1152921504606846976)
  (h1 : ∀ (i : Nat) (m : Int), i < xs.length -> InB (mkL c f xs k) (i : Int) -> (mkL c f xs k).length = xs.length -> decide ((i : Int) < xs.length) = true -> atI (mkL c f xs k) i = f (atI xs i) m -> 0 <= m -> m + c (atI xs i) <= 1152921504606846976 -> xs.length <= 1152921504606846976 -> Er T body (ρ ++ [i64 m, i64 i]) = some (.cont, [i64 (m + c (atI xs i)), i64 ((i : Int) + 1)]))
  (h2 : ∀ m : Int, (mkL c f xs k).length = xs.length -> decide ((xs.length : Int) < xs.length) = false -> Er T body (ρ ++ [i64 m, i64 xs.length]) = some (.yield 1, [i64 m])) :
  Er T (.loop [b, .c (i64 0)] body) ρ = some (.yield 1, [i64 (k + ctL c xs)]) := by
 have key := loopR (T := T) (body := body) (ρ := ρ) (fun i => xs.length - i) (fun i => i <= xs.length) (fun i => [i64 (k + ctL c (xs.take i)), i64 (i : Nat)]) (fun q => q = (.yield 1, [i64 (k + ctL c xs)]))
  (fun i hi => by
   rcases Nat.lt_or_ge i xs.length with hlt | hge
   ·have h3 := ctL_get_le (c := c) hlt
    refine ⟨_, h1 i (k + ctL c (xs.take i)) hlt (InB_nat.2 (by rw [mkL_len]; exact hlt)) mkL_len (by simp; omega) (mkL_at hlt) (by omega) (by omega) hlen, .inl ⟨rfl, i + 1, by omega, by omega, ?_⟩⟩
    rw [ctL_take hlt]
    simp only [Int.natCast_add, Int.add_assoc]; rfl
   ·obtain rfl : i = xs.length := by omega
    refine ⟨_, h2 _ mkL_len (by simp), .inr ⟨by simp, ?_⟩⟩
    rw [List.take_length])
  xs.length 0 (by omega) (by omega) [b, .c (i64 0)] (by show [b.val ρ, _] = _; rw [h0']; simp [ctL, Atom.val])
 obtain ⟨q, h4, rfl⟩ := key
 exact h4
end
theorem ctL_le {α : Type} {c f : α -> Nat} {m : Nat} (hm : 1 <= m) (h : ∀ x, c x <= m + m * f x) : ∀ xs : List α, ctL c xs <= m * szL f xs
 | [] => by simp [ctL]
 | x :: xs => by
  have ih := ctL_le hm h xs
  have h1 := h x
  rw [szL_cons]
  simp only [ctL, List.map_cons, List.sum_cons] at ih ⊢
  rw [Nat.mul_add, Nat.mul_add]
  omega
theorem lt0 {k : Int} (h : 0 <= k) : decide (k < 0) = false := by simp; omega
theorem ltm1 : decide ((-1 : Int) < 0) = true := rfl
theorem WT_rL {α : Type} [Enc α] {tys : List Ty} {bytes : Nat} {P : α -> Prop} {d : D} (hs : tys.length = Enc.sz α) (hd : ∀ ds, WTs tys ds -> ∃ a : α, ds = Enc.enc a /\ P a) (h : WT (.sl bytes tys) d) : ∃ xs : List α, d = rL xs /\ xs.length * bytes <= reachBytes /\ ∀ x ∈ xs, P x := by
 simp only [WT] at h
 obtain ⟨rs, rfl, h1, h2⟩ := h
 have key : ∀ rs : List (List D), (∀ r ∈ rs, WTs tys r) -> ∃ xs : List α, rs = xs.map Enc.enc /\ ∀ x ∈ xs, P x := by
  intro rs
  induction rs with
  | nil => exact fun _ => ⟨[], rfl, by simp⟩
  | cons r rs ih =>
   intro h
   obtain ⟨xs, hx, hp⟩ := ih fun r hr => h r (List.mem_cons_of_mem _ hr)
   obtain ⟨a, ha, hpa⟩ := hd r (h r List.mem_cons_self)
   exact ⟨a :: xs, by rw [hx, ha]; rfl, by simpa using ⟨hpa, hp⟩⟩
 obtain ⟨xs, rfl, hp⟩ := key rs h2
 exact ⟨xs, by rw [hs]; rfl, by simpa using h1, hp⟩
theorem WT_int {d : D} (h : WT (.int .i64) d) : ∃ n : Int, d = i64 n /\ -9223372036854775808 <= n /\ n <= 9223372036854775807 := by
 obtain ⟨n, rfl, h1, h2⟩ := h
 exact ⟨n, rfl, h1, h2⟩
theorem reach_len {n b : Nat} (h : n * b <= reachBytes) (hb : 0 < b) : n <= reachBytes := Nat.le_trans (Nat.le_mul_of_pos_right n hb) h
end Go.Proofs.YtpgnlmfmlffjcaaGreat.Rf

namespace Go.Proofs.YtpgnlmfmlffjcaaGreat.Rf
set_option linter.unusedVariables false
set_option linter.unusedSimpArgs false
theorem dec_int (ds : List D) (h : WTs [.int .i64] ds) : ∃ x : Int, ds = Enc.enc x /\ True := by
 simp only [WTs] at h
 obtain ⟨d, r, rfl, w, rfl⟩ := h
 obtain ⟨x, rfl, -, -⟩ := WT_int w
 exact ⟨x, rfl, trivial⟩
def ct_TCmd (x : TCmd) : Nat := 1 + 1 + 1 + 1 + 1
theorem ctu_TCmd (x : TCmd) : ct_TCmd x = 5 := by
 unfold ct_TCmd
 try omega
def sz_TAttr (x : TAttr) : Nat := szL (fun _ => 0) x.deps
def wf_TAttr (x : TAttr) : Prop := (x.deps.length <= 140737488351232)
def ct_TAttr (x : TAttr) : Nat := 1 + ctL (fun _ => 1) x.deps
theorem ctu_TAttr (x : TAttr) : ct_TAttr x = 1 + ctL (fun _ => 1) x.deps := by
 unfold ct_TAttr
 try omega
theorem szu_TAttr (x : TAttr) : sz_TAttr x = x.deps.length := by
 unfold sz_TAttr
 simp only [szL_zero]
 try omega
def sz_TRow (x : TRow) : Nat := sz_TAttr x.attr
def wf_TRow (x : TRow) : Prop := (wf_TAttr x.attr)
def ct_TRow (x : TRow) : Nat := 1 + 1 + 1 + ct_TCmd x.cmd + ct_TAttr x.attr
def mk_TRow (x : TRow) (k : Int) : TRow := ⟨(k), (k + 1), (k + 1 + 1), ⟨(k + 1 + 1 + 1), (k + 1 + 1 + 1 + 1), (k + 1 + 1 + 1 + 1 + 1), (k + 1 + 1 + 1 + 1 + 1 + 1), (k + 1 + 1 + 1 + 1 + 1 + 1 + 1)⟩, ⟨(k + 1 + 1 + 1 + 1 + 1 + 1 + 1 + 1), (mkL (fun _ => 1) (fun _ k => k) x.attr.deps (k + 1 + 1 + 1 + 1 + 1 + 1 + 1 + 1 + 1))⟩⟩
theorem ctu_TRow (x : TRow) : ct_TRow x = 9 + ctL (fun _ => 1) x.attr.deps := by
 unfold ct_TRow
 simp only [ctu_TCmd]
 simp only [ctu_TAttr]
 try omega
theorem szu_TRow (x : TRow) : sz_TRow x = x.attr.deps.length := by
 unfold sz_TRow
 simp only [szL_zero, szu_TAttr]
 try omega
theorem ctb_TRow (x : TRow) : ct_TRow x <= 16 + 16 * sz_TRow x := by
 have h0 := ctL_le (c := (fun _ => 1)) (f := (fun _ => 0)) (m := 16) (by omega) (fun _ => by simp) x.attr.deps
 rw [ctu_TRow, szu_TRow]
 try simp only [szL_zero] at *
 omega
theorem dec_TRow (ds : List D) (h : WTs [.int .i64, .int .i64, .int .i64, .int .i64, .int .i64, .int .i64, .int .i64, .int .i64, .int .i64, .sl 8 [.int .i64]] ds) : ∃ x : TRow, ds = Enc.enc x /\ wf_TRow x := by
 simp only [WTs] at h
 obtain ⟨d0, r0, rfl, w0, d1, r1, rfl, w1, d2, r2, rfl, w2, d3, r3, rfl, w3, d4, r4, rfl, w4, d5, r5, rfl, w5, d6, r6, rfl, w6, d7, r7, rfl, w7, d8, r8, rfl, w8, d9, r9, rfl, w9, rfl⟩ := h
 obtain ⟨x0, rfl, -, -⟩ := WT_int w0
 obtain ⟨x1, rfl, -, -⟩ := WT_int w1
 obtain ⟨x2, rfl, -, -⟩ := WT_int w2
 obtain ⟨x3, rfl, -, -⟩ := WT_int w3
 obtain ⟨x4, rfl, -, -⟩ := WT_int w4
 obtain ⟨x5, rfl, -, -⟩ := WT_int w5
 obtain ⟨x6, rfl, -, -⟩ := WT_int w6
 obtain ⟨x7, rfl, -, -⟩ := WT_int w7
 obtain ⟨x8, rfl, -, -⟩ := WT_int w8
 obtain ⟨x9, rfl, l9, p9⟩ := WT_rL (α := Int) (P := fun _ => True) rfl dec_int w9
 exact ⟨⟨x0, x1, x2, ⟨x3, x4, x5, x6, x7⟩, ⟨x8, x9⟩⟩, rfl, reach_len l9 (by decide)⟩
theorem dec_LTRow (ds : List D) (h : WTs [.sl 96 [.int .i64, .int .i64, .int .i64, .int .i64, .int .i64, .int .i64, .int .i64, .int .i64, .int .i64, .sl 8 [.int .i64]]] ds) : ∃ x : (List TRow), ds = Enc.enc x /\ x.length <= 140737488351232 /\ ∀ y0 ∈ x, wf_TRow y0 := by
 simp only [WTs] at h
 obtain ⟨d, r, rfl, w, rfl⟩ := h
 obtain ⟨x, rfl, l, p⟩ := WT_rL (α := TRow) (P := fun y => wf_TRow y) rfl dec_TRow w
 exact ⟨x, rfl, ⟨reach_len l (by decide), p⟩⟩
def sz_TTable (x : TTable) : Nat := szL (szL sz_TRow) x.rows
def wf_TTable (x : TTable) : Prop := (x.rows.length <= 140737488351232 /\ ∀ y0 ∈ x.rows, y0.length <= 140737488351232 /\ ∀ y1 ∈ y0, wf_TRow y1)
theorem szu_TTable (x : TTable) : sz_TTable x = szL (szL sz_TRow) x.rows := by
 unfold sz_TTable
 simp only [szL_zero]
 try omega
theorem dec_TTable (ds : List D) (h : WTs [.int .i64, .sl 24 [.sl 96 [.int .i64, .int .i64, .int .i64, .int .i64, .int .i64, .int .i64, .int .i64, .int .i64, .int .i64, .sl 8 [.int .i64]]]] ds) : ∃ x : TTable, ds = Enc.enc x /\ wf_TTable x := by
 simp only [WTs] at h
 obtain ⟨d0, r0, rfl, w0, d1, r1, rfl, w1, rfl⟩ := h
 obtain ⟨x0, rfl, -, -⟩ := WT_int w0
 obtain ⟨x1, rfl, l1, p1⟩ := WT_rL (α := (List TRow)) (P := fun y => y.length <= 140737488351232 /\ ∀ y0 ∈ y, wf_TRow y0) rfl (dec_LTRow) w1
 exact ⟨⟨x0, x1⟩, rfl, ⟨reach_len l1 (by decide), p1⟩⟩
end Go.Proofs.YtpgnlmfmlffjcaaGreat.Rf

namespace Go.Proofs.YtpgnlmfmlffjcaaGreat.Rf
set_option linter.unusedVariables false
set_option linter.unusedSimpArgs false
theorem SZ : (∀ b : Bool, (b && true) = b) /\ (∀ b : Bool, (true && b) = b) /\ (∀ b : Bool, (b && false) = false) /\ (∀ b : Bool, (false && b) = false) /\
  (∀ b : Bool, (b || true) = true) /\ (∀ b : Bool, (true || b) = true) /\ (∀ b : Bool, (b || false) = b) /\ (∀ b : Bool, (false || b) = b) /\ ((!true) = false) /\ ((!false) = true) :=
 ⟨Bool.and_true, Bool.true_and, Bool.and_false, Bool.false_and, Bool.or_true, Bool.true_or, Bool.or_false, Bool.false_or, rfl, rfl⟩
theorem fork_in {γ : Type} {a r : γ} (h : forkT true a r = r) : a = r := h
theorem S0 : type_of% (And.intro Bool.false_eq_true (And.intro @ite_true.{1} (And.intro @ite_false.{1} (And.intro @SA (And.intro @SB (And.intro @SC (And.intro @SP (And.intro @SQ (And.intro @SZ (And.intro @beq_self_eq_true.{0} (And.intro @decide_true (And.intro @decide_false (And.intro @cast1 @S_eta))))))))))))) := And.intro Bool.false_eq_true (And.intro @ite_true.{1} (And.intro @ite_false.{1} (And.intro @SA (And.intro @SB (And.intro @SC (And.intro @SP (And.intro @SQ (And.intro @SZ (And.intro @beq_self_eq_true.{0} (And.intro @decide_true (And.intro @decide_false (And.intro @cast1 @S_eta))))))))))))
theorem bool_fin {x y : Bool} (h : x = true ↔ y = true) : some [D.bool x] = some [D.bool y] := by rw [Bool.eq_iff_iff.2 h]
def isGrp (n : Int) : Bool := n == 3 || n == 5
theorem isGrp_rng {n : Int} (h : isGrp n = true) : n = 3 \/ n = 5 := by simpa [isGrp] using h
def inst (n rep no : Int) : Bool := inR rep 0 (n - 1) && inR no 1 6
def cmdOk (c : TCmd) : Bool :=
 if c.kind == 0 then decide (c = ⟨0, 0, 0, 0, 0⟩) else if c.kind == 1 then inR c.id 1 999 && inR c.src 0 3 && inR c.dst 0 3 && !(c.src == c.dst) && inR c.amt 1 1000
 else c.kind == 2 && inR c.id 1 999 && inR c.src 0 3 && c.dst == 0 && c.amt == 0
def cmdCode (c : TCmd) : Int :=
 if !inR c.src 0 3 || (c.kind == 1 && !inR c.dst 0 3) then 4 else if c.kind == 1 && c.src == c.dst then 5 else if !inR c.id 1 999 || (c.kind == 1 && !inR c.amt 1 1000) then 6 else 0
def attrOk (n : Int) (a : TAttr) : Bool := inR a.seq 0 999 && (a.deps.length : Int) == n && a.deps.all fun x => inR x 0 6
def none0 (n : Int) : TAttr := ⟨0, List.replicate n.toNat 0⟩
def rowOk (n : Int) (r : TRow) : Bool :=
 inR r.ballot 0 9999 && inR r.vote 0 r.ballot && inR r.state 0 3 && (if r.state == 0 then r.vote == 0 && decide (r.cmd = ⟨0, 0, 0, 0, 0⟩) && decide (r.attr = none0 n) else cmdOk r.cmd && attrOk n r.attr)
theorem none0_ok {n : Int} (h : isGrp n = true) : attrOk n (none0 n) = true := by
 rcases isGrp_rng h with rfl | rfl <;> rfl
theorem cmdZ_ok {c : TCmd} (h : decide (c = ⟨0, 0, 0, 0, 0⟩) = true) : cmdOk c = true := by
 rw [of_decide_eq_true h]; rfl
theorem cmdCode0 {c : TCmd} : (cmdCode c == 0) = (inR c.src 0 3 && inR c.id 1 999 && (!(c.kind == 1) || (inR c.dst 0 3 && !(c.src == c.dst) && inR c.amt 1 1000))) := by
 unfold cmdCode
 cases inR c.src 0 3 <;> cases inR c.id 1 999 <;> cases c.kind == 1 <;> cases inR c.dst 0 3 <;> cases c.src == c.dst <;> cases inR c.amt 1 1000 <;> rfl
def smRows (xs : List TRow) : Prop := xs.length <= 10000000000 /\ ∀ r ∈ xs, r.attr.deps.length <= 10000000000
def smTab (rows : List (List TRow)) : Prop := rows.length <= 10000000000 /\ ∀ l ∈ rows, smRows l
theorem sz_row (r : TRow) : sz_TRow r = r.attr.deps.length := szL_zero
theorem smRows_of {xs : List TRow} (h : szL sz_TRow xs <= 1048576) : smRows xs := by
 refine ⟨Nat.le_trans (szL_len (f := sz_TRow)) (by omega), fun r hr => ?_⟩
 have h1 := szL_mem (f := sz_TRow) hr
 rw [sz_row] at h1
 omega
theorem smTab_of {rows : List (List TRow)} (h : szL (szL sz_TRow) rows <= 1048576) : smTab rows := by
 refine ⟨Nat.le_trans (szL_len (f := szL sz_TRow)) (by omega), fun l hl => smRows_of ?_⟩
 have h1 := szL_mem (f := szL sz_TRow) hl
 omega
def tabOk (t : TTable) : Bool := isGrp t.n && (t.rows.length : Int) == t.n && t.rows.all fun l => l.all (fun r => rowOk t.n r) && decide ((l.length : Int) <= 6)
def row0 (n : Int) : TRow := ⟨0, 0, 0, ⟨0, 0, 0, 0, 0⟩, none0 n⟩
def trow (t : TTable) (rep no : Int) : TRow := if no <= (atI t.rows rep).length then atI (atI t.rows rep) (no - 1) else row0 t.n
theorem S_nil : (rL ([] : List Int) = .rows 1 []) /\ (rL ([] : List (List Int)) = .rows 1 []) /\ (rL ([] : List TRow) = .rows 10 []) /\ (rL ([] : List (List TRow)) = .rows 1 []) /\ (rL ([] : List TLead) = .rows 16 []) /\ (rL ([] : List TMsg) = .rows 15 []) /\
  (rL ([] : List TAsk) = .rows 7 []) /\ (rL ([] : List TTold) = .rows 2 []) := ⟨rfl, rfl, rfl, rfl, rfl, rfl, rfl, rfl⟩
theorem inst_rng {n rep no : Int} (h : inst n rep no = true) : 0 <= rep /\ rep <= n - 1 /\ 1 <= no /\ no <= 6 := by
 simp only [inst, inR, Bool.and_eq_true, decide_eq_true_eq] at h
 omega
theorem tabOk_grp {t : TTable} (h : tabOk t = true) : isGrp t.n = true := by
 simp only [tabOk, Bool.and_eq_true] at h; exact h.1.1
theorem tabOk_len {t : TTable} (h : tabOk t = true) : (t.rows.length : Int) = t.n := by
 simp only [tabOk, Bool.and_eq_true, beq_iff_eq] at h; exact h.1.2
theorem tabOk_in {t : TTable} {rep no : Int} (h : tabOk t = true) (hi : inst t.n rep no = true) : InB t.rows rep := by
 have := tabOk_len h
 have := inst_rng hi
 unfold InB; omega
theorem tabOk_rows {t : TTable} (h : tabOk t = true) {l : List TRow} (hl : l ∈ t.rows) : l.length <= 6 /\ ∀ r ∈ l, rowOk t.n r = true := by
 simp only [tabOk, Bool.and_eq_true, List.all_eq_true, decide_eq_true_eq] at h
 have := h.2 l hl
 exact ⟨by omega, this.1⟩
theorem rowOk_deps {n : Int} {r : TRow} (h : rowOk n r = true) (hg : isGrp n = true) : (r.attr.deps.length : Int) = n := by
 have h2 : attrOk n r.attr = true := by
  simp only [rowOk, Bool.and_eq_true] at h
  have h3 := h.2
  split at h3
  ·simp only [Bool.and_eq_true] at h3
   rw [of_decide_eq_true h3.2]
   exact none0_ok hg
  ·simp only [Bool.and_eq_true] at h3
   exact h3.2
 simp only [attrOk, Bool.and_eq_true, beq_iff_eq] at h2
 exact h2.1.2
theorem at_memI {α : Type} [Inhabited α] {xs : List α} {k : Int} (h : InB xs k) : atI xs k ∈ xs := by
 have h2 := h.lt
 have e : ((k.toNat : Nat) : Int) = k := by unfold InB at h; omega
 rw [<- e]
 exact at_mem h2
theorem trow_ok {t : TTable} {rep no : Int} (h : tabOk t = true) (hi : inst t.n rep no = true) : rowOk t.n (trow t rep no) = true := by
 unfold trow
 have hb := tabOk_in h hi
 have hr := inst_rng hi
 split
 ·exact (tabOk_rows h (at_memI hb)).2 _ (at_memI (by unfold InB; omega))
 ·rcases isGrp_rng (tabOk_grp h) with e | e <;> rw [e] <;> rfl
theorem trow_deps {t : TTable} {rep no : Int} (h : tabOk t = true) (hi : inst t.n rep no = true) : ((trow t rep no).attr.deps.length : Int) = t.n := rowOk_deps (trow_ok h hi) (tabOk_grp h)
def ext (n : Int) (l : List TRow) (no : Int) : List TRow := l ++ List.replicate (no - l.length).toNat (row0 n)
def nb (b me : Int) : Int := if b < 8 + me then 8 + me else b + 1 + (me - b - 1) % 8
theorem inR_rng {x lo hi : Int} (h : inR x lo hi = true) : lo <= x /\ x <= hi := by
 simpa [inR] using h
end Go.Proofs.YtpgnlmfmlffjcaaGreat.Rf

namespace Go.Proofs.YtpgnlmfmlffjcaaGreat.Rf
set_option linter.unusedVariables false
set_option linter.unusedSimpArgs false
end Go.Proofs.YtpgnlmfmlffjcaaGreat.Rf

namespace Go.Proofs.YtpgnlmfmlffjcaaGreat.Rf
set_option linter.unusedVariables false
set_option linter.unusedSimpArgs false
def comRowN (l : List TRow) (k : Int) (m : Nat) : List (List Int) := (List.range m).flatMap fun i : Nat => if (atI l (i : Int)).state == 3 then [[k, (i : Int) + 1]] else []
def comN (rows : List (List TRow)) (m : Nat) : List (List Int) := (List.range m).flatMap fun k : Nat => comRowN (atI rows (k : Int)) k (atI rows (k : Int)).length
def comM (rows : List (List TRow)) : List (List Int) := comN rows rows.length
theorem comRowN_succ (l : List TRow) (k : Int) (m : Nat) : comRowN l k (m + 1) = comRowN l k m ++ if (atI l (m : Int)).state == 3 then [[k, (m : Int) + 1]] else [] := by
 simp [comRowN, List.range_succ, List.flatMap_append]
theorem comN_succ (rows : List (List TRow)) (m : Nat) : comN rows (m + 1) = comN rows m ++ comRowN (atI rows (m : Int)) m (atI rows (m : Int)).length := by
 simp [comN, List.range_succ, List.flatMap_append]
theorem comRowN_len (l : List TRow) (k : Int) : ∀ m, (comRowN l k m).length <= m
 | 0 => by simp [comRowN]
 | m + 1 => by
  have := comRowN_len l k m
  rw [comRowN_succ, List.length_append]
  split <;> simp <;> omega
theorem comN_len {rows : List (List TRow)} (h : ∀ l ∈ rows, l.length <= 6) : ∀ {m}, m <= rows.length -> (comN rows m).length <= 6 * m
 | 0, _ => by simp [comN]
 | m + 1, hm => by
  have h1 := comN_len h (m := m) (by omega)
  have h2 := comRowN_len (atI rows (m : Int)) m (atI rows (m : Int)).length
  have h3 := h _ (at_mem (show m < rows.length by omega))
  rw [comN_succ, List.length_append]
  omega
theorem comM_mem {rows : List (List TRow)} {x : List Int} (h : x ∈ comM rows) : ∃ k i : Nat, k < rows.length /\ i < (atI rows (k : Int)).length /\ x = [(k : Int), (i : Int) + 1] /\ (atI (atI rows (k : Int)) (i : Int)).state = 3 := by
 unfold comM comN comRowN at h
 simp only [List.mem_flatMap, List.mem_range] at h
 obtain ⟨k, hk, i, hi, hx⟩ := h
 split at hx
 ·rename_i hs
  exact ⟨k, i, hk, hi, by simpa using hx, by simpa using hs⟩
 ·cases hx
theorem comM_spec {t : TTable} (ht : tabOk t = true) {x : List Int} (h : x ∈ comM t.rows) : InB x 0 /\ InB x 1 /\ x.length = 2 /\ inst t.n (atI x 0) (atI x 1) = true /\ (trow t (atI x 0) (atI x 1)).state = 3 := by
 obtain ⟨k, i, hk, hi, rfl, hs⟩ := comM_mem h
 have h1 := (tabOk_rows ht (at_mem hk)).1
 have h2 := tabOk_len ht
 refine ⟨by unfold InB; simp, by unfold InB; simp, rfl, ?_, ?_⟩
 ·simp only [atI, inst, inR, Bool.and_eq_true, decide_eq_true_eq]
  simp
  omega
 ·show (trow t (k : Int) ((i : Int) + 1)).state = 3
  unfold trow
  rw [if_pos (by omega), show (i : Int) + 1 - 1 = i by omega]
  exact hs
end Go.Proofs.YtpgnlmfmlffjcaaGreat.Rf

namespace Go.Proofs.YtpgnlmfmlffjcaaGreat.Rf
set_option linter.unusedVariables false
set_option linter.unusedSimpArgs false
end Go.Proofs.YtpgnlmfmlffjcaaGreat.Rf

namespace Go.Proofs.YtpgnlmfmlffjcaaGreat.Rf
set_option linter.unusedVariables false
set_option linter.unusedSimpArgs false
def findM (l : List (List Int)) (x : List Int) : Int := ixF (fun y => decide (x = y)) l
def depRow (k : Int) (rep no : Int) (m : Nat) : List (List Int) := (List.range m).flatMap fun i : Nat => if !(k == rep) || !((i : Int) + 1 == no) then [[k, (i : Int) + 1]] else []
def depN (deps : List Int) (rep no : Int) (m : Nat) : List (List Int) := (List.range m).flatMap fun k : Nat => depRow k rep no (atI deps (k : Int)).toNat
theorem depRow_succ (k rep no : Int) (m : Nat) : depRow k rep no (m + 1) = depRow k rep no m ++ if !(k == rep) || !((m : Int) + 1 == no) then [[k, (m : Int) + 1]] else [] := by
 simp [depRow, List.range_succ, List.flatMap_append]
theorem depN_succ (deps : List Int) (rep no : Int) (m : Nat) : depN deps rep no (m + 1) = depN deps rep no m ++ depRow m rep no (atI deps (m : Int)).toNat := by
 simp [depN, List.range_succ, List.flatMap_append]
def depM (t : TTable) (rep no : Int) : List (List Int) := depN (trow t rep no).attr.deps rep no (trow t rep no).attr.deps.length
theorem depRow_len (k rep no : Int) : ∀ m, (depRow k rep no m).length <= m
 | 0 => by simp [depRow]
 | m + 1 => by
  have := depRow_len k rep no m
  rw [depRow_succ, List.length_append]
  split <;> simp <;> omega
theorem depN_len {deps : List Int} {rep no : Int} (h : ∀ d ∈ deps, d <= 6) : ∀ {m}, m <= deps.length -> (depN deps rep no m).length <= 6 * m
 | 0, _ => by simp [depN]
 | m + 1, hm => by
  have h1 := depN_len (rep := rep) (no := no) h (m := m) (by omega)
  have h2 := depRow_len (m : Int) rep no (atI deps (m : Int)).toNat
  have h3 := h _ (at_mem (show m < deps.length by omega))
  rw [depN_succ, List.length_append]
  omega
theorem rowOk_dep6 {n : Int} {r : TRow} (h : rowOk n r = true) (hg : isGrp n = true) : ∀ d ∈ r.attr.deps, 0 <= d /\ d <= 6 := by
 have h2 : attrOk n r.attr = true := by
  simp only [rowOk, Bool.and_eq_true] at h
  have h3 := h.2
  split at h3
  ·simp only [Bool.and_eq_true] at h3
   rw [of_decide_eq_true h3.2]
   exact none0_ok hg
  ·simp only [Bool.and_eq_true] at h3
   exact h3.2
 simp only [attrOk, Bool.and_eq_true, List.all_eq_true] at h2
 exact fun d hd => inR_rng (h2.2 d hd)
theorem depN_mem {deps : List Int} {rep no : Int} {m : Nat} {y : List Int} : y ∈ depN deps rep no m ↔ ∃ k i : Nat, k < m /\ (i : Int) < atI deps (k : Int) /\ ¬((k : Int) = rep /\ (i : Int) + 1 = no) /\ y = [(k : Int), (i : Int) + 1] := by
 unfold depN depRow
 simp only [List.mem_flatMap, List.mem_range]
 constructor
 ·rintro ⟨k, hk, i, hi, hy⟩
  split at hy
  ·rename_i hc
   refine ⟨k, i, hk, by omega, ?_, by simpa using hy⟩
   simp only [Bool.or_eq_true, Bool.not_eq_true', beq_eq_false_iff_ne, ne_eq] at hc
   omega
  ·cases hy
 ·rintro ⟨k, i, hk, hi, hne, rfl⟩
  refine ⟨k, hk, i, by omega, ?_⟩
  rw [if_pos]
  ·simp
  ·simp only [Bool.or_eq_true, Bool.not_eq_true', beq_eq_false_iff_ne, ne_eq]
   omega
theorem ixF_spec {α : Type} [Inhabited α] {p : α -> Bool} {xs : List α} (h : 0 <= ixF p xs) : InB xs (ixF p xs) /\ p (atI xs (ixF p xs)) = true /\ ∀ k : Nat, (k : Int) < ixF p xs -> p (atI xs (k : Int)) = false := by
 unfold ixF at h ⊢
 cases e : xs.findIdx? p with
 | none => rw [e] at h; simp at h
 | some i =>
  rw [List.findIdx?_eq_some_iff_getElem] at e
  obtain ⟨hi, hp, hmin⟩ := e
  refine ⟨InB_nat.2 hi, by simp only; rw [atI_get hi]; exact hp, fun k hk => ?_⟩
  have hk' : k < i := by simp only at hk; omega
  rw [atI_get (by omega)]
  have := hmin k hk'
  simpa using this
theorem ixF_ge {α : Type} [Inhabited α] {p : α -> Bool} {xs : List α} {k : Nat} (hk : k < xs.length) (hp : p (atI xs (k : Int)) = true) : 0 <= ixF p xs := by
 have h : xs.any p = true := List.any_eq_true.2 ⟨_, at_mem hk, hp⟩
 rw [<- ixF_any] at h
 exact of_decide_eq_true h
theorem comRowN_at {l : List TRow} {k : Int} {m : Nat} {y : List Int} (h : y ∈ comRowN l k m) : ∃ i : Nat, i < m /\ y = [k, (i : Int) + 1] := by
 unfold comRowN at h
 simp only [List.mem_flatMap, List.mem_range] at h
 obtain ⟨i, hi, h⟩ := h
 split at h
 ·exact ⟨i, hi, by simpa using h⟩
 ·cases h
theorem comRowN_nodup (l : List TRow) (k : Int) : ∀ m, (comRowN l k m).Nodup
 | 0 => by simp [comRowN]
 | m + 1 => by
  rw [comRowN_succ, List.nodup_append]
  refine ⟨comRowN_nodup l k m, by split <;> simp, fun a ha b hb => ?_⟩
  obtain ⟨i, hi, rfl⟩ := comRowN_at ha
  split at hb
  ·have : b = [k, (m : Int) + 1] := by simpa using hb
   rw [this]
   simp
   omega
  ·cases hb
theorem comN_nodup (rows : List (List TRow)) : ∀ m, (comN rows m).Nodup
 | 0 => by simp [comN]
 | m + 1 => by
  rw [comN_succ, List.nodup_append]
  refine ⟨comN_nodup rows m, comRowN_nodup .., fun a ha b hb => ?_⟩
  obtain ⟨i, hi, rfl⟩ := comRowN_at hb
  unfold comN at ha
  simp only [List.mem_flatMap, List.mem_range] at ha
  obtain ⟨k, hk, ha⟩ := ha
  obtain ⟨i', hi', rfl⟩ := comRowN_at ha
  simp
  omega
end Go.Proofs.YtpgnlmfmlffjcaaGreat.Rf

namespace Go.Proofs.YtpgnlmfmlffjcaaGreat.Rf
set_option linter.unusedVariables false
set_option linter.unusedSimpArgs false
section
variable {T : Nat -> Ent} {β : Type}
end
end Go.Proofs.YtpgnlmfmlffjcaaGreat.Rf

namespace Go.Proofs.YtpgnlmfmlffjcaaGreat.Rf
set_option linter.unusedVariables false
set_option linter.unusedSimpArgs false
end Go.Proofs.YtpgnlmfmlffjcaaGreat.Rf

namespace Go.Proofs.YtpgnlmfmlffjcaaGreat.Rf
set_option linter.unusedVariables false
set_option linter.unusedSimpArgs false
end Go.Proofs.YtpgnlmfmlffjcaaGreat.Rf

namespace Go.Proofs.YtpgnlmfmlffjcaaGreat.Rf
set_option linter.unusedVariables false
set_option linter.unusedSimpArgs false
theorem loopEx {T : Nat -> Ent} {β γ : Type} {body : Tm β} {ρ : List D} {init : List Atom} (m : γ -> Nat) (inv : γ -> Prop) (vs : γ -> List D) (Q : Kind × List D -> Prop) (c0 : γ) (h0 : init.map (·.val ρ) = vs c0) (hi : inv c0)
  (h : ∀ c, inv c -> (∃ c', Er T body (ρ ++ vs c) = some (.cont, vs c') /\ inv c' /\ m c' < m c) \/ (∃ q, Er T body (ρ ++ vs c) = some q /\ q.1 ≠ .cont /\ Q q)) : ∃ q, Er T (.loop init body) ρ = some q /\ Q q :=
 loopR (T := T) (body := body) (ρ := ρ) m inv vs Q (fun c hc => by
  rcases h c hc with ⟨c', h2, h3, h4⟩ | ⟨q, h2, h3, h4⟩
  ·exact ⟨_, h2, .inl ⟨rfl, c', h3, h4, rfl⟩⟩
  ·exact ⟨_, h2, .inr ⟨h3, h4⟩⟩) (m c0) c0 (Nat.le_refl _) hi init h0
end Go.Proofs.YtpgnlmfmlffjcaaGreat.Rf

namespace Go.Proofs.YtpgnlmfmlffjcaaGreat.Rf
set_option linter.unusedVariables false
set_option linter.unusedSimpArgs false
end Go.Proofs.YtpgnlmfmlffjcaaGreat.Rf

namespace Go.Proofs.YtpgnlmfmlffjcaaGreat.Rf
set_option linter.unusedVariables false
set_option linter.unusedSimpArgs false
end Go.Proofs.YtpgnlmfmlffjcaaGreat.Rf

namespace Go.Proofs.YtpgnlmfmlffjcaaGreat.Rf
set_option linter.unusedVariables false
set_option linter.unusedSimpArgs false
end Go.Proofs.YtpgnlmfmlffjcaaGreat.Rf

namespace Go.Proofs.YtpgnlmfmlffjcaaGreat.Rf
set_option linter.unusedVariables false
set_option linter.unusedSimpArgs false
def u8 (c : UInt8) : D := .int .u8 (c.toNat : Nat)
end Go.Proofs.YtpgnlmfmlffjcaaGreat.Rf

namespace Go.Proofs.YtpgnlmfmlffjcaaGreat.Rf
set_option linter.unusedVariables false
set_option linter.unusedSimpArgs false
end Go.Proofs.YtpgnlmfmlffjcaaGreat.Rf

namespace Go.Proofs.YtpgnlmfmlffjcaaGreat.Rf
set_option linter.unusedVariables false
set_option linter.unusedSimpArgs false
end Go.Proofs.YtpgnlmfmlffjcaaGreat.Rf

namespace Go.Proofs.YtpgnlmfmlffjcaaGreat.Rf
set_option linter.unusedVariables false
set_option linter.unusedSimpArgs false
end Go.Proofs.YtpgnlmfmlffjcaaGreat.Rf

namespace Go.Proofs.YtpgnlmfmlffjcaaGreat.Rf
set_option linter.unusedVariables false
set_option linter.unusedSimpArgs false
end Go.Proofs.YtpgnlmfmlffjcaaGreat.Rf

namespace Go.Proofs.YtpgnlmfmlffjcaaGreat.Rf
set_option linter.unusedVariables false
set_option linter.unusedSimpArgs false
end Go.Proofs.YtpgnlmfmlffjcaaGreat.Rf

namespace Go.Proofs.YtpgnlmfmlffjcaaGreat.Rf
set_option linter.unusedVariables false
set_option linter.unusedSimpArgs false
end Go.Proofs.YtpgnlmfmlffjcaaGreat.Rf

namespace Go.Proofs.YtpgnlmfmlffjcaaGreat.Rf
set_option linter.unusedVariables false
set_option linter.unusedSimpArgs false
end Go.Proofs.YtpgnlmfmlffjcaaGreat.Rf

namespace Go.Proofs.YtpgnlmfmlffjcaaGreat.Rf
set_option linter.unusedVariables false
set_option linter.unusedSimpArgs false
end Go.Proofs.YtpgnlmfmlffjcaaGreat.Rf

namespace Go.Proofs.YtpgnlmfmlffjcaaGreat.Rf
set_option linter.unusedVariables false
set_option linter.unusedSimpArgs false
def prL (y : List Int) : Int × Int := (atI y 0, atI y 1)
def toL (p : Int × Int) : List Int := [p.1, p.2]
theorem toL_prL {y : List Int} (h : y.length = 2) : toL (prL y) = y := by
 match y, h with
 | [a, b], _ => rfl
theorem prL_toL (p : Int × Int) : prL (toL p) = p := rfl
def ltL (y z : List Int) : Prop := ltQ (prL y) (prL z) = true
theorem ltL_iff {y z : List Int} : ltL y z ↔ atI y 0 < atI z 0 \/ (atI y 0 = atI z 0 /\ atI y 1 < atI z 1) := ltQ_iff
def SortL (l : List (List Int)) : Prop := l.Pairwise ltL
theorem sortL_ext : ∀ {xs ys : List (List Int)}, SortL xs -> SortL ys -> (∀ x, x ∈ xs ↔ x ∈ ys) -> xs = ys
 | [], [], _, _, _ => rfl
 | [], y :: ys, _, _, h => by have := (h y).2 List.mem_cons_self; cases this
 | x :: xs, [], _, _, h => by have := (h x).1 List.mem_cons_self; cases this
 | x :: xs, y :: ys, hx, hy, h => by
  unfold SortL at hx hy
  rw [List.pairwise_cons] at hx hy
  have e : x = y := by
   rcases List.mem_cons.1 ((h x).1 List.mem_cons_self) with h1 | h1
   ·exact h1
   ·rcases List.mem_cons.1 ((h y).2 List.mem_cons_self) with h2 | h2
    ·exact h2.symm
    ·have h3 := ltL_iff.1 (hx.1 y h2)
     have h4 := ltL_iff.1 (hy.1 x h1)
     omega
  subst e
  congr 1
  refine sortL_ext hx.2 hy.2 fun z => ?_
  constructor
  ·intro hz
   rcases List.mem_cons.1 ((h z).1 (List.mem_cons_of_mem _ hz)) with h1 | h1
   ·subst h1
    have := ltL_iff.1 (hx.1 z hz)
    omega
   ·exact h1
  ·intro hz
   rcases List.mem_cons.1 ((h z).2 (List.mem_cons_of_mem _ hz)) with h1 | h1
   ·subst h1
    have := ltL_iff.1 (hy.1 z hz)
    omega
   ·exact h1
theorem sortQ_sortL {l : List (List Int)} (h2 : ∀ y ∈ l, y.length = 2) (hn : l.Nodup) : SortL ((sortQ id (l.map prL)).map toL) /\ ∀ y, y ∈ (sortQ id (l.map prL)).map toL ↔ y ∈ l := by
 have hp := sortQ_perm id (l.map prL)
 have hs := sortQ_sorted id (l.map prL)
 have hnd : (l.map prL).Nodup := by
  unfold List.Nodup
  rw [List.pairwise_map]
  refine List.Pairwise.imp_of_mem (fun {a b} ha hb hab e => hab ?_) hn
  rw [<- toL_prL (h2 a ha), <- toL_prL (h2 b hb), e]
 have hnd2 : (sortQ id (l.map prL)).Nodup := hp.nodup_iff.2 hnd
 constructor
 ·unfold SortL
  rw [List.pairwise_map]
  have h3 := List.pairwise_and_iff.2 ⟨hs, hnd2⟩
  refine h3.imp fun {a b} hab => ?_
  unfold ltL
  rw [prL_toL, prL_toL]
  have h4 : ltQ b a = false := hab.1
  cases h5 : ltQ a b with
  | true => rfl
  | false => exact absurd (ltQ_anti h5 h4) hab.2
 ·intro y
  rw [List.mem_map]
  constructor
  ·rintro ⟨p, hp1, rfl⟩
   obtain ⟨z, hz, rfl⟩ := List.mem_map.1 (hp.mem_iff.1 hp1)
   rw [toL_prL (h2 z hz)]
   exact hz
  ·intro hy
   exact ⟨prL y, hp.mem_iff.2 (List.mem_map.2 ⟨y, hy, rfl⟩), toL_prL (h2 y hy)⟩
theorem rL_pairs (l : List (Int × Int)) : rL (l.map toL) = .rows 1 (l.map fun p => [pairD p]) := by
 simp only [rL, List.map_map]
 rfl
theorem S_sortP {l : List (List Int)} (h2 : ∀ y ∈ l, y.length = 2) (hl : l.length <= 1000000) : sortPE [rL l] = some [rL ((sortQ id (l.map prL)).map toL)] := by
 have e : l = (l.map prL).map toL := by
  rw [List.map_map]
  conv => lhs; rw [<- List.map_id l]
  exact List.map_congr_left fun y hy => (toL_prL (h2 y hy)).symm
 have e1 : rL l = .rows 1 ((l.map prL).map fun p => [pairD p]) := by rw [<- rL_pairs, <- e]
 rw [e1, rL_pairs]
 simp only [sortPE, pairsD_map, Option.bind_some]
 rw [if_pos (by rw [List.length_map]; exact hl)]
def IsInst (n : Int) (y : List Int) : Prop := y.length = 2 /\ inst n (atI y 0) (atI y 1) = true
def allInst (n : Nat) : List (List Int) := (List.range n).flatMap fun k : Nat => (List.range 6).map fun i : Nat => [(k : Int), (i : Int) + 1]
theorem allInst_mem {n : Nat} {y : List Int} : y ∈ allInst n ↔ IsInst n y := by
 unfold allInst IsInst
 simp only [List.mem_flatMap, List.mem_range, List.mem_map]
 constructor
 ·rintro ⟨k, hk, i, hi, rfl⟩
  refine ⟨rfl, ?_⟩
  simp only [atI, inst, inR, Bool.and_eq_true, decide_eq_true_eq]
  simp
  omega
 ·rintro ⟨h1, h2⟩
  match y, h1 with
  | [a, b], _ =>
   have h3 := inst_rng h2
   simp only [atI] at h3
   simp at h3
   refine ⟨a.toNat, by omega, (b - 1).toNat, by omega, ?_⟩
   rw [show ((a.toNat : Nat) : Int) = a by omega, show (((b - 1).toNat : Nat) : Int) = b - 1 by omega, show b - 1 + 1 = b by omega]
theorem allInst_len (n : Nat) : (allInst n).length = 6 * n := by
 unfold allInst
 rw [List.length_flatMap]
 simp [List.map_const']
 omega
theorem allInst_sort (n : Nat) : SortL (allInst n) := by
 unfold SortL allInst
 rw [List.pairwise_flatMap]
 refine ⟨fun k hk => ?_, ?_⟩
 ·rw [List.pairwise_map]
  refine List.pairwise_lt_range.imp fun {a b} hab => ?_
  rw [ltL_iff]
  simp [atI]
  omega
 ·refine List.pairwise_lt_range.imp fun {a b} hab => ?_
  intro x hx y hy
  obtain ⟨i, hi, rfl⟩ := List.mem_map.1 hx
  obtain ⟨j, hj, rfl⟩ := List.mem_map.1 hy
  rw [ltL_iff]
  simp [atI]
  omega
theorem nodup_len {α : Type} [DecidableEq α] : ∀ {l m : List α}, l.Nodup -> (∀ x ∈ l, x ∈ m) -> l.length <= m.length
 | [], _, _, _ => Nat.zero_le _
 | x :: l, m, hn, hs => by
  rw [List.nodup_cons] at hn
  have hx := hs x List.mem_cons_self
  have := nodup_len (l := l) (m := m.erase x) hn.2 fun y hy => by
   have hne : y ≠ x := fun e => hn.1 (by rw [<- e]; exact hy)
   exact (List.mem_erase_of_ne hne).2 (hs y (List.mem_cons_of_mem _ hy))
  have h1 := List.length_erase_of_mem hx
  have h2 := List.length_pos_of_mem hx
  simp only [List.length_cons]
  omega
theorem inst_len {n : Int} {l : List (List Int)} (hg : isGrp n = true) (hn : l.Nodup) (h : ∀ y ∈ l, IsInst n y) : l.length <= 30 := by
 have h1 := isGrp_rng hg
 have e : ((n.toNat : Nat) : Int) = n := by omega
 have := nodup_len hn (m := allInst n.toNat) fun y hy => allInst_mem.2 (by rw [e]; exact h y hy)
 rw [allInst_len] at this
 omega
def hungRow (k : Int) (m : Nat) : List (List Int) := (List.range m).map fun i : Nat => [k, (i : Int) + 1]
def hungN (deps : List Int) (m : Nat) : List (List Int) := (List.range m).flatMap fun k : Nat => hungRow k (atI deps (k : Int)).toNat
theorem hungRow_succ (k : Int) (m : Nat) : hungRow k (m + 1) = hungRow k m ++ [[k, (m : Int) + 1]] := by simp [hungRow, List.range_succ]
theorem hungN_succ (deps : List Int) (m : Nat) : hungN deps (m + 1) = hungN deps m ++ hungRow m (atI deps (m : Int)).toNat := by simp [hungN, List.range_succ, List.flatMap_append]
def hungM (t : TTable) (x : List Int) : List (List Int) := hungN (trow t (atI x 0) (atI x 1)).attr.deps (trow t (atI x 0) (atI x 1)).attr.deps.length
theorem hungRow_len (k : Int) (m : Nat) : (hungRow k m).length = m := by simp [hungRow]
theorem hungN_len {deps : List Int} (h : ∀ d ∈ deps, d <= 6) : ∀ {m}, m <= deps.length -> (hungN deps m).length <= 6 * m
 | 0, _ => by simp [hungN]
 | m + 1, hm => by
  have h1 := hungN_len h (m := m) (by omega)
  have h3 := h _ (at_mem (show m < deps.length by omega))
  rw [hungN_succ, List.length_append, hungRow_len]
  omega
theorem hungN_mem {deps : List Int} {m : Nat} {y : List Int} : y ∈ hungN deps m ↔ ∃ k i : Nat, k < m /\ (i : Int) < atI deps (k : Int) /\ y = [(k : Int), (i : Int) + 1] := by
 unfold hungN hungRow
 simp only [List.mem_flatMap, List.mem_range, List.mem_map]
 constructor
 ·rintro ⟨k, hk, i, hi, rfl⟩
  exact ⟨k, i, hk, by omega, rfl⟩
 ·rintro ⟨k, i, hk, hi, rfl⟩
  exact ⟨k, hk, i, by omega, rfl⟩
theorem hungM_inst {t : TTable} (ht : tabOk t = true) {x y : List Int} (hx : IsInst t.n x) (hy : y ∈ hungM t x) : IsInst t.n y := by
 unfold hungM at hy
 obtain ⟨k, i, hk, hi, rfl⟩ := hungN_mem.1 hy
 have h1 := trow_deps ht hx.2
 have h2 := rowOk_dep6 (trow_ok ht hx.2) (tabOk_grp ht) _ (at_mem hk)
 refine ⟨rfl, ?_⟩
 simp only [atI, inst, inR, Bool.and_eq_true, decide_eq_true_eq] at h2 ⊢
 simp only [atI] at hi
 simp
 omega
theorem hungM_len {t : TTable} (ht : tabOk t = true) {x : List Int} (hx : IsInst t.n x) : (hungM t x).length <= 30 := by
 have h1 := trow_deps ht hx.2
 have h2 := rowOk_dep6 (trow_ok ht hx.2) (tabOk_grp ht)
 have h3 := isGrp_rng (tabOk_grp ht)
 have := hungN_len (fun d hd => (h2 d hd).2) (Nat.le_refl (trow t (atI x 0) (atI x 1)).attr.deps.length)
 unfold hungM
 omega
theorem depM_hung {t : TTable} {x y : List Int} (hx : x.length = 2) : y ∈ depM t (atI x 0) (atI x 1) ↔ y ∈ hungM t x /\ y ≠ x := by
 unfold depM hungM
 rw [depN_mem, hungN_mem]
 match x, hx with
 | [a, b], _ =>
  constructor
  ·rintro ⟨k, i, h1, h2, h3, rfl⟩
   refine ⟨⟨k, i, h1, h2, rfl⟩, fun e => h3 ?_⟩
   simp only [List.cons.injEq, and_true] at e
   exact e
  ·rintro ⟨⟨k, i, h1, h2, rfl⟩, hne⟩
   refine ⟨k, i, h1, h2, fun e => hne ?_, rfl⟩
   have e1 : (k : Int) = a := e.1
   have e2 : (i : Int) + 1 = b := e.2
   rw [e1, e2]
def comL (t : TTable) (y : List Int) : Bool := (trow t (atI y 0) (atI y 1)).state == 3
inductive Hits (t : TTable) (x : List Int) : List Int -> Prop
 | base : Hits t x x
 | step {z y : List Int} (h : Hits t x z) (hc : comL t z = true) (hy : y ∈ hungM t z) : Hits t x y
theorem Hits.inst {t : TTable} (ht : tabOk t = true) {x y : List Int} (hx : IsInst t.n x) (h : Hits t x y) : IsInst t.n y := by
 induction h with
 | base => exact hx
 | step _ _ hy ih => exact hungM_inst ht ih hy
open Classical in
noncomputable def blockM (t : TTable) (x : List Int) : List (List Int) := (allInst t.n.toNat).filter fun y => decide (Hits t x y /\ comL t y = false)
theorem blockM_sort (t : TTable) (x : List Int) : SortL (blockM t x) := by
 unfold blockM
 exact (allInst_sort _).filter _
open Classical in
theorem blockM_mem {t : TTable} (ht : tabOk t = true) {x y : List Int} (hx : IsInst t.n x) : y ∈ blockM t x ↔ Hits t x y /\ comL t y = false := by
 have h1 := isGrp_rng (tabOk_grp ht)
 have e : ((t.n.toNat : Nat) : Int) = t.n := by omega
 unfold blockM
 rw [List.mem_filter, decide_eq_true_eq, allInst_mem, e]
 exact ⟨fun h => h.2, fun h => ⟨h.1.inst ht hx, h⟩⟩
theorem sortL_nodup {l : List (List Int)} (h : SortL l) : l.Nodup := by
 unfold SortL at h
 refine h.imp fun {a b} hab e => ?_
 subst e
 have := ltL_iff.1 hab
 omega
structure BSt where
 met : List (List Int)
 out : List (List Int)
 wait : List (List Int)
def blkI (t : TTable) (s : BSt) (y : List Int) : BSt := if s.met.any (fun z => decide (y = z)) then s else if comL t y then ⟨s.met ++ [y], s.out, s.wait ++ [y]⟩ else ⟨s.met ++ [y], s.out ++ [y], s.wait⟩
def blkO (t : TTable) (s : BSt) : BSt := let r := (hungM t (atI s.wait 0)).foldl (blkI t) s; ⟨r.met, r.out, r.wait.drop 1⟩
structure BPre (t : TTable) (x : List Int) (s : BSt) : Prop where
 base : x ∈ s.met
 nd : s.met.Nodup
 rch : ∀ y ∈ s.met, Hits t x y
 out : ∀ y, y ∈ s.out ↔ y ∈ s.met /\ comL t y = false
 ond : s.out.Nodup
 wm : ∀ y ∈ s.wait, y ∈ s.met /\ comL t y = true
structure BInv (t : TTable) (x : List Int) (s : BSt) : Prop extends BPre t x s where
 cl : ∀ z ∈ s.met, comL t z = true -> z ∈ s.wait \/ ∀ y ∈ hungM t z, y ∈ s.met
theorem any_mem {l : List (List Int)} {y : List Int} : (l.any fun z => decide (y = z)) = true ↔ y ∈ l := by
 rw [List.any_eq_true]
 constructor
 ·rintro ⟨z, h1, h2⟩
  rw [of_decide_eq_true h2]; exact h1
 ·exact fun h => ⟨y, h, by simp⟩
theorem any_nmem {l : List (List Int)} {y : List Int} (h : y ∉ l) : (l.any fun z => decide (y = z)) = false := by
 cases e : l.any fun z => decide (y = z) with
 | false => rfl
 | true => exact absurd (any_mem.1 e) h
theorem nodup_snoc {l : List (List Int)} {y : List Int} (h : l.Nodup) (hy : y ∉ l) : (l ++ [y]).Nodup := by
 rw [List.nodup_append]
 refine ⟨h, by simp, fun a ha b hb e => ?_⟩
 rw [List.mem_singleton.1 hb] at e
 exact hy (e ▸ ha)
theorem blkI_spec {t : TTable} {x : List Int} {s : BSt} (h : BPre t x s) {y : List Int} (hy : Hits t x y) :
  BPre t x (blkI t s y) /\ y ∈ (blkI t s y).met /\ (∀ z ∈ s.met, z ∈ (blkI t s y).met) /\ (∃ w, (blkI t s y).wait = s.wait ++ w) /\ (∀ z ∈ (blkI t s y).met, comL t z = true -> z ∈ (blkI t s y).wait \/ z ∈ s.met) /\
   (blkI t s y).wait.length + s.met.length <= s.wait.length + (blkI t s y).met.length := by
 unfold blkI
 by_cases hm : y ∈ s.met
 ·rw [any_mem.2 hm, if_pos rfl]
  exact ⟨h, hm, fun z hz => hz, ⟨[], by simp⟩, fun z hz _ => .inr hz, Nat.le_refl _⟩
 ·rw [any_nmem hm]
  simp only [Bool.false_eq_true, if_false]
  have hmem : ∀ z, z ∈ s.met ++ [y] ↔ z ∈ s.met \/ z = y := fun z => by simp
  cases hc : comL t y with
  | true =>
   simp only [if_true]
   refine ⟨⟨List.mem_append_left _ h.base, nodup_snoc h.nd hm, fun z hz => ?_, fun z => ?_, h.ond, fun z hz => ?_⟩, by simp, fun z hz => List.mem_append_left _ hz, ⟨[y], rfl⟩, fun z hz _ => ?_, by simp <;> omega⟩
   ·rcases (hmem z).1 hz with hz | rfl
    ·exact h.rch z hz
    ·exact hy
   ·rw [h.out, hmem]
    constructor
    ·exact fun ⟨h1, h2⟩ => ⟨.inl h1, h2⟩
    ·rintro ⟨h1 | rfl, h2⟩
     ·exact ⟨h1, h2⟩
     ·rw [hc] at h2; cases h2
   ·rcases List.mem_append.1 hz with hz | hz
    ·exact ⟨List.mem_append_left _ (h.wm z hz).1, (h.wm z hz).2⟩
    ·rw [List.mem_singleton.1 hz]
     exact ⟨by simp, hc⟩
   ·rcases (hmem z).1 hz with hz | rfl
    ·exact .inr hz
    ·exact .inl (by simp)
  | false =>
   simp only [Bool.false_eq_true, if_false]
   refine ⟨⟨List.mem_append_left _ h.base, nodup_snoc h.nd hm, fun z hz => ?_, fun z => ?_, nodup_snoc h.ond (fun hz => hm ((h.out y).1 hz).1), fun z hz => ?_⟩, by simp, fun z hz => List.mem_append_left _ hz, ⟨[], by simp⟩, fun z hz hcz => ?_, by simp <;> omega⟩
   ·rcases (hmem z).1 hz with hz | rfl
    ·exact h.rch z hz
    ·exact hy
   ·rw [List.mem_append, h.out, hmem, List.mem_singleton]
    constructor
    ·rintro (⟨h1, h2⟩ | rfl)
     ·exact ⟨.inl h1, h2⟩
     ·exact ⟨.inr rfl, hc⟩
    ·rintro ⟨h1 | rfl, h2⟩
     ·exact .inl ⟨h1, h2⟩
     ·exact .inr rfl
   ·exact ⟨List.mem_append_left _ (h.wm z hz).1, (h.wm z hz).2⟩
   ·rcases (hmem z).1 hz with hz | rfl
    ·exact .inr hz
    ·rw [hc] at hcz; cases hcz
theorem blkF_spec {t : TTable} {x : List Int} : ∀ {ys : List (List Int)} {s : BSt}, BPre t x s -> (∀ y ∈ ys, Hits t x y) ->
  BPre t x (ys.foldl (blkI t) s) /\ (∀ y ∈ ys, y ∈ (ys.foldl (blkI t) s).met) /\ (∀ z ∈ s.met, z ∈ (ys.foldl (blkI t) s).met) /\ (∃ w, (ys.foldl (blkI t) s).wait = s.wait ++ w) /\ (∀ z ∈ (ys.foldl (blkI t) s).met, comL t z = true -> z ∈ (ys.foldl (blkI t) s).wait \/ z ∈ s.met) /\
   (ys.foldl (blkI t) s).wait.length + s.met.length <= s.wait.length + (ys.foldl (blkI t) s).met.length
 | [], s, h, _ => ⟨h, by simp, fun z hz => hz, ⟨[], by simp⟩, fun z hz _ => .inr hz, Nat.le_refl _⟩
 | y :: ys, s, h, hr => by
  obtain ⟨h1, h2, h3, ⟨w, h4⟩, h5, h6⟩ := blkI_spec h (hr y List.mem_cons_self)
  obtain ⟨k1, k2, k3, ⟨w', k4⟩, k5, k6⟩ := blkF_spec (ys := ys) h1 fun z hz => hr z (List.mem_cons_of_mem _ hz)
  rw [List.foldl_cons]
  refine ⟨k1, fun z hz => ?_, fun z hz => k3 z (h3 z hz), ⟨w ++ w', by rw [k4, h4, List.append_assoc]⟩, fun z hz hc => ?_, by omega⟩
  ·rcases List.mem_cons.1 hz with rfl | hz
   ·exact k3 _ h2
   ·exact k2 z hz
  ·rcases k5 z hz hc with h7 | h7
   ·exact .inl h7
   ·rcases h5 z h7 hc with h8 | h8
    ·exact .inl (by rw [k4]; exact List.mem_append_left _ h8)
    ·exact .inr h8
theorem BInv.step {t : TTable} {x : List Int} {s : BSt} (h : BInv t x s) (hw : s.wait ≠ []) : BInv t x (blkO t s) /\ (blkO t s).wait.length + s.met.length < s.wait.length + (blkO t s).met.length := by
 obtain ⟨z, w, e⟩ : ∃ z w, s.wait = z :: w := by
  cases hs : s.wait with
  | nil => exact absurd hs hw
  | cons z w => exact ⟨z, w, rfl⟩
 have hz0 : atI s.wait 0 = z := by rw [e]; rfl
 obtain ⟨hzm, hzc⟩ := h.wm z (by rw [e]; exact List.mem_cons_self)
 have hr : ∀ y ∈ hungM t z, Hits t x y := fun y hy => .step (h.rch z hzm) hzc hy
 obtain ⟨k1, k2, k3, ⟨w', k4⟩, k5, k6⟩ := blkF_spec (ys := hungM t z) h.toBPre hr
 have k4' : ((hungM t z).foldl (blkI t) s).wait.drop 1 = w ++ w' := by rw [k4, e]; rfl
 unfold blkO
 rw [hz0]
 dsimp only
 refine ⟨⟨⟨k1.base, k1.nd, k1.rch, k1.out, k1.ond, fun y hy => k1.wm y (List.mem_of_mem_drop hy)⟩, fun y hy hc => ?_⟩, ?_⟩
 ·dsimp only at hy ⊢
  by_cases hyz : y = z
  ·subst hyz
   exact .inr k2
  ·rw [k4']
   rcases k5 y hy hc with h1 | h1
   ·rw [k4, e] at h1
    rcases List.mem_append.1 h1 with h1 | h1
    ·rcases List.mem_cons.1 h1 with h1 | h1
     ·exact absurd h1 hyz
     ·exact .inl (List.mem_append_left _ h1)
    ·exact .inl (List.mem_append_right _ h1)
   ·rcases h.cl y h1 hc with h2 | h2
    ·rw [e] at h2
     rcases List.mem_cons.1 h2 with h2 | h2
     ·exact absurd h2 hyz
     ·exact .inl (List.mem_append_left _ h2)
    ·exact .inr fun u hu => k3 u (h2 u hu)
 ·have : 0 < ((hungM t z).foldl (blkI t) s).wait.length := by rw [k4, e]; simp <;> omega
  rw [List.length_drop]
  omega
theorem BInv.start {t : TTable} {x : List Int} (hc : comL t x = true) : BInv t x ⟨[x], [], [x]⟩ := by
 refine ⟨⟨by simp, by simp, fun y hy => ?_, fun y => ?_, by simp, fun y hy => ?_⟩, fun z hz _ => .inl hz⟩
 ·rw [List.mem_singleton.1 hy]; exact .base
 ·constructor
  ·intro hy; cases hy
  ·rintro ⟨h1, h2⟩
   rw [List.mem_singleton.1 h1, hc] at h2
   cases h2
 ·rw [List.mem_singleton.1 hy]
  exact ⟨by simp, hc⟩
theorem BInv.done {t : TTable} (ht : tabOk t = true) {x : List Int} (hx : IsInst t.n x) {s : BSt} (h : BInv t x s) (hw : s.wait = []) : (sortQ id (s.out.map prL)).map toL = blockM t x := by
 have hall : ∀ y, Hits t x y -> y ∈ s.met := by
  intro y hy
  induction hy with
  | base => exact h.base
  | step _ hc hy ih =>
   rcases h.cl _ ih hc with h1 | h1
   ·rw [hw] at h1; cases h1
   ·exact h1 _ hy
 obtain ⟨h1, h2⟩ := sortQ_sortL (l := s.out) (fun y hy => ((h.rch y ((h.out y).1 hy).1).inst ht hx).1) h.ond
 refine sortL_ext h1 (blockM_sort t x) fun y => ?_
 rw [h2, h.out, blockM_mem ht hx]
 exact ⟨fun ⟨h3, h4⟩ => ⟨h.rch y h3, h4⟩, fun ⟨h3, h4⟩ => ⟨hall y h3, h4⟩⟩
theorem BPre.len {t : TTable} (ht : tabOk t = true) {x : List Int} (hx : IsInst t.n x) {s : BSt} (h : BPre t x s) : s.met.length <= 30 /\ s.out.length <= 30 := by
 have h1 := inst_len (tabOk_grp ht) h.nd fun y hy => (h.rch y hy).inst ht hx
 have h2 := inst_len (tabOk_grp ht) h.ond fun y hy => (h.rch y ((h.out y).1 hy).1).inst ht hx
 exact ⟨h1, h2⟩
def gtL (y x : List Int) : Bool := decide (atI x 0 < atI y 0) || ((atI y 0 == atI x 0) && decide (atI x 1 < atI y 1))
def insK (l : List (List Int)) (x : List Int) : Nat -> Nat
 | 0 => 0
 | k + 1 => if gtL (atI l (k : Int)) x then insK l x k else k + 1
def insL (l : List (List Int)) (x : List Int) : List (List Int) := l.take (insK l x l.length) ++ [x] ++ l.drop (insK l x l.length)
theorem insK_le (l : List (List Int)) (x : List Int) : ∀ m, insK l x m <= m
 | 0 => Nat.le_refl _
 | m + 1 => by
  unfold insK
  split
  ·exact Nat.le_succ_of_le (insK_le l x m)
  ·exact Nat.le_refl _
theorem insK_hi {l : List (List Int)} {x : List Int} : ∀ {m j : Nat}, insK l x m <= j -> j < m -> gtL (atI l (j : Int)) x = true
 | 0, j, _, h => by omega
 | m + 1, j, h, hj => by
  unfold insK at h
  split at h
  ·rename_i hg
   rcases Nat.lt_or_ge j m with h1 | h1
   ·exact insK_hi h h1
   ·obtain rfl : j = m := by omega
    exact hg
  ·omega
theorem insK_lo {l : List (List Int)} {x : List Int} : ∀ {m : Nat}, 0 < insK l x m -> gtL (atI l ((insK l x m - 1 : Nat) : Int)) x = false
 | 0, h => by simp [insK] at h
 | m + 1, h => by
  unfold insK at h ⊢
  split
  ·rename_i hg
   rw [if_pos hg] at h
   exact insK_lo h
  ·rename_i hg
   simpa using hg
theorem gtL_iff {y x : List Int} : gtL y x = true ↔ ltL x y := by
 rw [ltL_iff]
 unfold gtL
 simp only [Bool.or_eq_true, Bool.and_eq_true, decide_eq_true_eq, beq_iff_eq]
 omega
theorem insL_mem {l : List (List Int)} {x y : List Int} : y ∈ insL l x ↔ y ∈ l \/ y = x := by
 unfold insL
 have e : ∀ k, y ∈ l.take k ++ [x] ++ l.drop k ↔ y ∈ l \/ y = x := by
  intro k
  have h := List.take_append_drop k l
  rw [List.append_assoc, List.mem_append, List.mem_append, List.mem_singleton]
  constructor
  ·rintro (h1 | h1 | h1)
   ·exact .inl (List.mem_of_mem_take h1)
   ·exact .inr h1
   ·exact .inl (List.mem_of_mem_drop h1)
  ·rintro (h1 | h1)
   ·rw [<- h] at h1
    rcases List.mem_append.1 h1 with h1 | h1
    ·exact .inl h1
    ·exact .inr (.inr h1)
   ·exact .inr (.inl h1)
 exact e _
theorem insL_sort {l : List (List Int)} {x : List Int} (h : SortL l) (h2 : ∀ y ∈ l, y.length = 2) (hx2 : x.length = 2) (hx : x ∉ l) : SortL (insL l x) := by
 have hk := insK_le l x l.length
 have hsp := List.take_append_drop (insK l x l.length) l
 have hlo : ∀ y ∈ l.take (insK l x l.length), ltL y x := by
  intro y hy
  obtain ⟨j, hj⟩ := List.mem_iff_getElem?.1 hy
  have hjl : j < insK l x l.length := by
   have := (List.getElem?_eq_some_iff.1 hj).1
   rw [List.length_take] at this
   omega
  rw [List.getElem?_take, if_pos hjl] at hj
  have hlast := insK_lo (l := l) (x := x) (m := l.length) (by omega)
  have hll : insK l x l.length - 1 < l.length := by omega
  rw [atI_get hll] at hlast
  have hnl : ¬ ltL x l[insK l x l.length - 1] := fun e => by rw [<- gtL_iff, hlast] at e; cases e
  have hne : l[insK l x l.length - 1] ≠ x := fun e => hx (e ▸ List.getElem_mem hll)
  have hlt2 : ltL l[insK l x l.length - 1] x := by
   rw [ltL_iff] at hnl ⊢
   have hl2 := h2 _ (List.getElem_mem hll)
   generalize l[insK l x l.length - 1] = z at hnl hne hl2 ⊢
   have hz : ¬ (atI z 0 = atI x 0 /\ atI z 1 = atI x 1) := by
    rintro ⟨e1, e2⟩
    match z, x, hl2, hx2 with
    | [a, b], [c, d], _, _ =>
     have e1' : a = c := e1
     have e2' : b = d := e2
     exact hne (by rw [e1', e2'])
   omega
  rcases Nat.lt_or_ge j (insK l x l.length - 1) with h1 | h1
  ·unfold SortL at h
   rw [List.pairwise_iff_getElem] at h
   have hjl2 : j < l.length := by omega
   have h3 := h j (insK l x l.length - 1) hjl2 hll h1
   rw [(List.getElem?_eq_some_iff.1 hj).2] at h3
   rw [ltL_iff] at h3 hlt2 ⊢
   omega
  ·have e : j = insK l x l.length - 1 := by omega
   subst e
   rw [(List.getElem?_eq_some_iff.1 hj).2] at hlt2
   exact hlt2
 have hhi : ∀ y ∈ l.drop (insK l x l.length), ltL x y := by
  intro y hy
  obtain ⟨j, hj⟩ := List.mem_iff_getElem?.1 hy
  rw [List.getElem?_drop] at hj
  have hjl := (List.getElem?_eq_some_iff.1 hj).1
  have := insK_hi (l := l) (x := x) (m := l.length) (j := insK l x l.length + j) (by omega) hjl
  rw [atI_get hjl, (List.getElem?_eq_some_iff.1 hj).2] at this
  exact gtL_iff.1 this
 unfold insL SortL
 unfold SortL at h
 rw [<- hsp, List.pairwise_append] at h
 rw [List.append_assoc, List.pairwise_append]
 refine ⟨h.1, ?_, fun a ha b hb => ?_⟩
 ·rw [List.singleton_append, List.pairwise_cons]
  exact ⟨hhi, h.2.1⟩
 ·rcases List.mem_append.1 hb with hb | hb
  ·rw [List.mem_singleton.1 hb]
   exact hlo a ha
  ·exact h.2.2 a ha b hb
structure SSt where
 met : List (List Int)
 out : List (List Int)
def spcI (t : TTable) (s : SSt) (y : List Int) : SSt := if s.met.any (fun z => decide (y = z)) || s.out.any (fun z => decide (y = z)) then s else if comL t y then ⟨s.met ++ [y], s.out⟩ else ⟨s.met, insL s.out y⟩
def spcO (t : TTable) (s : SSt) (i : Nat) : SSt := (depM t (atI (atI s.met (i : Int)) 0) (atI (atI s.met (i : Int)) 1)).foldl (spcI t) s
structure SPre (t : TTable) (x : List Int) (s : SSt) : Prop where
 base : x ∈ s.met
 nd : s.met.Nodup
 rch : ∀ y ∈ s.met, Hits t x y /\ comL t y = true
 och : ∀ y ∈ s.out, Hits t x y /\ comL t y = false
 srt : SortL s.out
structure SInv (t : TTable) (x : List Int) (i : Nat) (s : SSt) : Prop extends SPre t x s where
 le : i <= s.met.length
 cl : ∀ j, j < i -> ∀ y ∈ hungM t (atI s.met (j : Int)), y ∈ s.met \/ y ∈ s.out
theorem spcI_spec {t : TTable} (ht : tabOk t = true) {x : List Int} (hx : IsInst t.n x) {s : SSt} (h : SPre t x s) {y : List Int} (hy : Hits t x y) :
  SPre t x (spcI t s y) /\ (y ∈ (spcI t s y).met \/ y ∈ (spcI t s y).out) /\ (∃ m, (spcI t s y).met = s.met ++ m) /\ (∀ z ∈ s.out, z ∈ (spcI t s y).out) := by
 unfold spcI
 by_cases hm : y ∈ s.met
 ·rw [any_mem.2 hm, Bool.true_or, if_pos rfl]
  exact ⟨h, .inl hm, ⟨[], by simp⟩, fun z hz => hz⟩
 ·by_cases ho : y ∈ s.out
  ·rw [any_mem.2 ho, Bool.or_true, if_pos rfl]
   exact ⟨h, .inr ho, ⟨[], by simp⟩, fun z hz => hz⟩
  ·rw [any_nmem hm, any_nmem ho]
   simp only [Bool.or_false, Bool.false_eq_true, if_false]
   cases hc : comL t y with
   | true =>
    simp only [if_true]
    refine ⟨⟨List.mem_append_left _ h.base, nodup_snoc h.nd hm, fun z hz => ?_, h.och, h.srt⟩, .inl (by simp), ⟨[y], rfl⟩, fun z hz => hz⟩
    rcases List.mem_append.1 hz with hz | hz
    ·exact h.rch z hz
    ·rw [List.mem_singleton.1 hz]; exact ⟨hy, hc⟩
   | false =>
    simp only [Bool.false_eq_true, if_false]
    refine ⟨⟨h.base, h.nd, h.rch, fun z hz => ?_, insL_sort h.srt (fun z hz => ((h.och z hz).1.inst ht hx).1) (hy.inst ht hx).1 ho⟩, .inr (insL_mem.2 (.inr rfl)), ⟨[], by simp⟩, fun z hz => insL_mem.2 (.inl hz)⟩
    rcases insL_mem.1 hz with hz | rfl
    ·exact h.och z hz
    ·exact ⟨hy, hc⟩
theorem spcF_spec {t : TTable} (ht : tabOk t = true) {x : List Int} (hx : IsInst t.n x) : ∀ {ys : List (List Int)} {s : SSt}, SPre t x s -> (∀ y ∈ ys, Hits t x y) ->
  SPre t x (ys.foldl (spcI t) s) /\ (∀ y ∈ ys, y ∈ (ys.foldl (spcI t) s).met \/ y ∈ (ys.foldl (spcI t) s).out) /\ (∃ m, (ys.foldl (spcI t) s).met = s.met ++ m) /\ (∀ z ∈ s.out, z ∈ (ys.foldl (spcI t) s).out)
 | [], s, h, _ => ⟨h, by simp, ⟨[], by simp⟩, fun z hz => hz⟩
 | y :: ys, s, h, hr => by
  obtain ⟨h1, h2, ⟨m, h3⟩, h4⟩ := spcI_spec ht hx h (hr y List.mem_cons_self)
  obtain ⟨k1, k2, ⟨m', k3⟩, k4⟩ := spcF_spec ht hx (ys := ys) h1 fun z hz => hr z (List.mem_cons_of_mem _ hz)
  rw [List.foldl_cons]
  refine ⟨k1, fun z hz => ?_, ⟨m ++ m', by rw [k3, h3, List.append_assoc]⟩, fun z hz => k4 z (h4 z hz)⟩
  rcases List.mem_cons.1 hz with rfl | hz
  ·rcases h2 with h2 | h2
   ·exact .inl (by rw [k3]; exact List.mem_append_left _ h2)
   ·exact .inr (k4 _ h2)
  ·exact k2 z hz
theorem atI_appN {α : Type} [Inhabited α] {l m : List α} {j : Nat} (h : j < l.length) : atI (l ++ m) (j : Int) = atI l (j : Int) := by
 rw [atI_get h, atI_get (by rw [List.length_append]; omega), List.getElem_append_left h]
theorem SInv.step {t : TTable} (ht : tabOk t = true) {x : List Int} (hx : IsInst t.n x) {i : Nat} {s : SSt} (h : SInv t x i s) (hi : i < s.met.length) : SInv t x (i + 1) (spcO t s i) := by
 have hzm := at_mem hi
 obtain ⟨hzr, hzc⟩ := h.rch _ hzm
 have hz2 := (hzr.inst ht hx).1
 unfold spcO
 obtain ⟨k1, k2, ⟨m, k3⟩, k4⟩ := spcF_spec ht hx (ys := depM t (atI (atI s.met (i : Int)) 0) (atI (atI s.met (i : Int)) 1)) h.toSPre fun y hy => .step hzr hzc ((depM_hung hz2).1 hy).1
 refine ⟨k1, by rw [k3, List.length_append]; omega, fun j hj y hy => ?_⟩
 have hjl : j < s.met.length := by omega
 rw [k3, atI_appN hjl] at hy
 rcases Nat.lt_or_ge j i with hji | hji
 ·rcases h.cl j hji y hy with h1 | h1
  ·exact .inl (by rw [k3]; exact List.mem_append_left _ h1)
  ·exact .inr (k4 y h1)
 ·obtain rfl : j = i := by omega
  by_cases e : y = atI s.met (j : Int)
  ·exact .inl (by rw [k3, e]; exact List.mem_append_left _ hzm)
  ·exact k2 y ((depM_hung hz2).2 ⟨hy, e⟩)
theorem SInv.start {t : TTable} {x : List Int} (hc : comL t x = true) : SInv t x 0 ⟨[x], []⟩ := by
 have h1 : ∀ y ∈ [x], Hits t x y /\ comL t y = true := fun y hy => by rw [List.mem_singleton.1 hy]; exact ⟨.base, hc⟩
 exact ⟨⟨by simp, by simp, h1, fun y hy => absurd hy (List.not_mem_nil), List.Pairwise.nil⟩, Nat.zero_le _, fun j hj => absurd hj (Nat.not_lt_zero _)⟩
theorem SInv.done {t : TTable} (ht : tabOk t = true) {x : List Int} (hx : IsInst t.n x) {s : SSt} (h : SInv t x s.met.length s) : s.out = blockM t x := by
 have hall : ∀ y, Hits t x y -> y ∈ s.met \/ y ∈ s.out := by
  intro y hy
  induction hy with
  | base => exact .inl h.base
  | step _ hc hy ih =>
   rcases ih with h1 | h1
   ·obtain ⟨j, hj, e⟩ := List.mem_iff_getElem.1 h1
    refine h.cl j hj _ ?_
    rw [atI_get hj, e]
    exact hy
   ·rw [(h.och _ h1).2] at hc; cases hc
 refine sortL_ext h.srt (blockM_sort t x) fun y => ?_
 rw [blockM_mem ht hx]
 refine ⟨h.och y, fun ⟨h1, h2⟩ => ?_⟩
 rcases hall y h1 with h3 | h3
 ·rw [(h.rch y h3).2] at h2; cases h2
 ·exact h3
theorem SPre.len {t : TTable} (ht : tabOk t = true) {x : List Int} (hx : IsInst t.n x) {s : SSt} (h : SPre t x s) : s.met.length <= 30 /\ s.out.length <= 30 := by
 have h1 := inst_len (tabOk_grp ht) h.nd fun y hy => (h.rch y hy).1.inst ht hx
 have h2 := inst_len (tabOk_grp ht) (sortL_nodup h.srt) fun y hy => (h.och y hy).1.inst ht hx
 exact ⟨h1, h2⟩
noncomputable def blkB (t : TTable) (x : List Int) : Bool := decide ((0 : Int) < ((blockM t x).length : Nat))
noncomputable def readyM (t : TTable) : List (List Int) := (comM t.rows).filter fun x => !blkB t x
noncomputable def readyR (t : TTable) : List (List Int) × Bool := if tabOk t then (readyM t, true) else ([], false)
theorem comM_inst {t : TTable} (ht : tabOk t = true) {x : List Int} (h : x ∈ comM t.rows) : IsInst t.n x /\ comL t x = true := by
 obtain ⟨-, -, h1, h2, h3⟩ := comM_spec ht h
 exact ⟨⟨h1, h2⟩, by simp [comL, h3]⟩
end Go.Proofs.YtpgnlmfmlffjcaaGreat.Rf

namespace Go.Proofs.YtpgnlmfmlffjcaaGreat.Rf
set_option linter.unusedVariables false
set_option linter.unusedSimpArgs false
def delD (kept : List (List Int)) (J : List (List D)) (rest : List (List Int)) : D := .rows 1 (kept.map Enc.enc ++ J ++ rest.map Enc.enc)
theorem delD_rL (l : List (List Int)) {i : Nat} (h : i <= l.length) : rL l = delD (l.take i) [] (l.drop i) := by
 unfold delD rL
 rw [List.append_nil, <- List.map_append, List.take_append_drop]
 rfl
theorem delD_more (kept : List (List Int)) (J : List (List D)) (y : List Int) (rest : List (List Int)) : delD kept J (y :: rest) = delD kept (J ++ [Enc.enc y]) rest := by
 unfold delD
 simp [List.append_assoc]
theorem delD_len {kept : List (List Int)} {J : List (List D)} {rest : List (List Int)} {n : Int} (h : (kept.length : Int) + J.length + rest.length = n) : Prim.len.run [delD kept J rest] = some [i64 n] := by
 subst h
 unfold delD
 simp only [Prim.run, List.length_append, List.length_map]
 rfl
theorem delD_inb {kept : List (List Int)} {J : List (List D)} {rest : List (List Int)} {k : Int} (h0 : 0 <= k) (h : k < (kept.length : Int) + J.length + rest.length) : Prim.inb.run [delD kept J rest, i64 k] = some [] := by
 unfold delD
 show (if _ then _ else _) = _
 rw [if_pos]
 simp only [List.length_append, List.length_map]
 omega
theorem delD_at {kept : List (List Int)} {J : List (List D)} {y : List Int} {rest : List (List Int)} {k : Int} (h : (kept.length : Int) + J.length = k) : (kept.map Enc.enc ++ J ++ (y :: rest).map Enc.enc)[k.toNat]? = some [rL y] := by
 rw [List.getElem?_append_right (by simp; omega)]
 simp only [List.length_append, List.length_map]
 rw [show k.toNat - (kept.length + J.length) = 0 by omega]
 rfl
theorem delD_row {kept : List (List Int)} {J : List (List D)} {y : List Int} {rest : List (List Int)} {k : Int} (h : (kept.length : Int) + J.length = k) : (Prim.row 1 0 [false]).run [delD kept J (y :: rest), i64 k] = some [rL y] := by
 unfold delD
 show (if _ then _ else _) = _
 rw [if_pos ⟨rfl, by omega⟩, delD_at h]
 rfl
theorem delD_hole {kept : List (List Int)} {J : List (List D)} {y : List Int} {rest : List (List Int)} {k : Int} (h : (kept.length : Int) + J.length = k) : (Prim.set 1 0 1).run [delD kept J (y :: rest), i64 k, .hole] = some [delD kept (J ++ [[.hole]]) rest] := by
 unfold delD
 show (if _ then _ else _) = _
 rw [if_pos ⟨rfl, by omega⟩, delD_at h]
 show some _ = some _
 congr 2
 rw [List.set_append_right _ _ (by simp; omega)]
 simp only [List.length_append, List.length_map]
 rw [show k.toNat - (kept.length + J.length) = 0 by omega]
 simp
theorem delD_put {kept : List (List Int)} {j : List D} {J : List (List D)} {y : List Int} {rest : List (List Int)} {k : Int} (h : (kept.length : Int) = k) (hj : j.length = 1) : (Prim.set 1 0 1).run [delD kept (j :: J) rest, i64 k, rL y] = some [delD (kept ++ [y]) J rest] := by
 unfold delD
 have e : (kept.map Enc.enc ++ (j :: J) ++ rest.map Enc.enc)[k.toNat]? = some j := by
  rw [List.append_assoc, List.getElem?_append_right (by simp; omega)]
  simp only [List.length_map]
  rw [show k.toNat - kept.length = 0 by omega]
  rfl
 show (if _ then _ else _) = _
 rw [if_pos ⟨rfl, by omega⟩, e]
 dsimp only
 rw [if_pos ⟨by rw [hj]; exact Nat.le_refl _, rfl⟩]
 have e2 : j.take 0 ++ [rL y] ++ j.drop (0 + 1) = [rL y] := by
  match j, hj with
  | [d], _ => rfl
 rw [e2, List.append_assoc, List.set_append_right _ _ (by simp; omega)]
 simp only [List.length_map]
 rw [show k.toNat - kept.length = 0 by omega]
 simp [Enc.enc]
theorem delD_sub {kept : List (List Int)} {J : List (List D)} {n k : Int} (h : (kept.length : Int) = k) (hn : (kept.length : Int) + J.length = n) : ∃ d, (Prim.sub 1 false).run [delD kept J [], i64 k, i64 n] = some [d] := by
 unfold delD
 exact ⟨_, if_pos ⟨rfl, by simp, by omega, by omega, by simp; omega⟩⟩
theorem delD_clr {kept : List (List Int)} {J : List (List D)} {k : Int} (h : (kept.length : Int) = k) : (Prim.clr 1).run [delD kept J [], i64 k] = some [delD kept (J.map fun r => r.map fun _ => .hole) []] := by
 unfold delD
 show (if _ then _ else _) = _
 rw [if_pos ⟨rfl, by omega⟩]
 have e : k.toNat = (kept.map (Enc.enc (α := List Int))).length := by simp; omega
 rw [e]
 simp
theorem delD_cut {kept : List (List Int)} {J : List (List D)} {k : Int} (h : (kept.length : Int) = k) : (Prim.sub 1 false).run [delD kept J [], i64 0, i64 k] = some [rL kept] := by
 unfold delD
 show (if _ then _ else _) = _
 rw [if_pos ⟨rfl, by simp, by omega, by omega, by simp; omega⟩]
 have e : k.toNat = (kept.map (Enc.enc (α := List Int))).length := by simp; omega
 rw [e]
 simp [rL]
 rfl
theorem szLL_le : ∀ (l : List (List Int)) (a b : Nat), l.length <= a -> (∀ x ∈ l, x.length <= b) -> szL (szL fun _ => 0) l <= a * (1 + b)
 | [], a, b, _, _ => by simp [szL]
 | x :: l, 0, b, h1, _ => by simp at h1
 | x :: l, a + 1, b, h1, h2 => by
  rw [szL_cons, szL_zero]
  have := szLL_le l a b (by simpa using h1) fun y hy => h2 y (List.mem_cons_of_mem _ hy)
  have := h2 x List.mem_cons_self
  rw [Nat.succ_mul]
  omega
theorem ctLL_le {l : List (List Int)} (h : szL (szL fun _ => 0) l <= 1000000) : ctL (ctL fun _ => 1) l <= 1125899906842624 := by
 have := ctL_le (c := (ctL (fun _ => 1))) (f := (szL (fun _ => 0))) (m := 16) (by omega) (fun xs => Nat.le_trans (ctL_le (c := (fun _ => 1)) (f := (fun _ => 0)) (m := 16) (by omega) (fun _ => by simp) xs) (Nat.le_add_left _ _)) l
 omega
theorem comM_len30 {t : TTable} (ht : tabOk t = true) : (comM t.rows).length <= 30 := inst_len (tabOk_grp ht) (comN_nodup ..) fun _ hy => (comM_inst ht hy).1
theorem readyR_sz (t : TTable) : szL (szL fun _ => 0) (readyR t).1 <= 10000 := by
 unfold readyR
 split
 ·rename_i h
  refine Nat.le_trans (szLL_le _ 30 2 ?_ ?_) (by omega)
  ·exact Nat.le_trans (List.length_filter_le _ _) (comM_len30 h)
  ·intro x hx
   have := (comM_spec h (List.mem_filter.1 hx).1).2.2.1
   omega
 ·simp [szL]
end Go.Proofs.YtpgnlmfmlffjcaaGreat.Rf
