/- Terms for the program's functions, and that they are right: part 9 of 9. -/
import Derived.Test.YtpgnlmfmlffjcaaGreatRf8
import Derived.Lib.ItoaNum
open Bool renaming and_eq_true → Mby, false_eq_true → Mb6, not_eq_true' → Nbp, or_eq_true → Oba, or_false → Pbn, and_true → Pbr, eq_iff_iff → Pb3, or_true → Pb6
open List renaming mem_append_left → Mbz, getElem?_eq_getElem → Mb0, mem_append_right → Mb1, length_append → Mb2, getD_eq_getElem?_getD → Mb4, append_assoc → Mb7, mem_cons_of_mem → Mb8, mem_singleton → Mb9, length_map → Nbb, length_cons → Nbc, mem_cons_self → Nbf, replicate → Nbg, getElem?_append_right → Nbh, length_nil → Nbj, append_nil → Nbo, all_eq_true → Nbq, length_take → Nbr, mem_cons → Nbz, take_length → Nb0, length_drop → Obc, length_replicate → Obh, filter_cons → Obl, map_append → Obo, take_append_drop → Obp, length_filter_le → Obq, filter_append → Obr, cons_append → Obv, mem_range → Obx, flatMap_append → Oby, getElem_mem → Obz, filter_nil → Ob0, mem_of_mem_drop → Ob3, foldl_cons → Ob4, range_succ → Ob5, mem_flatMap → Ob6, getElem_map → Ob7, singleton_append → Ob9, pairwise_cons → Pbc, length_set → Pbe, length_pos_of_mem → Pbh, range → Pbp, all_cons → Pbq, pairwise_map → Pbs, map_congr_left → Pbt, mem_append → Pbu, any_eq_true → Pbw, pairwise_append → Pb2, eq_of_mem_replicate → Pb4, ext_getElem → Pb7
open Nat renaming le_refl → Nbd, lt_or_ge → Nbk, le_trans → Nb4, zero_le → Obu
set_option linter.unusedSimpArgs false
set_option linter.unusedVariables false
set_option linter.unnecessarySimpa false
set_option linter.unusedSectionVars false
namespace Go.Proofs.YtpgnlmfmlffjcaaGreat.Rf
set_option linter.unusedVariables false
set_option linter.unusedSimpArgs false
def lT (xs : List Int) (n : Int) : Bool := xs.any fun x => x == n
def oH (xs : List Int) (n : Int) : Nat := (xs.takeWhile fun x => decide (x < n)).length
def Oar (xs : List Int) (n : Int) : List Int := if decide ((oH xs n : Int) < xs.length) && (atI xs (oH xs n : Nat) == n) then xs else xs.take (oH xs n) ++ [n] ++ xs.drop (oH xs n)
theorem Bbt (xs : List Int) (n : Int) : oH xs n <= xs.length := (List.takeWhile_sublist _).length_le
theorem Uao : ∀ {xs : List Int} {n : Int} {k : Nat}, k < oH xs n -> atI xs (k : Int) < n
 | [], n, k, h => by simp [oH] at h
 | x :: xs, n, k, h => by
  unfold oH at h
  rw [List.takeWhile_cons] at h
  by_cases hx : x < n
  ·rw [if_pos (by simpa using hx)] at h
   cases k with
   | zero => exact hx
   | succ k => exact Uao (xs := xs) (k := k) (by simpa [oH] using h)
  ·rw [if_neg (by simpa using hx)] at h
   simp at h
theorem Uap : ∀ {xs : List Int} {n : Int}, oH xs n < xs.length -> ¬ atI xs (oH xs n : Nat) < n
 | [], n, h => by simp at h
 | x :: xs, n, h => by
  unfold oH at h ⊢
  rw [List.takeWhile_cons] at h ⊢
  by_cases hx : x < n
  ·rw [if_pos (by simpa using hx)] at h ⊢
   exact Uap (xs := xs) (n := n) (by simpa [oH] using h)
  ·rw [if_neg (by simpa using hx)]
   exact hx
def fD (l : List bH) (k : Int) (m : Nat) : List (List Int) := (Pbp m).flatMap fun i : Nat => if (atI l (i : Int)).state == 3 then [[k, (i : Int) + 1]] else []
def Dap (rows : List (List bH)) (m : Nat) : List (List Int) := (Pbp m).flatMap fun k : Nat => fD (atI rows (k : Int)) k (atI rows (k : Int)).length
def cZ (rows : List (List bH)) : List (List Int) := Dap rows rows.length
theorem oC (l : List bH) (k : Int) (m : Nat) : fD l k (m + 1) = fD l k m ++ if (atI l (m : Int)).state == 3 then [[k, (m : Int) + 1]] else [] := by
 simp [fD, Ob5, Oby]
theorem Aal (rows : List (List bH)) (m : Nat) : Dap rows (m + 1) = Dap rows m ++ fD (atI rows (m : Int)) m (atI rows (m : Int)).length := by
 simp [Dap, Ob5, Oby]
theorem rG (l : List bH) (k : Int) : ∀ m, (fD l k m).length <= m
 | 0 => by simp [fD]
 | m + 1 => by
  have := rG l k m
  rw [oC, Mb2]
  split <;> simp <;> omega
theorem Aam {rows : List (List bH)} (h : ∀ l ∈ rows, l.length <= 6) : ∀ {m}, m <= rows.length -> (Dap rows m).length <= 6 * m
 | 0, _ => by simp [Dap]
 | m + 1, hm => by
  have h1 := Aam h (m := m) (by omega)
  have h2 := rG (atI rows (m : Int)) m (atI rows (m : Int)).length
  have h3 := h _ (at_mem (show m < rows.length by omega))
  rw [Aal, Mb2]
  omega
theorem Rad {rows : List (List bH)} {x : List Int} (h : x ∈ cZ rows) : ∃ k i : Nat, k < rows.length /\ i < (atI rows (k : Int)).length /\ x = [(k : Int), (i : Int) + 1] /\ (atI (atI rows (k : Int)) (i : Int)).state = 3 := by
 unfold cZ Dap fD at h
 simp only [Ob6, Obx] at h
 obtain ⟨k, hk, i, hi, hx⟩ := h
 split at hx
 ·rename_i hs
  exact ⟨k, i, hk, hi, by simpa using hx, by simpa using hs⟩
 ·cases hx
theorem nC {t : aL} (ht : bI t = true) {x : List Int} (h : x ∈ cZ t.rows) : InB x 0 /\ InB x 1 /\ x.length = 2 /\ inst t.n (atI x 0) (atI x 1) = true /\ (gU t (atI x 0) (atI x 1)).state = 3 := by
 obtain ⟨k, i, hk, hi, rfl, hs⟩ := Rad h
 have h1 := (fG ht (at_mem hk)).1
 have h2 := dY ht
 refine ⟨by unfold InB; simp, by unfold InB; simp, rfl, ?_, ?_⟩
 ·simp only [atI, inst, inR, Mby, decide_eq_true_eq]
  simp
  omega
 ·show (gU t (k : Int) ((i : Int) + 1)).state = 3
  unfold gU
  rw [if_pos (by omega), show (i : Int) + 1 - 1 = i by omega]
  exact hs
theorem Ab9 {t : aL} (ht : bI t = true) {x y : List Int} (hx : inst t.n (atI x 0) (atI x 1) = true) (hy : inst t.n (atI y 0) (atI y 1) = true) : InB (gU t (atI x 0) (atI x 1)).attr.deps (atI y 0) := by
 have h1 := iW ht hx
 have h2 := bW hy
 unfold InB
 omega
end Go.Proofs.YtpgnlmfmlffjcaaGreat.Rf

namespace Go.Proofs.YtpgnlmfmlffjcaaGreat.Rf
set_option linter.unusedVariables false
set_option linter.unusedSimpArgs false
end Go.Proofs.YtpgnlmfmlffjcaaGreat.Rf

namespace Go.Proofs.YtpgnlmfmlffjcaaGreat.Rf
set_option linter.unusedVariables false
set_option linter.unusedSimpArgs false
def jJ (l : List (List Int)) (x : List Int) : Int := ixF (fun y => decide (x = y)) l
def uQ (k : Int) (rep no : Int) (m : Nat) : List (List Int) := (Pbp m).flatMap fun i : Nat => if !(k == rep) || !((i : Int) + 1 == no) then [[k, (i : Int) + 1]] else []
def Rab (deps : List Int) (rep no : Int) (m : Nat) : List (List Int) := (Pbp m).flatMap fun k : Nat => uQ k rep no (atI deps (k : Int)).toNat
theorem Fap (k rep no : Int) (m : Nat) : uQ k rep no (m + 1) = uQ k rep no m ++ if !(k == rep) || !((m : Int) + 1 == no) then [[k, (m : Int) + 1]] else [] := by
 simp [uQ, Ob5, Oby]
theorem Nac (deps : List Int) (rep no : Int) (m : Nat) : Rab deps rep no (m + 1) = Rab deps rep no m ++ uQ m rep no (atI deps (m : Int)).toNat := by
 simp [Rab, Ob5, Oby]
def Gat (t : aL) (rep no : Int) : List (List Int) := Rab (gU t rep no).attr.deps rep no (gU t rep no).attr.deps.length
theorem Bao (k rep no : Int) : ∀ m, (uQ k rep no m).length <= m
 | 0 => by simp [uQ]
 | m + 1 => by
  have := Bao k rep no m
  rw [Fap, Mb2]
  split <;> simp <;> omega
theorem Dao {deps : List Int} {rep no : Int} (h : ∀ d ∈ deps, d <= 6) : ∀ {m}, m <= deps.length -> (Rab deps rep no m).length <= 6 * m
 | 0, _ => by simp [Rab]
 | m + 1, hm => by
  have h1 := Dao (rep := rep) (no := no) h (m := m) (by omega)
  have h2 := Bao (m : Int) rep no (atI deps (m : Int)).toNat
  have h3 := h _ (at_mem (show m < deps.length by omega))
  rw [Nac, Mb2]
  omega
theorem lX {n : Int} {r : bH} (h : rowOk n r = true) (hg : gN n = true) : ∀ d ∈ r.attr.deps, 0 <= d /\ d <= 6 := by
 have h2 : sJ n r.attr = true := by
  simp only [rowOk, Mby] at h
  have h3 := h.2
  split at h3
  ·simp only [Mby] at h3
   rw [of_decide_eq_true h3.2]
   exact Jab hg
  ·simp only [Mby] at h3
   exact h3.2
 simp only [sJ, Mby, Nbq] at h2
 exact fun d hd => Cbc (h2.2 d hd)
theorem Dan {deps : List Int} {rep no : Int} {m : Nat} {y : List Int} : y ∈ Rab deps rep no m ↔ ∃ k i : Nat, k < m /\ (i : Int) < atI deps (k : Int) /\ ¬((k : Int) = rep /\ (i : Int) + 1 = no) /\ y = [(k : Int), (i : Int) + 1] := by
 unfold Rab uQ
 simp only [Ob6, Obx]
 constructor
 ·rintro ⟨k, hk, i, hi, hy⟩
  split at hy
  ·rename_i hc
   refine ⟨k, i, hk, by omega, ?_, by simpa using hy⟩
   simp only [Oba, Nbp, beq_eq_false_iff_ne, ne_eq] at hc
   omega
  ·cases hy
 ·rintro ⟨k, i, hk, hi, hne, rfl⟩
  refine ⟨k, hk, i, by omega, ?_⟩
  rw [if_pos]
  ·simp
  ·simp only [Oba, Nbp, beq_eq_false_iff_ne, ne_eq]
   omega
def iR (xs : List Int) : Prop := xs.Pairwise (· < ·)
theorem vK : ∀ {xs ys : List Int}, iR xs -> iR ys -> (∀ x, x ∈ xs ↔ x ∈ ys) -> xs = ys
 | [], [], _, _, _ => rfl
 | [], y :: ys, _, _, h => by have := (h y).2 Nbf; cases this
 | x :: xs, [], _, _, h => by have := (h x).1 Nbf; cases this
 | x :: xs, y :: ys, hx, hy, h => by
  unfold iR at hx hy
  rw [Pbc] at hx hy
  have e : x = y := by
   rcases List.mem_cons.1 ((h x).1 Nbf) with h1 | h1
   ·exact h1
   ·rcases List.mem_cons.1 ((h y).2 Nbf) with h2 | h2
    ·exact h2.symm
    ·have := hx.1 y h2
     have := hy.1 x h1
     omega
  subst e
  congr 1
  refine vK hx.2 hy.2 fun z => ?_
  constructor
  ·intro hz
   rcases List.mem_cons.1 ((h z).1 (Mb8 _ hz)) with h1 | h1
   ·subst h1
    exact absurd (hx.1 z hz) (by omega)
   ·exact h1
  ·intro hz
   rcases List.mem_cons.1 ((h z).2 (Mb8 _ hz)) with h1 | h1
   ·subst h1
    exact absurd (hy.1 z hz) (by omega)
   ·exact h1
theorem Laz {x n : Int} {xs : List Int} : Oar (x :: xs) n = if x < n then x :: Oar xs n else if x == n then x :: xs else n :: x :: xs := by
 by_cases h : x < n
 ·rw [if_pos h]
  have e : oH (x :: xs) n = oH xs n + 1 := by simp [oH, h]
  have ea : atI (x :: xs) ((oH xs n + 1 : Nat) : Int) = atI xs (oH xs n : Nat) := by
   rw [uW, uW, List.getD_cons_succ]
  have el : decide (((oH xs n + 1 : Nat) : Int) < (x :: xs).length) = decide (((oH xs n : Nat) : Int) < xs.length) := by
   simp only [Nbc, decide_eq_decide]; omega
  unfold Oar
  rw [e, ea, el]
  split
  ·rfl
  ·simp
 ·rw [if_neg h]
  have e : oH (x :: xs) n = 0 := by simp [oH, h]
  unfold Oar
  rw [e]
  have ea : atI (x :: xs) ((0 : Nat) : Int) = x := rfl
  rw [ea]
  have el : decide (((0 : Nat) : Int) < (x :: xs).length) = true := by simp
  rw [el, Bool.true_and]
  split
  ·rfl
  ·simp
theorem Daj : ∀ {xs : List Int} {n x : Int}, x ∈ Oar xs n ↔ x ∈ xs \/ x = n
 | [], n, x => by simp [Oar, oH]
 | y :: ys, n, x => by
  rw [Laz]
  split
  ·rw [Nbz, Daj, Nbz, or_assoc]
  ·split
   ·rename_i h
    have : y = n := by simpa using h
    subst this
    simp [or_comm]
   ·simp only [Nbz]
    constructor
    ·rintro (h | h | h)
     ·exact .inr h
     ·exact .inl (.inl h)
     ·exact .inl (.inr h)
    ·rintro ((h | h) | h)
     ·exact .inr (.inl h)
     ·exact .inr (.inr h)
     ·exact .inl h
theorem xJ : ∀ {xs : List Int} {n : Int}, iR xs -> iR (Oar xs n)
 | [], n, _ => by simp [Oar, oH, iR]
 | y :: ys, n, h => by
  have h' := h
  unfold iR at h
  rw [Pbc] at h
  rw [Laz]
  split
  ·unfold iR
   rw [Pbc]
   refine ⟨fun z hz => ?_, xJ h.2⟩
   rcases Daj.1 hz with h1 | h1
   ·exact h.1 z h1
   ·omega
  ·split
   ·exact h'
   ·rename_i h1 h2
    have : y ≠ n := by simpa using h2
    unfold iR
    rw [Pbc]
    refine ⟨fun z hz => ?_, h'⟩
    rcases List.mem_cons.1 hz with h3 | h3
    ·omega
    ·have := h.1 z h3
     omega
theorem Yam (xs : List Int) (n : Int) : (Oar xs n).length <= xs.length + 1 := by
 unfold Oar
 split
 ·omega
 ·simp only [Mb2, Nbc, Nbj, Nbr, Obc]; omega
def Naw (pts ys : List (List Int)) : Nat -> List Int
 | 0 => []
 | m + 1 => if decide (0 <= jJ pts (atI ys (m : Int))) then Oar (Naw pts ys m) (jJ pts (atI ys (m : Int))) else Naw pts ys m
theorem zI (pts ys : List (List Int)) (m : Nat) : Naw pts ys (m + 1) = if decide (0 <= jJ pts (atI ys (m : Int))) then Oar (Naw pts ys m) (jJ pts (atI ys (m : Int))) else Naw pts ys m := rfl
theorem xI (pts ys : List (List Int)) : ∀ m, iR (Naw pts ys m)
 | 0 => List.Pairwise.nil
 | m + 1 => by
  rw [zI]
  split
  ·exact xJ (xI pts ys m)
  ·exact xI pts ys m
theorem Qak (pts ys : List (List Int)) : ∀ m, (Naw pts ys m).length <= m
 | 0 => by simp [Naw]
 | m + 1 => by
  have := Qak pts ys m
  rw [zI]
  split
  ·have := Yam (Naw pts ys m) (jJ pts (atI ys (m : Int)))
   omega
  ·omega
theorem Ia8 {pts ys : List (List Int)} : ∀ {m : Nat} {j : Int}, j ∈ Naw pts ys m ↔ ∃ i, i < m /\ 0 <= jJ pts (atI ys (i : Nat)) /\ jJ pts (atI ys (i : Nat)) = j
 | 0, j => by simp [Naw]
 | m + 1, j => by
  rw [zI]
  split
  ·rename_i h
   have h' : 0 <= jJ pts (atI ys (m : Int)) := by simpa using h
   rw [Daj, Ia8]
   constructor
   ·rintro (⟨i, h1, h2⟩ | h1)
    ·exact ⟨i, by omega, h2⟩
    ·exact ⟨m, by omega, h', h1.symm⟩
   ·rintro ⟨i, h1, h2, h3⟩
    rcases Nbk i m with h4 | h4
    ·exact .inl ⟨i, h4, h2, h3⟩
    ·obtain rfl : i = m := by omega
     exact .inr h3.symm
  ·rename_i h
   have h' : ¬ 0 <= jJ pts (atI ys (m : Int)) := by simpa using h
   rw [Ia8]
   constructor
   ·rintro ⟨i, h1, h2⟩; exact ⟨i, by omega, h2⟩
   ·rintro ⟨i, h1, h2, h3⟩
    rcases Nbk i m with h4 | h4
    ·exact ⟨i, h4, h2, h3⟩
    ·obtain rfl : i = m := by omega
     exact absurd h2 h'
def Sax (pts : List (List Int)) (deps : List Int) (x : List Int) (j : Nat) : Bool := !decide (x = atI pts (j : Int)) && decide (atI (atI pts (j : Int)) 1 <= atI deps (atI (atI pts (j : Int)) 0))
def uJ (pts : List (List Int)) (deps : List Int) (x : List Int) (m : Nat) : List Int := (Pbp m).flatMap fun j : Nat => if Sax pts deps x j then [(j : Int)] else []
theorem Bai (pts : List (List Int)) (deps : List Int) (x : List Int) (m : Nat) : uJ pts deps x (m + 1) = uJ pts deps x m ++ if Sax pts deps x m then [(m : Int)] else [] := by
 simp [uJ, Ob5, Oby]
theorem Ea5 (pts : List (List Int)) (deps : List Int) (x : List Int) : ∀ m, (uJ pts deps x m).length <= m
 | 0 => by simp [uJ]
 | m + 1 => by
  have := Ea5 pts deps x m
  rw [Bai, Mb2]
  split <;> simp <;> omega
theorem Ea4 {pts : List (List Int)} {deps : List Int} {x : List Int} {m : Nat} {j : Int} : j ∈ uJ pts deps x m ↔ ∃ k : Nat, k < m /\ Sax pts deps x k = true /\ (k : Int) = j := by
 unfold uJ
 simp only [Ob6, Obx]
 constructor
 ·rintro ⟨k, hk, h⟩
  split at h
  ·rename_i hb
   have : j = (k : Int) := by simpa using h
   exact ⟨k, hk, hb, this.symm⟩
  ·cases h
 ·rintro ⟨k, hk, hb, rfl⟩
  exact ⟨k, hk, by rw [if_pos hb]; simp⟩
theorem Cak (pts : List (List Int)) (deps : List Int) (x : List Int) : ∀ m, iR (uJ pts deps x m)
 | 0 => by simp [uJ, iR]
 | m + 1 => by
  rw [Bai]
  unfold iR
  rw [Pb2]
  refine ⟨Cak pts deps x m, by split <;> simp, fun a ha b hb => ?_⟩
  obtain ⟨k, hk, -, rfl⟩ := Ea4.1 ha
  split at hb
  ·have : b = (m : Int) := by simpa using hb
   omega
  ·cases hb
theorem Jan {α : Type} [Inhabited α] {p : α -> Bool} {xs : List α} (h : 0 <= ixF p xs) : InB xs (ixF p xs) /\ p (atI xs (ixF p xs)) = true /\ ∀ k : Nat, (k : Int) < ixF p xs -> p (atI xs (k : Int)) = false := by
 unfold ixF at h ⊢
 cases e : xs.findIdx? p with
 | none => rw [e] at h; simp at h
 | some i =>
  rw [List.findIdx?_eq_some_iff_getElem] at e
  obtain ⟨hi, hp, hmin⟩ := e
  refine ⟨aM.2 hi, by simp only; rw [aY hi]; exact hp, fun k hk => ?_⟩
  have hk' : k < i := by simp only at hk; omega
  rw [aY (by omega)]
  have := hmin k hk'
  simpa using this
theorem Van {α : Type} [Inhabited α] {p : α -> Bool} {xs : List α} {k : Nat} (hk : k < xs.length) (hp : p (atI xs (k : Int)) = true) : 0 <= ixF p xs := by
 have h : xs.any p = true := List.any_eq_true.2 ⟨_, at_mem hk, hp⟩
 rw [<- fO] at h
 exact of_decide_eq_true h
theorem Ha6 {l : List (List Int)} {x : List Int} (h : 0 <= jJ l x) : InB l (jJ l x) /\ x = atI l (jJ l x) /\ ∀ k : Nat, (k : Int) < jJ l x -> ¬ x = atI l (k : Int) := by
 obtain ⟨h1, h2, h3⟩ := Jan (p := fun y => decide (x = y)) h
 exact ⟨h1, of_decide_eq_true h2, fun k hk => of_decide_eq_false (h3 k hk)⟩
theorem pU {l : List bH} {k : Int} {m : Nat} {y : List Int} (h : y ∈ fD l k m) : ∃ i : Nat, i < m /\ y = [k, (i : Int) + 1] := by
 unfold fD at h
 simp only [Ob6, Obx] at h
 obtain ⟨i, hi, h⟩ := h
 split at h
 ·exact ⟨i, hi, by simpa using h⟩
 ·cases h
theorem Aak (l : List bH) (k : Int) : ∀ m, (fD l k m).Nodup
 | 0 => by simp [fD]
 | m + 1 => by
  rw [oC, List.nodup_append]
  refine ⟨Aak l k m, by split <;> simp, fun a ha b hb => ?_⟩
  obtain ⟨i, hi, rfl⟩ := pU ha
  split at hb
  ·have : b = [k, (m : Int) + 1] := by simpa using hb
   rw [this]
   simp
   omega
  ·cases hb
theorem Bat (rows : List (List bH)) : ∀ m, (Dap rows m).Nodup
 | 0 => by simp [Dap]
 | m + 1 => by
  rw [Aal, List.nodup_append]
  refine ⟨Bat rows m, Aak .., fun a ha b hb => ?_⟩
  obtain ⟨i, hi, rfl⟩ := pU hb
  unfold Dap at ha
  simp only [Ob6, Obx] at ha
  obtain ⟨k, hk, ha⟩ := ha
  obtain ⟨i', hi', rfl⟩ := pU ha
  simp
  omega
theorem Va3 {t : aL} (ht : bI t = true) {x : List Int} (hx : x ∈ cZ t.rows) :
  Naw (cZ t.rows) (Gat t (atI x 0) (atI x 1)) (Gat t (atI x 0) (atI x 1)).length = uJ (cZ t.rows) (gU t (atI x 0) (atI x 1)).attr.deps x (cZ t.rows).length := by
 refine vK (xI ..) (Cak ..) fun j => ?_
 rw [Ia8, Ea4]
 obtain ⟨-, -, hlen, hinst, -⟩ := nC ht hx
 have hdl := iW ht hinst
 have hxe : x = [atI x 0, atI x 1] := by
  match x, hlen with
  | [a, b], _ => rfl
 have hnd : (cZ t.rows).Nodup := Bat ..
 have htl := dY ht
 constructor
 ·rintro ⟨i, hi, h0, rfl⟩
  have hy : atI (Gat t (atI x 0) (atI x 1)) (i : Int) ∈ Gat t (atI x 0) (atI x 1) := at_mem hi
  generalize atI (Gat t (atI x 0) (atI x 1)) (i : Int) = y at hy h0 ⊢
  obtain ⟨hb, hye, -⟩ := Ha6 h0
  have hk := hb.lt
  refine ⟨(jJ (cZ t.rows) y).toNat, hk, ?_, by omega⟩
  have e : (((jJ (cZ t.rows) y).toNat : Nat) : Int) = jJ (cZ t.rows) y := by omega
  unfold Sax
  rw [e, <- hye]
  obtain ⟨k, i', h1, h2, h3, rfl⟩ := Dan.1 hy
  have a0 : atI [(k : Int), (i' : Int) + 1] 0 = k := rfl
  have a1 : atI [(k : Int), (i' : Int) + 1] 1 = (i' : Int) + 1 := rfl
  rw [a0, a1]
  simp only [Mby, Nbp, decide_eq_false_iff_not, decide_eq_true_eq]
  refine ⟨fun h => ?_, by omega⟩
  rw [hxe] at h
  simp only [List.cons.injEq, and_true] at h
  exact h3 ⟨h.1.symm, h.2.symm⟩
 ·rintro ⟨k, hk, hb, rfl⟩
  obtain ⟨k', i', h1, h2, h3, h4⟩ := Rad (at_mem hk)
  unfold Sax at hb
  rw [h3] at hb
  have a0 : atI [(k' : Int), (i' : Int) + 1] 0 = k' := rfl
  have a1 : atI [(k' : Int), (i' : Int) + 1] 1 = (i' : Int) + 1 := rfl
  rw [a0, a1] at hb
  simp only [Mby, Nbp, decide_eq_false_iff_not, decide_eq_true_eq] at hb
  have hmem : [(k' : Int), (i' : Int) + 1] ∈ Gat t (atI x 0) (atI x 1) := by
   refine Dan.2 ⟨k', i', by omega, by omega, fun h => hb.1 ?_, rfl⟩
   rw [hxe, <- h.1, <- h.2]
  obtain ⟨q, hq, he⟩ := List.getElem_of_mem hmem
  have hq' : atI (Gat t (atI x 0) (atI x 1)) (q : Int) = atI (cZ t.rows) (k : Int) := by rw [aY hq, he, h3]
  have h0 : 0 <= jJ (cZ t.rows) (atI (cZ t.rows) (k : Int)) := Van hk (by simp)
  refine ⟨q, hq, by rw [hq']; exact h0, ?_⟩
  rw [hq']
  obtain ⟨hb2, hp', -⟩ := Ha6 h0
  generalize jJ (cZ t.rows) (atI (cZ t.rows) (k : Int)) = f at *
  have hf := hb2.lt
  have e : ((f.toNat : Nat) : Int) = f := by unfold InB at hb2; omega
  rw [<- e, aY hk, aY hf] at hp'
  have := (List.getElem_inj hnd).1 hp'
  omega
def mW (t : aL) (m : Nat) : List (List Int) := (Pbp m).map fun i : Nat => uJ (cZ t.rows) (gU t (atI (atI (cZ t.rows) (i : Int)) 0) (atI (atI (cZ t.rows) (i : Int)) 1)).attr.deps (atI (cZ t.rows) (i : Int)) (cZ t.rows).length
def Ha5 (t : aL) : List (List Int) := mW t (cZ t.rows).length
theorem Ea7 (t : aL) (m : Nat) : mW t (m + 1) = mW t m ++ [uJ (cZ t.rows) (gU t (atI (atI (cZ t.rows) (m : Int)) 0) (atI (atI (cZ t.rows) (m : Int)) 1)).attr.deps (atI (cZ t.rows) (m : Int)) (cZ t.rows).length] := by
 simp [mW, Ob5]
theorem Ha4 (t : aL) (m : Nat) : (mW t m).length = m := by simp [mW]
end Go.Proofs.YtpgnlmfmlffjcaaGreat.Rf

namespace Go.Proofs.YtpgnlmfmlffjcaaGreat.Rf
set_option linter.unusedVariables false
set_option linter.unusedSimpArgs false
section
variable {T : Nat -> Ent} {β : Type}
end
end Go.Proofs.YtpgnlmfmlffjcaaGreat.Rf

namespace Go.Proofs.YtpgnlmfmlffjcaaGreat.Rf
set_option linter.unusedVariables false
set_option linter.unusedSimpArgs false
end Go.Proofs.YtpgnlmfmlffjcaaGreat.Rf

namespace Go.Proofs.YtpgnlmfmlffjcaaGreat.Rf
set_option linter.unusedVariables false
set_option linter.unusedSimpArgs false
theorem Qar {α : Type} {xs : List α} {k : Int} {a x : α} (h : x ∈ fI xs k a) : x ∈ xs \/ x = a := List.mem_or_eq_of_mem_set h
end Go.Proofs.YtpgnlmfmlffjcaaGreat.Rf

namespace Go.Proofs.YtpgnlmfmlffjcaaGreat.Rf
set_option linter.unusedVariables false
set_option linter.unusedSimpArgs false
theorem Eat {T : Nat -> Ent} {β γ : Type} {body : Tm β} {ρ : List D} {init : List aJ} (m : γ -> Nat) (inv : γ -> Prop) (vs : γ -> List D) (Q : Kind × List D -> Prop) (c0 : γ) (h0 : init.map (·.val ρ) = vs c0) (hi : inv c0)
  (h : ∀ c, inv c -> (∃ c', Er T body (ρ ++ vs c) = some (.cont, vs c') /\ inv c' /\ m c' < m c) \/ (∃ q, Er T body (ρ ++ vs c) = some q /\ q.1 ≠ .cont /\ Q q)) : ∃ q, Er T (.loop init body) ρ = some q /\ Q q :=
 La7 (T := T) (body := body) (ρ := ρ) m inv vs Q (fun c hc => by
  rcases h c hc with ⟨c', h2, h3, h4⟩ | ⟨q, h2, h3, h4⟩
  ·exact ⟨_, h2, .inl ⟨rfl, c', h3, h4, rfl⟩⟩
  ·exact ⟨_, h2, .inr ⟨h3, h4⟩⟩) (m c0) c0 (Nbd _) hi init h0
end Go.Proofs.YtpgnlmfmlffjcaaGreat.Rf

namespace Go.Proofs.YtpgnlmfmlffjcaaGreat.Rf
set_option linter.unusedVariables false
set_option linter.unusedSimpArgs false
end Go.Proofs.YtpgnlmfmlffjcaaGreat.Rf

namespace Go.Proofs.YtpgnlmfmlffjcaaGreat.Rf
set_option linter.unusedVariables false
set_option linter.unusedSimpArgs false
theorem Cbw {α : Type} [Inhabited α] {xs ys : List α} {k : Int} (h0 : 0 <= k) (h : k < (xs.length : Int)) : atI (xs ++ ys) k = atI xs k := by
 unfold atI
 rw [Mb4, Mb4, List.getElem?_append_left (by omega)]
theorem Cbv {α : Type} [Inhabited α] {xs : List α} {a : α} {n : Nat} {k : Int} (h : (xs.length : Int) <= k) (h2 : k < (xs.length : Int) + n) : atI (xs ++ Nbg n a) k = a := by
 unfold atI
 rw [Mb4, Nbh (by omega), List.getElem?_replicate_of_lt (by omega)]
 rfl
theorem Kau {t : aL} {rep no : Int} {r : bH} (h : bI t = true) (hi : inst t.n rep no = true) {k i : Int} (hk : inst t.n k i = true) : gU (Pa0 t rep no r) k i = if k = rep /\ i = no then r else gU t k i := by
 obtain ⟨r1, r2, r3, r4⟩ := bW hi
 obtain ⟨k1, k2, k3, k4⟩ := bW hk
 have hb := gV h hi
 have hb2 := gV h hk
 have hl := Paa (n := t.n) (l := atI t.rows rep) (no := no) (by omega)
 unfold gU
 simp only [Pa0]
 by_cases hkr : k = rep
 ·subst hkr
  have e : atI (fI t.rows k (fI (ext t.n (atI t.rows k) no) (no - 1) r)) k = fI (ext t.n (atI t.rows k) no) (no - 1) r := sO.1 hb
  simp only [e, vJ, true_and]
  by_cases hin : i = no
  ·subst hin
   rw [if_pos (by omega), if_pos rfl]
   exact sO.1 (by unfold InB; omega)
  ·rw [if_neg hin]
   rw [Ab3 (by omega) (by omega) (by omega)]
   by_cases h1 : i <= ((atI t.rows k).length : Int)
   ·rw [if_pos (by omega), if_pos h1]
    exact Cbw (by omega) (by omega)
   ·rw [if_neg h1]
    split
    ·exact Cbv (by omega) (by omega)
    ·rfl
 ·rw [if_neg (fun hc => hkr hc.1)]
  have e : atI (fI t.rows rep (fI (ext t.n (atI t.rows rep) no) (no - 1) r)) k = atI t.rows k := Ab3 (by omega) (by omega) (fun e => hkr e.symm)
  simp only [e]
theorem Uai {n : Int} (h : gN n = true) : rowOk n (row0 n) = true := by
 have hn := bL h
 rcases hn with rfl | rfl <;> decide
theorem Tav {t : aL} {rep no : Int} {r : bH} (h : bI t = true) (hi : inst t.n rep no = true) (hr : rowOk t.n r = true) : bI (Pa0 t rep no r) = true := by
 obtain ⟨r1, r2, r3, r4⟩ := bW hi
 have hb := gV h hi
 have hg := aZ h
 have hlen := dY h
 have hl := Paa (n := t.n) (l := atI t.rows rep) (no := no) (by omega)
 obtain ⟨h6, hrows⟩ := fG h (fQ hb)
 simp only [bI, Pa0, Mby, Nbq, beq_iff_eq, decide_eq_true_eq, vJ]
 refine ⟨⟨hg, hlen⟩, fun l hl2 => ?_⟩
 rcases Qar hl2 with hl2 | rfl
 ·obtain ⟨q1, q2⟩ := fG h hl2
  exact ⟨q2, by omega⟩
 ·refine ⟨fun x hx => ?_, by rw [vJ]; omega⟩
  rcases Qar hx with hx | rfl
  ·unfold ext at hx
   rcases List.mem_append.1 hx with hx | hx
   ·exact hrows x hx
   ·rw [Pb4 hx]
    exact Uai hg
  ·exact hr
theorem Ia1 {t : aL} (h : bI t = true) : mG t.rows := by
 have hg := bL (aZ h)
 have hl := dY h
 refine ⟨by omega, fun l hl2 => ?_⟩
 obtain ⟨q1, q2⟩ := fG h hl2
 exact ⟨by omega, fun r hr => by have := Haf (q2 r hr) (aZ h); omega⟩
end Go.Proofs.YtpgnlmfmlffjcaaGreat.Rf

namespace Go.Proofs.YtpgnlmfmlffjcaaGreat.Rf
set_option linter.unusedVariables false
set_option linter.unusedSimpArgs false
end Go.Proofs.YtpgnlmfmlffjcaaGreat.Rf

namespace Go.Proofs.YtpgnlmfmlffjcaaGreat.Rf
set_option linter.unusedVariables false
set_option linter.unusedSimpArgs false
def u8 (c : UInt8) : D := .int .u8 (c.toNat : Nat)
end Go.Proofs.YtpgnlmfmlffjcaaGreat.Rf

namespace Go.Proofs.YtpgnlmfmlffjcaaGreat.Rf
set_option linter.unusedVariables false
set_option linter.unusedSimpArgs false
end Go.Proofs.YtpgnlmfmlffjcaaGreat.Rf

namespace Go.Proofs.YtpgnlmfmlffjcaaGreat.Rf
set_option linter.unusedVariables false
set_option linter.unusedSimpArgs false
end Go.Proofs.YtpgnlmfmlffjcaaGreat.Rf

namespace Go.Proofs.YtpgnlmfmlffjcaaGreat.Rf
set_option linter.unusedVariables false
set_option linter.unusedSimpArgs false
end Go.Proofs.YtpgnlmfmlffjcaaGreat.Rf

namespace Go.Proofs.YtpgnlmfmlffjcaaGreat.Rf
set_option linter.unusedVariables false
set_option linter.unusedSimpArgs false
end Go.Proofs.YtpgnlmfmlffjcaaGreat.Rf

namespace Go.Proofs.YtpgnlmfmlffjcaaGreat.Rf
set_option linter.unusedVariables false
set_option linter.unusedSimpArgs false
end Go.Proofs.YtpgnlmfmlffjcaaGreat.Rf

namespace Go.Proofs.YtpgnlmfmlffjcaaGreat.Rf
set_option linter.unusedVariables false
set_option linter.unusedSimpArgs false
end Go.Proofs.YtpgnlmfmlffjcaaGreat.Rf

namespace Go.Proofs.YtpgnlmfmlffjcaaGreat.Rf
set_option linter.unusedVariables false
set_option linter.unusedSimpArgs false
end Go.Proofs.YtpgnlmfmlffjcaaGreat.Rf

namespace Go.Proofs.YtpgnlmfmlffjcaaGreat.Rf
set_option linter.unusedVariables false
set_option linter.unusedSimpArgs false
end Go.Proofs.YtpgnlmfmlffjcaaGreat.Rf

namespace Go.Proofs.YtpgnlmfmlffjcaaGreat.Rf
set_option linter.unusedVariables false
set_option linter.unusedSimpArgs false
def prL (y : List Int) : Int × Int := (atI y 0, atI y 1)
def toL (p : Int × Int) : List Int := [p.1, p.2]
theorem oF {y : List Int} (h : y.length = 2) : toL (prL y) = y := by
 match y, h with
 | [a, b], _ => rfl
theorem Uaq (p : Int × Int) : prL (toL p) = p := rfl
def ltL (y z : List Int) : Prop := ltQ (prL y) (prL z) = true
theorem kX {y z : List Int} : ltL y z ↔ atI y 0 < atI z 0 \/ (atI y 0 = atI z 0 /\ atI y 1 < atI z 1) := Jae
def nL (l : List (List Int)) : Prop := l.Pairwise ltL
theorem yR : ∀ {xs ys : List (List Int)}, nL xs -> nL ys -> (∀ x, x ∈ xs ↔ x ∈ ys) -> xs = ys
 | [], [], _, _, _ => rfl
 | [], y :: ys, _, _, h => by have := (h y).2 Nbf; cases this
 | x :: xs, [], _, _, h => by have := (h x).1 Nbf; cases this
 | x :: xs, y :: ys, hx, hy, h => by
  unfold nL at hx hy
  rw [Pbc] at hx hy
  have e : x = y := by
   rcases List.mem_cons.1 ((h x).1 Nbf) with h1 | h1
   ·exact h1
   ·rcases List.mem_cons.1 ((h y).2 Nbf) with h2 | h2
    ·exact h2.symm
    ·have h3 := kX.1 (hx.1 y h2)
     have h4 := kX.1 (hy.1 x h1)
     omega
  subst e
  congr 1
  refine yR hx.2 hy.2 fun z => ?_
  constructor
  ·intro hz
   rcases List.mem_cons.1 ((h z).1 (Mb8 _ hz)) with h1 | h1
   ·subst h1
    have := kX.1 (hx.1 z hz)
    omega
   ·exact h1
  ·intro hz
   rcases List.mem_cons.1 ((h z).2 (Mb8 _ hz)) with h1 | h1
   ·subst h1
    have := kX.1 (hy.1 z hz)
    omega
   ·exact h1
theorem Oaj {l : List (List Int)} (h2 : ∀ y ∈ l, y.length = 2) (hn : l.Nodup) : nL ((kG id (l.map prL)).map toL) /\ ∀ y, y ∈ (kG id (l.map prL)).map toL ↔ y ∈ l := by
 have hp := fH id (l.map prL)
 have hs := sZ id (l.map prL)
 have hnd : (l.map prL).Nodup := by
  unfold List.Nodup
  rw [Pbs]
  refine List.Pairwise.imp_of_mem (fun {a b} ha hb hab e => hab ?_) hn
  rw [<- oF (h2 a ha), <- oF (h2 b hb), e]
 have hnd2 : (kG id (l.map prL)).Nodup := hp.nodup_iff.2 hnd
 constructor
 ·unfold nL
  rw [Pbs]
  have h3 := List.pairwise_and_iff.2 ⟨hs, hnd2⟩
  refine h3.imp fun {a b} hab => ?_
  unfold ltL
  rw [Uaq, Uaq]
  have h4 : ltQ b a = false := hab.1
  cases h5 : ltQ a b with
  | true => rfl
  | false => exact absurd (Qas h5 h4) hab.2
 ·intro y
  rw [List.mem_map]
  constructor
  ·rintro ⟨p, hp1, rfl⟩
   obtain ⟨z, hz, rfl⟩ := List.mem_map.1 (hp.mem_iff.1 hp1)
   rw [oF (h2 z hz)]
   exact hz
  ·intro hy
   exact ⟨prL y, hp.mem_iff.2 (List.mem_map.2 ⟨y, hy, rfl⟩), oF (h2 y hy)⟩
theorem Qaj (l : List (Int × Int)) : rL (l.map toL) = .rows 1 (l.map fun p => [Eam p]) := by
 simp only [rL, List.map_map]
 rfl
theorem Cb1 {l : List (List Int)} (h2 : ∀ y ∈ l, y.length = 2) (hl : l.length <= 1000000) : Ead [rL l] = some [rL ((kG id (l.map prL)).map toL)] := by
 have e : l = (l.map prL).map toL := by
  rw [List.map_map]
  conv => lhs; rw [<- List.map_id l]
  exact Pbt fun y hy => (oF (h2 y hy)).symm
 have e1 : rL l = .rows 1 ((l.map prL).map fun p => [Eam p]) := by rw [<- Qaj, <- e]
 rw [e1, Qaj]
 simp only [Ead, Han, Option.bind_some]
 rw [if_pos (by rw [Nbb]; exact hl)]
def eZ (n : Int) (y : List Int) : Prop := y.length = 2 /\ inst n (atI y 0) (atI y 1) = true
def uY (n : Nat) : List (List Int) := (Pbp n).flatMap fun k : Nat => (Pbp 6).map fun i : Nat => [(k : Int), (i : Int) + 1]
theorem Fa3 {n : Nat} {y : List Int} : y ∈ uY n ↔ eZ n y := by
 unfold uY eZ
 simp only [Ob6, Obx, List.mem_map]
 constructor
 ·rintro ⟨k, hk, i, hi, rfl⟩
  refine ⟨rfl, ?_⟩
  simp only [atI, inst, inR, Mby, decide_eq_true_eq]
  simp
  omega
 ·rintro ⟨h1, h2⟩
  match y, h1 with
  | [a, b], _ =>
   have h3 := bW h2
   simp only [atI] at h3
   simp at h3
   refine ⟨a.toNat, by omega, (b - 1).toNat, by omega, ?_⟩
   rw [show ((a.toNat : Nat) : Int) = a by omega, show (((b - 1).toNat : Nat) : Int) = b - 1 by omega, show b - 1 + 1 = b by omega]
theorem Paq (n : Nat) : (uY n).length = 6 * n := by
 unfold uY
 rw [List.length_flatMap]
 simp [List.map_const']
 omega
theorem Nar (n : Nat) : nL (uY n) := by
 unfold nL uY
 rw [List.pairwise_flatMap]
 refine ⟨fun k hk => ?_, ?_⟩
 ·rw [Pbs]
  refine List.pairwise_lt_range.imp fun {a b} hab => ?_
  rw [kX]
  simp [atI]
  omega
 ·refine List.pairwise_lt_range.imp fun {a b} hab => ?_
  intro x hx y hy
  obtain ⟨i, hi, rfl⟩ := List.mem_map.1 hx
  obtain ⟨j, hj, rfl⟩ := List.mem_map.1 hy
  rw [kX]
  simp [atI]
  omega
theorem jY {α : Type} [DecidableEq α] : ∀ {l m : List α}, l.Nodup -> (∀ x ∈ l, x ∈ m) -> l.length <= m.length
 | [], _, _, _ => Obu _
 | x :: l, m, hn, hs => by
  rw [List.nodup_cons] at hn
  have hx := hs x Nbf
  have := jY (l := l) (m := m.erase x) hn.2 fun y hy => by
   have hne : y ≠ x := fun e => hn.1 (by rw [<- e]; exact hy)
   exact (List.mem_erase_of_ne hne).2 (hs y (Mb8 _ hy))
  have h1 := List.length_erase_of_mem hx
  have h2 := Pbh hx
  simp only [Nbc]
  omega
theorem zW {n : Int} {l : List (List Int)} (hg : gN n = true) (hn : l.Nodup) (h : ∀ y ∈ l, eZ n y) : l.length <= 30 := by
 have h1 := bL hg
 have e : ((n.toNat : Nat) : Int) = n := by omega
 have := jY hn (m := uY n.toNat) fun y hy => Fa3.2 (by rw [e]; exact h y hy)
 rw [Paq] at this
 omega
def mV (k : Int) (m : Nat) : List (List Int) := (Pbp m).map fun i : Nat => [k, (i : Int) + 1]
def wF (deps : List Int) (m : Nat) : List (List Int) := (Pbp m).flatMap fun k : Nat => mV k (atI deps (k : Int)).toNat
theorem Man (k : Int) (m : Nat) : mV k (m + 1) = mV k m ++ [[k, (m : Int) + 1]] := by simp [mV, Ob5]
theorem Ha3 (deps : List Int) (m : Nat) : wF deps (m + 1) = wF deps m ++ mV m (atI deps (m : Int)).toNat := by simp [wF, Ob5, Oby]
def sN (t : aL) (x : List Int) : List (List Int) := wF (gU t (atI x 0) (atI x 1)).attr.deps (gU t (atI x 0) (atI x 1)).attr.deps.length
theorem Ea2 (k : Int) (m : Nat) : (mV k m).length = m := by simp [mV]
theorem Ea3 {deps : List Int} (h : ∀ d ∈ deps, d <= 6) : ∀ {m}, m <= deps.length -> (wF deps m).length <= 6 * m
 | 0, _ => by simp [wF]
 | m + 1, hm => by
  have h1 := Ea3 h (m := m) (by omega)
  have h3 := h _ (at_mem (show m < deps.length by omega))
  rw [Ha3, Mb2, Ea2]
  omega
theorem Mao {deps : List Int} {m : Nat} {y : List Int} : y ∈ wF deps m ↔ ∃ k i : Nat, k < m /\ (i : Int) < atI deps (k : Int) /\ y = [(k : Int), (i : Int) + 1] := by
 unfold wF mV
 simp only [Ob6, Obx, List.mem_map]
 constructor
 ·rintro ⟨k, hk, i, hi, rfl⟩
  exact ⟨k, i, hk, by omega, rfl⟩
 ·rintro ⟨k, i, hk, hi, rfl⟩
  exact ⟨k, hk, i, by omega, rfl⟩
theorem Sav {t : aL} (ht : bI t = true) {x y : List Int} (hx : eZ t.n x) (hy : y ∈ sN t x) : eZ t.n y := by
 unfold sN at hy
 obtain ⟨k, i, hk, hi, rfl⟩ := Mao.1 hy
 have h1 := iW ht hx.2
 have h2 := lX (pY ht hx.2) (aZ ht) _ (at_mem hk)
 refine ⟨rfl, ?_⟩
 simp only [atI, inst, inR, Mby, decide_eq_true_eq] at h2 ⊢
 simp only [atI] at hi
 simp
 omega
theorem Vaw {t : aL} (ht : bI t = true) {x : List Int} (hx : eZ t.n x) : (sN t x).length <= 30 := by
 have h1 := iW ht hx.2
 have h2 := lX (pY ht hx.2) (aZ ht)
 have h3 := bL (aZ ht)
 have := Ea3 (fun d hd => (h2 d hd).2) (Nbd (gU t (atI x 0) (atI x 1)).attr.deps.length)
 unfold sN
 omega
theorem Faq {t : aL} {x y : List Int} (hx : x.length = 2) : y ∈ Gat t (atI x 0) (atI x 1) ↔ y ∈ sN t x /\ y ≠ x := by
 unfold Gat sN
 rw [Dan, Mao]
 match x, hx with
 | [a, b], _ =>
  constructor
  ·rintro ⟨k, i, h1, h2, h3, rfl⟩
   refine ⟨⟨k, i, h1, h2, rfl⟩, fun e => h3 ?_⟩
   simp only [List.cons.injEq, and_true] at e
   exact e
  ·rintro ⟨⟨k, i, h1, h2, rfl⟩, hne⟩
   refine ⟨k, i, h1, h2, fun e => hne ?_, rfl⟩
   have e1 : (k : Int) = a := e.1
   have e2 : (i : Int) + 1 = b := e.2
   rw [e1, e2]
def wG (t : aL) (y : List Int) : Bool := (gU t (atI y 0) (atI y 1)).state == 3
inductive Iaj (t : aL) (x : List Int) : List Int -> Prop
 | base : Iaj t x x
 | step {z y : List Int} (h : Iaj t x z) (hc : wG t z = true) (hy : y ∈ sN t z) : Iaj t x y
theorem Iaj.inst {t : aL} (ht : bI t = true) {x y : List Int} (hx : eZ t.n x) (h : Iaj t x y) : eZ t.n y := by
 induction h with
 | base => exact hx
 | step _ _ hy ih => exact Sav ht ih hy
open Classical in
noncomputable def sI (t : aL) (x : List Int) : List (List Int) := (uY t.n.toNat).filter fun y => decide (Iaj t x y /\ wG t y = false)
theorem Fax (t : aL) (x : List Int) : nL (sI t x) := by
 unfold sI
 exact (Nar _).filter _
open Classical in
theorem Iae {t : aL} (ht : bI t = true) {x y : List Int} (hx : eZ t.n x) : y ∈ sI t x ↔ Iaj t x y /\ wG t y = false := by
 have h1 := bL (aZ ht)
 have e : ((t.n.toNat : Nat) : Int) = t.n := by omega
 unfold sI
 rw [List.mem_filter, decide_eq_true_eq, Fa3, e]
 exact ⟨fun h => h.2, fun h => ⟨h.1.inst ht hx, h⟩⟩
theorem Eae {l : List (List Int)} (h : nL l) : l.Nodup := by
 unfold nL at h
 refine h.imp fun {a b} hab e => ?_
 subst e
 have := kX.1 hab
 omega
structure BSt where
 met : List (List Int)
 out : List (List Int)
 wait : List (List Int)
def Fay (t : aL) (s : BSt) (y : List Int) : BSt := if s.met.any (fun z => decide (y = z)) then s else if wG t y then ⟨s.met ++ [y], s.out, s.wait ++ [y]⟩ else ⟨s.met ++ [y], s.out ++ [y], s.wait⟩
def Dbj (t : aL) (s : BSt) : BSt := let r := (sN t (atI s.wait 0)).foldl (Fay t) s; ⟨r.met, r.out, r.wait.drop 1⟩
structure BPre (t : aL) (x : List Int) (s : BSt) : Prop where
 base : x ∈ s.met
 nd : s.met.Nodup
 rch : ∀ y ∈ s.met, Iaj t x y
 out : ∀ y, y ∈ s.out ↔ y ∈ s.met /\ wG t y = false
 ond : s.out.Nodup
 wm : ∀ y ∈ s.wait, y ∈ s.met /\ wG t y = true
structure BInv (t : aL) (x : List Int) (s : BSt) : Prop extends BPre t x s where
 cl : ∀ z ∈ s.met, wG t z = true -> z ∈ s.wait \/ ∀ y ∈ sN t z, y ∈ s.met
theorem Kae {l : List (List Int)} {y : List Int} : (l.any fun z => decide (y = z)) = true ↔ y ∈ l := by
 rw [Pbw]
 constructor
 ·rintro ⟨z, h1, h2⟩
  rw [of_decide_eq_true h2]; exact h1
 ·exact fun h => ⟨y, h, by simp⟩
theorem Kad {l : List (List Int)} {y : List Int} (h : y ∉ l) : (l.any fun z => decide (y = z)) = false := by
 cases e : l.any fun z => decide (y = z) with
 | false => rfl
 | true => exact absurd (Kae.1 e) h
theorem vQ {l : List (List Int)} {y : List Int} (h : l.Nodup) (hy : y ∉ l) : (l ++ [y]).Nodup := by
 rw [List.nodup_append]
 refine ⟨h, by simp, fun a ha b hb e => ?_⟩
 rw [List.mem_singleton.1 hb] at e
 exact hy (e ▸ ha)
theorem Nap {t : aL} {x : List Int} {s : BSt} (h : BPre t x s) {y : List Int} (hy : Iaj t x y) :
  BPre t x (Fay t s y) /\ y ∈ (Fay t s y).met /\ (∀ z ∈ s.met, z ∈ (Fay t s y).met) /\ (∃ w, (Fay t s y).wait = s.wait ++ w) /\ (∀ z ∈ (Fay t s y).met, wG t z = true -> z ∈ (Fay t s y).wait \/ z ∈ s.met) /\
   (Fay t s y).wait.length + s.met.length <= s.wait.length + (Fay t s y).met.length := by
 unfold Fay
 by_cases hm : y ∈ s.met
 ·rw [Kae.2 hm, if_pos rfl]
  exact ⟨h, hm, fun z hz => hz, ⟨[], by simp⟩, fun z hz _ => .inr hz, Nbd _⟩
 ·rw [Kad hm]
  simp only [Mb6, if_false]
  have hmem : ∀ z, z ∈ s.met ++ [y] ↔ z ∈ s.met \/ z = y := fun z => by simp
  cases hc : wG t y with
  | true =>
   simp only [if_true]
   refine ⟨⟨Mbz _ h.base, vQ h.nd hm, fun z hz => ?_, fun z => ?_, h.ond, fun z hz => ?_⟩, by simp, fun z hz => Mbz _ hz, ⟨[y], rfl⟩, fun z hz _ => ?_, by simp <;> omega⟩
   ·rcases (hmem z).1 hz with hz | rfl
    ·exact h.rch z hz
    ·exact hy
   ·rw [h.out, hmem]
    constructor
    ·exact fun ⟨h1, h2⟩ => ⟨.inl h1, h2⟩
    ·rintro ⟨h1 | rfl, h2⟩
     ·exact ⟨h1, h2⟩
     ·rw [hc] at h2; cases h2
   ·rcases List.mem_append.1 hz with hz | hz
    ·exact ⟨Mbz _ (h.wm z hz).1, (h.wm z hz).2⟩
    ·rw [List.mem_singleton.1 hz]
     exact ⟨by simp, hc⟩
   ·rcases (hmem z).1 hz with hz | rfl
    ·exact .inr hz
    ·exact .inl (by simp)
  | false =>
   simp only [Mb6, if_false]
   refine ⟨⟨Mbz _ h.base, vQ h.nd hm, fun z hz => ?_, fun z => ?_, vQ h.ond (fun hz => hm ((h.out y).1 hz).1), fun z hz => ?_⟩, by simp, fun z hz => Mbz _ hz, ⟨[], by simp⟩, fun z hz hcz => ?_, by simp <;> omega⟩
   ·rcases (hmem z).1 hz with hz | rfl
    ·exact h.rch z hz
    ·exact hy
   ·rw [Pbu, h.out, hmem, Mb9]
    constructor
    ·rintro (⟨h1, h2⟩ | rfl)
     ·exact ⟨.inl h1, h2⟩
     ·exact ⟨.inr rfl, hc⟩
    ·rintro ⟨h1 | rfl, h2⟩
     ·exact .inl ⟨h1, h2⟩
     ·exact .inr rfl
   ·exact ⟨Mbz _ (h.wm z hz).1, (h.wm z hz).2⟩
   ·rcases (hmem z).1 hz with hz | rfl
    ·exact .inr hz
    ·rw [hc] at hcz; cases hcz
theorem Faz {t : aL} {x : List Int} : ∀ {ys : List (List Int)} {s : BSt}, BPre t x s -> (∀ y ∈ ys, Iaj t x y) ->
  BPre t x (ys.foldl (Fay t) s) /\ (∀ y ∈ ys, y ∈ (ys.foldl (Fay t) s).met) /\ (∀ z ∈ s.met, z ∈ (ys.foldl (Fay t) s).met) /\ (∃ w, (ys.foldl (Fay t) s).wait = s.wait ++ w) /\ (∀ z ∈ (ys.foldl (Fay t) s).met, wG t z = true -> z ∈ (ys.foldl (Fay t) s).wait \/ z ∈ s.met) /\
   (ys.foldl (Fay t) s).wait.length + s.met.length <= s.wait.length + (ys.foldl (Fay t) s).met.length
 | [], s, h, _ => ⟨h, by simp, fun z hz => hz, ⟨[], by simp⟩, fun z hz _ => .inr hz, Nbd _⟩
 | y :: ys, s, h, hr => by
  obtain ⟨h1, h2, h3, ⟨w, h4⟩, h5, h6⟩ := Nap h (hr y Nbf)
  obtain ⟨k1, k2, k3, ⟨w', k4⟩, k5, k6⟩ := Faz (ys := ys) h1 fun z hz => hr z (Mb8 _ hz)
  rw [Ob4]
  refine ⟨k1, fun z hz => ?_, fun z hz => k3 z (h3 z hz), ⟨w ++ w', by rw [k4, h4, Mb7]⟩, fun z hz hc => ?_, by omega⟩
  ·rcases List.mem_cons.1 hz with rfl | hz
   ·exact k3 _ h2
   ·exact k2 z hz
  ·rcases k5 z hz hc with h7 | h7
   ·exact .inl h7
   ·rcases h5 z h7 hc with h8 | h8
    ·exact .inl (by rw [k4]; exact Mbz _ h8)
    ·exact .inr h8
theorem BInv.step {t : aL} {x : List Int} {s : BSt} (h : BInv t x s) (hw : s.wait ≠ []) : BInv t x (Dbj t s) /\ (Dbj t s).wait.length + s.met.length < s.wait.length + (Dbj t s).met.length := by
 obtain ⟨z, w, e⟩ : ∃ z w, s.wait = z :: w := by
  cases hs : s.wait with
  | nil => exact absurd hs hw
  | cons z w => exact ⟨z, w, rfl⟩
 have hz0 : atI s.wait 0 = z := by rw [e]; rfl
 obtain ⟨hzm, hzc⟩ := h.wm z (by rw [e]; exact Nbf)
 have hr : ∀ y ∈ sN t z, Iaj t x y := fun y hy => .step (h.rch z hzm) hzc hy
 obtain ⟨k1, k2, k3, ⟨w', k4⟩, k5, k6⟩ := Faz (ys := sN t z) h.toBPre hr
 have k4' : ((sN t z).foldl (Fay t) s).wait.drop 1 = w ++ w' := by rw [k4, e]; rfl
 unfold Dbj
 rw [hz0]
 dsimp only
 refine ⟨⟨⟨k1.base, k1.nd, k1.rch, k1.out, k1.ond, fun y hy => k1.wm y (Ob3 hy)⟩, fun y hy hc => ?_⟩, ?_⟩
 ·dsimp only at hy ⊢
  by_cases hyz : y = z
  ·subst hyz
   exact .inr k2
  ·rw [k4']
   rcases k5 y hy hc with h1 | h1
   ·rw [k4, e] at h1
    rcases List.mem_append.1 h1 with h1 | h1
    ·rcases List.mem_cons.1 h1 with h1 | h1
     ·exact absurd h1 hyz
     ·exact .inl (Mbz _ h1)
    ·exact .inl (Mb1 _ h1)
   ·rcases h.cl y h1 hc with h2 | h2
    ·rw [e] at h2
     rcases List.mem_cons.1 h2 with h2 | h2
     ·exact absurd h2 hyz
     ·exact .inl (Mbz _ h2)
    ·exact .inr fun u hu => k3 u (h2 u hu)
 ·have : 0 < ((sN t z).foldl (Fay t) s).wait.length := by rw [k4, e]; simp <;> omega
  rw [Obc]
  omega
theorem BInv.start {t : aL} {x : List Int} (hc : wG t x = true) : BInv t x ⟨[x], [], [x]⟩ := by
 refine ⟨⟨by simp, by simp, fun y hy => ?_, fun y => ?_, by simp, fun y hy => ?_⟩, fun z hz _ => .inl hz⟩
 ·rw [List.mem_singleton.1 hy]; exact .base
 ·constructor
  ·intro hy; cases hy
  ·rintro ⟨h1, h2⟩
   rw [List.mem_singleton.1 h1, hc] at h2
   cases h2
 ·rw [List.mem_singleton.1 hy]
  exact ⟨by simp, hc⟩
theorem BInv.done {t : aL} (ht : bI t = true) {x : List Int} (hx : eZ t.n x) {s : BSt} (h : BInv t x s) (hw : s.wait = []) : (kG id (s.out.map prL)).map toL = sI t x := by
 have hall : ∀ y, Iaj t x y -> y ∈ s.met := by
  intro y hy
  induction hy with
  | base => exact h.base
  | step _ hc hy ih =>
   rcases h.cl _ ih hc with h1 | h1
   ·rw [hw] at h1; cases h1
   ·exact h1 _ hy
 obtain ⟨h1, h2⟩ := Oaj (l := s.out) (fun y hy => ((h.rch y ((h.out y).1 hy).1).inst ht hx).1) h.ond
 refine yR h1 (Fax t x) fun y => ?_
 rw [h2, h.out, Iae ht hx]
 exact ⟨fun ⟨h3, h4⟩ => ⟨h.rch y h3, h4⟩, fun ⟨h3, h4⟩ => ⟨hall y h3, h4⟩⟩
theorem BPre.len {t : aL} (ht : bI t = true) {x : List Int} (hx : eZ t.n x) {s : BSt} (h : BPre t x s) : s.met.length <= 30 /\ s.out.length <= 30 := by
 have h1 := zW (aZ ht) h.nd fun y hy => (h.rch y hy).inst ht hx
 have h2 := zW (aZ ht) h.ond fun y hy => (h.rch y ((h.out y).1 hy).1).inst ht hx
 exact ⟨h1, h2⟩
def gtL (y x : List Int) : Bool := decide (atI x 0 < atI y 0) || ((atI y 0 == atI x 0) && decide (atI x 1 < atI y 1))
def nK (l : List (List Int)) (x : List Int) : Nat -> Nat
 | 0 => 0
 | k + 1 => if gtL (atI l (k : Int)) x then nK l x k else k + 1
def Cbb (l : List (List Int)) (x : List Int) : List (List Int) := l.take (nK l x l.length) ++ [x] ++ l.drop (nK l x l.length)
theorem Oa2 (l : List (List Int)) (x : List Int) : ∀ m, nK l x m <= m
 | 0 => Nbd _
 | m + 1 => by
  unfold nK
  split
  ·exact Nat.le_succ_of_le (Oa2 l x m)
  ·exact Nbd _
theorem Vau {l : List (List Int)} {x : List Int} : ∀ {m j : Nat}, nK l x m <= j -> j < m -> gtL (atI l (j : Int)) x = true
 | 0, j, _, h => by omega
 | m + 1, j, h, hj => by
  unfold nK at h
  split at h
  ·rename_i hg
   rcases Nbk j m with h1 | h1
   ·exact Vau h h1
   ·obtain rfl : j = m := by omega
    exact hg
  ·omega
theorem Vat {l : List (List Int)} {x : List Int} : ∀ {m : Nat}, 0 < nK l x m -> gtL (atI l ((nK l x m - 1 : Nat) : Int)) x = false
 | 0, h => by simp [nK] at h
 | m + 1, h => by
  unfold nK at h ⊢
  split
  ·rename_i hg
   rw [if_pos hg] at h
   exact Vat h
  ·rename_i hg
   simpa using hg
theorem Va1 {y x : List Int} : gtL y x = true ↔ ltL x y := by
 rw [kX]
 unfold gtL
 simp only [Oba, Mby, decide_eq_true_eq, beq_iff_eq]
 omega
theorem Jaq {l : List (List Int)} {x y : List Int} : y ∈ Cbb l x ↔ y ∈ l \/ y = x := by
 unfold Cbb
 have e : ∀ k, y ∈ l.take k ++ [x] ++ l.drop k ↔ y ∈ l \/ y = x := by
  intro k
  have h := Obp k l
  rw [Mb7, Pbu, Pbu, Mb9]
  constructor
  ·rintro (h1 | h1 | h1)
   ·exact .inl (List.mem_of_mem_take h1)
   ·exact .inr h1
   ·exact .inl (Ob3 h1)
  ·rintro (h1 | h1)
   ·rw [<- h] at h1
    rcases List.mem_append.1 h1 with h1 | h1
    ·exact .inl h1
    ·exact .inr (.inr h1)
   ·exact .inr (.inl h1)
 exact e _
theorem Vas {l : List (List Int)} {x : List Int} (h : nL l) (h2 : ∀ y ∈ l, y.length = 2) (hx2 : x.length = 2) (hx : x ∉ l) : nL (Cbb l x) := by
 have hk := Oa2 l x l.length
 have hsp := Obp (nK l x l.length) l
 have hlo : ∀ y ∈ l.take (nK l x l.length), ltL y x := by
  intro y hy
  obtain ⟨j, hj⟩ := List.mem_iff_getElem?.1 hy
  have hjl : j < nK l x l.length := by
   have := (List.getElem?_eq_some_iff.1 hj).1
   rw [Nbr] at this
   omega
  rw [List.getElem?_take, if_pos hjl] at hj
  have hlast := Vat (l := l) (x := x) (m := l.length) (by omega)
  have hll : nK l x l.length - 1 < l.length := by omega
  rw [aY hll] at hlast
  have hnl : ¬ ltL x l[nK l x l.length - 1] := fun e => by rw [<- Va1, hlast] at e; cases e
  have hne : l[nK l x l.length - 1] ≠ x := fun e => hx (e ▸ Obz hll)
  have hlt2 : ltL l[nK l x l.length - 1] x := by
   rw [kX] at hnl ⊢
   have hl2 := h2 _ (Obz hll)
   generalize l[nK l x l.length - 1] = z at hnl hne hl2 ⊢
   have hz : ¬ (atI z 0 = atI x 0 /\ atI z 1 = atI x 1) := by
    rintro ⟨e1, e2⟩
    match z, x, hl2, hx2 with
    | [a, b], [c, d], _, _ =>
     have e1' : a = c := e1
     have e2' : b = d := e2
     exact hne (by rw [e1', e2'])
   omega
  rcases Nbk j (nK l x l.length - 1) with h1 | h1
  ·unfold nL at h
   rw [List.pairwise_iff_getElem] at h
   have hjl2 : j < l.length := by omega
   have h3 := h j (nK l x l.length - 1) hjl2 hll h1
   rw [(List.getElem?_eq_some_iff.1 hj).2] at h3
   rw [kX] at h3 hlt2 ⊢
   omega
  ·have e : j = nK l x l.length - 1 := by omega
   subst e
   rw [(List.getElem?_eq_some_iff.1 hj).2] at hlt2
   exact hlt2
 have hhi : ∀ y ∈ l.drop (nK l x l.length), ltL x y := by
  intro y hy
  obtain ⟨j, hj⟩ := List.mem_iff_getElem?.1 hy
  rw [List.getElem?_drop] at hj
  have hjl := (List.getElem?_eq_some_iff.1 hj).1
  have := Vau (l := l) (x := x) (m := l.length) (j := nK l x l.length + j) (by omega) hjl
  rw [aY hjl, (List.getElem?_eq_some_iff.1 hj).2] at this
  exact Va1.1 this
 unfold Cbb nL
 unfold nL at h
 rw [<- hsp, Pb2] at h
 rw [Mb7, Pb2]
 refine ⟨h.1, ?_, fun a ha b hb => ?_⟩
 ·rw [Ob9, Pbc]
  exact ⟨hhi, h.2.1⟩
 ·rcases List.mem_append.1 hb with hb | hb
  ·rw [List.mem_singleton.1 hb]
   exact hlo a ha
  ·exact h.2.2 a ha b hb
structure SSt where
 met : List (List Int)
 out : List (List Int)
def Qaa (t : aL) (s : SSt) (y : List Int) : SSt := if s.met.any (fun z => decide (y = z)) || s.out.any (fun z => decide (y = z)) then s else if wG t y then ⟨s.met ++ [y], s.out⟩ else ⟨s.met, Cbb s.out y⟩
def Hbw (t : aL) (s : SSt) (i : Nat) : SSt := (Gat t (atI (atI s.met (i : Int)) 0) (atI (atI s.met (i : Int)) 1)).foldl (Qaa t) s
structure SPre (t : aL) (x : List Int) (s : SSt) : Prop where
 base : x ∈ s.met
 nd : s.met.Nodup
 rch : ∀ y ∈ s.met, Iaj t x y /\ wG t y = true
 och : ∀ y ∈ s.out, Iaj t x y /\ wG t y = false
 srt : nL s.out
structure Xag (t : aL) (x : List Int) (i : Nat) (s : SSt) : Prop extends SPre t x s where
 le : i <= s.met.length
 cl : ∀ j, j < i -> ∀ y ∈ sN t (atI s.met (j : Int)), y ∈ s.met \/ y ∈ s.out
theorem Laf {t : aL} (ht : bI t = true) {x : List Int} (hx : eZ t.n x) {s : SSt} (h : SPre t x s) {y : List Int} (hy : Iaj t x y) :
  SPre t x (Qaa t s y) /\ (y ∈ (Qaa t s y).met \/ y ∈ (Qaa t s y).out) /\ (∃ m, (Qaa t s y).met = s.met ++ m) /\ (∀ z ∈ s.out, z ∈ (Qaa t s y).out) := by
 unfold Qaa
 by_cases hm : y ∈ s.met
 ·rw [Kae.2 hm, Bool.true_or, if_pos rfl]
  exact ⟨h, .inl hm, ⟨[], by simp⟩, fun z hz => hz⟩
 ·by_cases ho : y ∈ s.out
  ·rw [Kae.2 ho, Pb6, if_pos rfl]
   exact ⟨h, .inr ho, ⟨[], by simp⟩, fun z hz => hz⟩
  ·rw [Kad hm, Kad ho]
   simp only [Pbn, Mb6, if_false]
   cases hc : wG t y with
   | true =>
    simp only [if_true]
    refine ⟨⟨Mbz _ h.base, vQ h.nd hm, fun z hz => ?_, h.och, h.srt⟩, .inl (by simp), ⟨[y], rfl⟩, fun z hz => hz⟩
    rcases List.mem_append.1 hz with hz | hz
    ·exact h.rch z hz
    ·rw [List.mem_singleton.1 hz]; exact ⟨hy, hc⟩
   | false =>
    simp only [Mb6, if_false]
    refine ⟨⟨h.base, h.nd, h.rch, fun z hz => ?_, Vas h.srt (fun z hz => ((h.och z hz).1.inst ht hx).1) (hy.inst ht hx).1 ho⟩, .inr (Jaq.2 (.inr rfl)), ⟨[], by simp⟩, fun z hz => Jaq.2 (.inl hz)⟩
    rcases Jaq.1 hz with hz | rfl
    ·exact h.och z hz
    ·exact ⟨hy, hc⟩
theorem Lag {t : aL} (ht : bI t = true) {x : List Int} (hx : eZ t.n x) : ∀ {ys : List (List Int)} {s : SSt}, SPre t x s -> (∀ y ∈ ys, Iaj t x y) ->
  SPre t x (ys.foldl (Qaa t) s) /\ (∀ y ∈ ys, y ∈ (ys.foldl (Qaa t) s).met \/ y ∈ (ys.foldl (Qaa t) s).out) /\ (∃ m, (ys.foldl (Qaa t) s).met = s.met ++ m) /\ (∀ z ∈ s.out, z ∈ (ys.foldl (Qaa t) s).out)
 | [], s, h, _ => ⟨h, by simp, ⟨[], by simp⟩, fun z hz => hz⟩
 | y :: ys, s, h, hr => by
  obtain ⟨h1, h2, ⟨m, h3⟩, h4⟩ := Laf ht hx h (hr y Nbf)
  obtain ⟨k1, k2, ⟨m', k3⟩, k4⟩ := Lag ht hx (ys := ys) h1 fun z hz => hr z (Mb8 _ hz)
  rw [Ob4]
  refine ⟨k1, fun z hz => ?_, ⟨m ++ m', by rw [k3, h3, Mb7]⟩, fun z hz => k4 z (h4 z hz)⟩
  rcases List.mem_cons.1 hz with rfl | hz
  ·rcases h2 with h2 | h2
   ·exact .inl (by rw [k3]; exact Mbz _ h2)
   ·exact .inr (k4 _ h2)
  ·exact k2 z hz
theorem Za4 {α : Type} [Inhabited α] {l m : List α} {j : Nat} (h : j < l.length) : atI (l ++ m) (j : Int) = atI l (j : Int) := by
 rw [aY h, aY (by rw [Mb2]; omega), List.getElem_append_left h]
theorem Xag.step {t : aL} (ht : bI t = true) {x : List Int} (hx : eZ t.n x) {i : Nat} {s : SSt} (h : Xag t x i s) (hi : i < s.met.length) : Xag t x (i + 1) (Hbw t s i) := by
 have hzm := at_mem hi
 obtain ⟨hzr, hzc⟩ := h.rch _ hzm
 have hz2 := (hzr.inst ht hx).1
 unfold Hbw
 obtain ⟨k1, k2, ⟨m, k3⟩, k4⟩ := Lag ht hx (ys := Gat t (atI (atI s.met (i : Int)) 0) (atI (atI s.met (i : Int)) 1)) h.toSPre fun y hy => .step hzr hzc ((Faq hz2).1 hy).1
 refine ⟨k1, by rw [k3, Mb2]; omega, fun j hj y hy => ?_⟩
 have hjl : j < s.met.length := by omega
 rw [k3, Za4 hjl] at hy
 rcases Nbk j i with hji | hji
 ·rcases h.cl j hji y hy with h1 | h1
  ·exact .inl (by rw [k3]; exact Mbz _ h1)
  ·exact .inr (k4 y h1)
 ·obtain rfl : j = i := by omega
  by_cases e : y = atI s.met (j : Int)
  ·exact .inl (by rw [k3, e]; exact Mbz _ hzm)
  ·exact k2 y ((Faq hz2).2 ⟨hy, e⟩)
theorem Xag.start {t : aL} {x : List Int} (hc : wG t x = true) : Xag t x 0 ⟨[x], []⟩ := by
 have h1 : ∀ y ∈ [x], Iaj t x y /\ wG t y = true := fun y hy => by rw [List.mem_singleton.1 hy]; exact ⟨.base, hc⟩
 exact ⟨⟨by simp, by simp, h1, fun y hy => absurd hy (List.not_mem_nil), List.Pairwise.nil⟩, Obu _, fun j hj => absurd hj (Nat.not_lt_zero _)⟩
theorem Xag.done {t : aL} (ht : bI t = true) {x : List Int} (hx : eZ t.n x) {s : SSt} (h : Xag t x s.met.length s) : s.out = sI t x := by
 have hall : ∀ y, Iaj t x y -> y ∈ s.met \/ y ∈ s.out := by
  intro y hy
  induction hy with
  | base => exact .inl h.base
  | step _ hc hy ih =>
   rcases ih with h1 | h1
   ·obtain ⟨j, hj, e⟩ := List.mem_iff_getElem.1 h1
    refine h.cl j hj _ ?_
    rw [aY hj, e]
    exact hy
   ·rw [(h.och _ h1).2] at hc; cases hc
 refine yR h.srt (Fax t x) fun y => ?_
 rw [Iae ht hx]
 refine ⟨h.och y, fun ⟨h1, h2⟩ => ?_⟩
 rcases hall y h1 with h3 | h3
 ·rw [(h.rch y h3).2] at h2; cases h2
 ·exact h3
theorem SPre.len {t : aL} (ht : bI t = true) {x : List Int} (hx : eZ t.n x) {s : SSt} (h : SPre t x s) : s.met.length <= 30 /\ s.out.length <= 30 := by
 have h1 := zW (aZ ht) h.nd fun y hy => (h.rch y hy).1.inst ht hx
 have h2 := zW (aZ ht) (Eae h.srt) fun y hy => (h.och y hy).1.inst ht hx
 exact ⟨h1, h2⟩
noncomputable def wI (t : aL) (x : List Int) : Bool := decide ((0 : Int) < ((sI t x).length : Nat))
noncomputable def aH (t : aL) : List (List Int) := (cZ t.rows).filter fun x => !wI t x
theorem Aan {t : aL} (ht : bI t = true) {x : List Int} (h : x ∈ cZ t.rows) : eZ t.n x /\ wG t x = true := by
 obtain ⟨-, -, h1, h2, h3⟩ := nC ht h
 exact ⟨⟨h1, h2⟩, by simp [wG, h3]⟩
end Go.Proofs.YtpgnlmfmlffjcaaGreat.Rf

namespace Go.Proofs.YtpgnlmfmlffjcaaGreat.Rf
set_option linter.unusedVariables false
set_option linter.unusedSimpArgs false
def nA (kept : List (List Int)) (J : List (List D)) (rest : List (List Int)) : D := .rows 1 (kept.map Enc.enc ++ J ++ rest.map Enc.enc)
theorem Wav (l : List (List Int)) {i : Nat} (h : i <= l.length) : rL l = nA (l.take i) [] (l.drop i) := by
 unfold nA rL
 rw [Nbo, <- Obo, Obp]
 rfl
theorem Nad (kept : List (List Int)) (J : List (List D)) (y : List Int) (rest : List (List Int)) : nA kept J (y :: rest) = nA kept (J ++ [Enc.enc y]) rest := by
 unfold nA
 simp [Mb7]
theorem Ja1 {kept : List (List Int)} {J : List (List D)} {rest : List (List Int)} {n : Int} (h : (kept.length : Int) + J.length + rest.length = n) : aO.len.run [nA kept J rest] = some [i64 n] := by
 subst h
 unfold nA
 simp only [aO.run, Mb2, Nbb]
 rfl
theorem Ja2 {kept : List (List Int)} {J : List (List D)} {rest : List (List Int)} {k : Int} (h0 : 0 <= k) (h : k < (kept.length : Int) + J.length + rest.length) : aO.inb.run [nA kept J rest, i64 k] = some [] := by
 unfold nA
 show (if _ then _ else _) = _
 rw [if_pos]
 simp only [Mb2, Nbb]
 omega
theorem Waw {kept : List (List Int)} {J : List (List D)} {y : List Int} {rest : List (List Int)} {k : Int} (h : (kept.length : Int) + J.length = k) : (kept.map Enc.enc ++ J ++ (y :: rest).map Enc.enc)[k.toNat]? = some [rL y] := by
 rw [Nbh (by simp; omega)]
 simp only [Mb2, Nbb]
 rw [show k.toNat - (kept.length + J.length) = 0 by omega]
 rfl
theorem Rac {kept : List (List Int)} {J : List (List D)} {y : List Int} {rest : List (List Int)} {k : Int} (h : (kept.length : Int) + J.length = k) : (aO.row 1 0 [false]).run [nA kept J (y :: rest), i64 k] = some [rL y] := by
 unfold nA
 show (if _ then _ else _) = _
 rw [if_pos ⟨rfl, by omega⟩, Waw h]
 rfl
theorem Nae {kept : List (List Int)} {J : List (List D)} {y : List Int} {rest : List (List Int)} {k : Int} (h : (kept.length : Int) + J.length = k) : (aO.set 1 0 1).run [nA kept J (y :: rest), i64 k, .hole] = some [nA kept (J ++ [[.hole]]) rest] := by
 unfold nA
 show (if _ then _ else _) = _
 rw [if_pos ⟨rfl, by omega⟩, Waw h]
 show some _ = some _
 congr 2
 rw [List.set_append_right _ _ (by simp; omega)]
 simp only [Mb2, Nbb]
 rw [show k.toNat - (kept.length + J.length) = 0 by omega]
 simp
theorem Zan {kept : List (List Int)} {j : List D} {J : List (List D)} {y : List Int} {rest : List (List Int)} {k : Int} (h : (kept.length : Int) = k) (hj : j.length = 1) : (aO.set 1 0 1).run [nA kept (j :: J) rest, i64 k, rL y] = some [nA (kept ++ [y]) J rest] := by
 unfold nA
 have e : (kept.map Enc.enc ++ (j :: J) ++ rest.map Enc.enc)[k.toNat]? = some j := by
  rw [Mb7, Nbh (by simp; omega)]
  simp only [Nbb]
  rw [show k.toNat - kept.length = 0 by omega]
  rfl
 show (if _ then _ else _) = _
 rw [if_pos ⟨rfl, by omega⟩, e]
 dsimp only
 rw [if_pos ⟨by rw [hj]; exact Nbd _, rfl⟩]
 have e2 : j.take 0 ++ [rL y] ++ j.drop (0 + 1) = [rL y] := by
  match j, hj with
  | [d], _ => rfl
 rw [e2, Mb7, List.set_append_right _ _ (by simp; omega)]
 simp only [Nbb]
 rw [show k.toNat - kept.length = 0 by omega]
 simp [Enc.enc]
theorem Zam {kept : List (List Int)} {J : List (List D)} {n k : Int} (h : (kept.length : Int) = k) (hn : (kept.length : Int) + J.length = n) : ∃ d, (aO.sub 1 false).run [nA kept J [], i64 k, i64 n] = some [d] := by
 unfold nA
 exact ⟨_, if_pos ⟨rfl, by simp, by omega, by omega, by simp; omega⟩⟩
theorem Zap {kept : List (List Int)} {J : List (List D)} {k : Int} (h : (kept.length : Int) = k) : (aO.clr 1).run [nA kept J [], i64 k] = some [nA kept (J.map fun r => r.map fun _ => .hole) []] := by
 unfold nA
 show (if _ then _ else _) = _
 rw [if_pos ⟨rfl, by omega⟩]
 have e : k.toNat = (kept.map (Enc.enc (α := List Int))).length := by simp; omega
 rw [e]
 simp
theorem Zao {kept : List (List Int)} {J : List (List D)} {k : Int} (h : (kept.length : Int) = k) : (aO.sub 1 false).run [nA kept J [], i64 0, i64 k] = some [rL kept] := by
 unfold nA
 show (if _ then _ else _) = _
 rw [if_pos ⟨rfl, by simp, by omega, by omega, by simp; omega⟩]
 have e : k.toNat = (kept.map (Enc.enc (α := List Int))).length := by simp; omega
 rw [e]
 simp [rL]
 rfl
theorem Ta3 : ∀ (l : List (List Int)) (a b : Nat), l.length <= a -> (∀ x ∈ l, x.length <= b) -> szL (szL fun _ => 0) l <= a * (1 + b)
 | [], a, b, _, _ => by simp [szL]
 | x :: l, 0, b, h1, _ => by simp at h1
 | x :: l, a + 1, b, h1, h2 => by
  rw [Ias, nP]
  have := Ta3 l a b (by simpa using h1) fun y hy => h2 y (Mb8 _ hy)
  have := h2 x Nbf
  rw [Nat.succ_mul]
  omega
theorem Cbp {l : List (List Int)} (h : szL (szL fun _ => 0) l <= 1000000) : ctL (ctL fun _ => 1) l <= 1125899906842624 := by
 have := Iaa (c := (ctL (fun _ => 1))) (f := (szL (fun _ => 0))) (m := 16) (by omega) (fun xs => Nb4 (Iaa (c := (fun _ => 1)) (f := (fun _ => 0)) (m := 16) (by omega) (fun _ => by simp) xs) (Nat.le_add_left _ _)) l
 omega
theorem Bau {t : aL} (ht : bI t = true) : (cZ t.rows).length <= 30 := zW (aZ ht) (Bat ..) fun _ hy => (Aan ht hy).1
end Go.Proofs.YtpgnlmfmlffjcaaGreat.Rf

namespace Go.Proofs.YtpgnlmfmlffjcaaGreat.Rf
set_option linter.unusedVariables false
set_option linter.unusedSimpArgs false
def GOk (G : List (List Int)) : Prop := ∀ r ∈ G, ∀ x ∈ r, InB G x
inductive Rch (G : List (List Int)) (a : Int) : Int -> Prop
 | refl : Rch G a a
 | step {b c : Int} : Rch G a b -> c ∈ atI G b -> Rch G a c
theorem GOk.out {G : List (List Int)} (hg : GOk G) {b c : Int} (hb : InB G b) (hc : c ∈ atI G b) : InB G c := hg _ (fQ hb) c hc
theorem Rch.inb {G : List (List Int)} (hg : GOk G) {a b : Int} (ha : InB G a) (h : Rch G a b) : InB G b := by
 induction h with
 | refl => exact ha
 | step _ hc ih => exact hg.out ih hc
theorem Rch.trans {G : List (List Int)} {a b c : Int} (h : Rch G a b) (h2 : Rch G b c) : Rch G a c := by
 induction h2 with
 | refl => exact h
 | step _ hc ih => exact .step ih hc
def nums (n : Nat) : List Int := (Pbp n).map fun k : Nat => (k : Int)
theorem tZ (n : Nat) : nums (n + 1) = nums n ++ [(n : Int)] := by simp [nums, Ob5]
theorem bY (n : Nat) : (nums n).length = n := by simp [nums]
theorem vP {n : Nat} {x : Int} : x ∈ nums n ↔ 0 <= x /\ x < n := by
 unfold nums
 rw [List.mem_map]
 constructor
 ·rintro ⟨k, hk, rfl⟩
  rw [Obx] at hk
  omega
 ·rintro ⟨h1, h2⟩
  exact ⟨x.toNat, List.mem_range.2 (by omega), by omega⟩
theorem Eap (n : Nat) : iR (nums n) := by
 unfold nums iR
 rw [Pbs]
 exact List.pairwise_lt_range.imp fun {a b} h => by omega
theorem tJ {l : List Int} (h : iR l) : l.Nodup := by
 unfold iR at h
 exact h.imp fun {a b} hab e => by omega
open Classical in
noncomputable def Ca0 (G : List (List Int)) (a j : Int) : Bool := decide (Rch G a j)
theorem Dai {G : List (List Int)} {a j : Int} : Ca0 G a j = true ↔ Rch G a j := by
 classical
 unfold Ca0
 exact decide_eq_true_iff
noncomputable def kW (G : List (List Int)) (a : Int) : List Int := (nums G.length).filter (Ca0 G a)
theorem xH (G : List (List Int)) (a : Int) : iR (kW G a) := by
 unfold kW iR
 exact List.Pairwise.filter _ (Eap _)
theorem nS {G : List (List Int)} (hg : GOk G) {a j : Int} (ha : InB G a) : j ∈ kW G a ↔ Rch G a j := by
 unfold kW
 rw [List.mem_filter, Dai, vP]
 exact ⟨fun h => h.2, fun h => ⟨h.inb hg ha, h⟩⟩
theorem vN (G : List (List Int)) (a : Int) : (kW G a).length <= G.length := by
 have := Obq (Ca0 G a) (nums G.length)
 rw [bY] at this
 exact this
theorem Ia6 {G : List (List Int)} {a j : Int} (h : j ∈ kW G a) : InB G j := by
 unfold kW at h
 exact vP.1 (List.mem_filter.1 h).1
structure GSt where
 marks : List Bool
 todo : List Int
def GSt.left (s : GSt) : Nat := s.todo.length + s.marks.countP fun b => !b
def gI (s : GSt) (c : Int) : GSt := if atI s.marks c then s else ⟨fI s.marks c true, s.todo ++ [c]⟩
def gO (G : List (List Int)) (s : GSt) : GSt := ⟨((atI G (atI s.todo 0)).foldl gI s).marks, ((atI G (atI s.todo 0)).foldl gI s).todo.drop 1⟩
structure GPre (G : List (List Int)) (a : Int) (s : GSt) : Prop where
 len : s.marks.length = G.length
 rch : ∀ j, InB G j -> atI s.marks j = true -> Rch G a j
 sta : InB G a
 st : atI s.marks a = true
 tm : ∀ x ∈ s.todo, InB G x /\ atI s.marks x = true
 cnt : s.left <= G.length
structure GInv (G : List (List Int)) (a : Int) (s : GSt) : Prop extends GPre G a s where
 cl : ∀ j, InB G j -> atI s.marks j = true -> j ∉ s.todo -> ∀ c ∈ atI G j, atI s.marks c = true
theorem oV {α : Type} [Inhabited α] {xs : List α} {j k : Int} {x : α} (hj : 0 <= j) (hk : 0 <= k) (h : j ≠ k) : atI (fI xs k x) j = atI xs j := by
 have : k.toNat ≠ j.toNat := by omega
 unfold atI fI
 rw [Mb4, Mb4, List.getElem?_set_ne this]
theorem oU {α : Type} [Inhabited α] {xs : List α} {k : Int} {x : α} (h : InB xs k) : atI (fI xs k x) k = x := sO.1 h
theorem xW : ∀ {l : List Bool} {i : Nat}, i < l.length -> l.getD i default = false -> (l.set i true).countP (fun b => !b) + 1 = l.countP fun b => !b
 | [], i, h, _ => by simp at h
 | b :: l, 0, _, h => by
  have hb : b = false := h
  subst hb
  simp
 | b :: l, i + 1, h, h2 => by
  have := xW (l := l) (i := i) (by simpa using h) h2
  simp only [List.set_cons_succ, List.countP_cons]
  omega
theorem Va5 {G : List (List Int)} {a : Int} {s : GSt} (h : GPre G a s) {c : Int} (hc : InB G c) (hr : Rch G a c) :
  GPre G a (gI s c) /\ (∀ j, InB G j -> atI s.marks j = true -> atI (gI s c).marks j = true) /\ atI (gI s c).marks c = true /\ (∃ w, (gI s c).todo = s.todo ++ w) /\ (∀ j, InB G j -> atI (gI s c).marks j = true -> atI s.marks j = true \/ j ∈ (gI s c).todo) /\ (gI s c).left = s.left := by
 unfold gI
 cases hm : atI s.marks c with
 | true => exact ⟨h, fun _ _ hj => hj, hm, ⟨[], by simp⟩, fun _ _ hj => .inl hj, rfl⟩
 | false =>
  have hcm : InB s.marks c := by unfold InB at hc ⊢; rw [h.len]; exact hc
  have hmono : ∀ j, InB G j -> atI s.marks j = true -> atI (fI s.marks c true) j = true := by
   intro j hj hj2
   by_cases e : j = c
   ·subst e; exact oU hcm
   ·rw [oV hj.1 hc.1 e]; exact hj2
  have hcnt : GSt.left ⟨fI s.marks c true, s.todo ++ [c]⟩ = s.left := by
   unfold GSt.left fI
   have := xW (l := s.marks) (i := c.toNat) hcm.lt hm
   simp only [Mb2, Nbc, Nbj]
   omega
  simp only [Mb6, if_false]
  refine ⟨⟨by dsimp only; rw [vJ]; exact h.len, fun j hj hj2 => ?_, h.sta, hmono a h.sta h.st, fun x hx => ?_, by rw [hcnt]; exact h.cnt⟩, hmono, oU hcm, ⟨[c], rfl⟩, fun j hj hj2 => ?_, hcnt⟩
  ·by_cases e : j = c
   ·subst e; exact hr
   ·dsimp only at hj2
    rw [oV hj.1 hc.1 e] at hj2
    exact h.rch j hj hj2
  ·rcases List.mem_append.1 hx with hx | hx
   ·exact ⟨(h.tm x hx).1, hmono x (h.tm x hx).1 (h.tm x hx).2⟩
   ·rw [Mb9] at hx
    subst hx
    exact ⟨hc, oU hcm⟩
  ·by_cases e : j = c
   ·subst e; exact .inr (by simp)
   ·try dsimp only at hj2
    rw [oV hj.1 hc.1 e] at hj2
    exact .inl hj2
theorem Oa5 {G : List (List Int)} {a : Int} : ∀ {ys : List Int} {s : GSt}, GPre G a s -> (∀ c ∈ ys, InB G c /\ Rch G a c) ->
  GPre G a (ys.foldl gI s) /\ (∀ j, InB G j -> atI s.marks j = true -> atI (ys.foldl gI s).marks j = true) /\ (∀ c ∈ ys, atI (ys.foldl gI s).marks c = true) /\ (∃ w, (ys.foldl gI s).todo = s.todo ++ w) /\ (∀ j, InB G j -> atI (ys.foldl gI s).marks j = true -> atI s.marks j = true \/ j ∈ (ys.foldl gI s).todo) /\ (ys.foldl gI s).left = s.left
 | [], s, h, _ => ⟨h, fun _ _ hj => hj, fun _ hc => (by cases hc), ⟨[], by simp⟩, fun _ _ hj => .inl hj, rfl⟩
 | y :: ys, s, h, hy => by
  obtain ⟨h1, h2⟩ := hy y Nbf
  obtain ⟨k1, k2, k3, ⟨w1, k4⟩, k5, k6⟩ := Va5 h h1 h2
  obtain ⟨l1, l2, l3, ⟨w2, l4⟩, l5, l6⟩ := Oa5 (ys := ys) k1 fun c hc => hy c (Mb8 _ hc)
  rw [Ob4]
  refine ⟨l1, fun j hj hj2 => l2 j hj (k2 j hj hj2), fun c hc => ?_, ⟨w1 ++ w2, by rw [l4, k4, Mb7]⟩, fun j hj hj2 => ?_, by rw [l6, k6]⟩
  ·rcases List.mem_cons.1 hc with hc | hc
   ·subst hc; exact l2 c h1 k3
   ·exact l3 c hc
  ·rcases l5 j hj hj2 with h3 | h3
   ·rcases k5 j hj h3 with h4 | h4
    ·exact .inl h4
    ·exact .inr (by rw [l4]; exact Mbz _ h4)
   ·exact .inr h3
theorem GInv.step {G : List (List Int)} (hg : GOk G) {a : Int} {s : GSt} (h : GInv G a s) (hw : s.todo ≠ []) : GInv G a (gO G s) /\ (gO G s).left + 1 = s.left /\ GPre G a ((atI G (atI s.todo 0)).foldl gI s) := by
 have hb : InB s.todo 0 := by
  have := List.length_pos_iff.2 hw
  unfold InB; omega
 obtain ⟨z1, z2⟩ := h.tm _ (fQ hb)
 have zr := h.rch _ z1 z2
 have hys : ∀ c ∈ atI G (atI s.todo 0), InB G c /\ Rch G a c := fun c hc => ⟨hg.out z1 hc, .step zr hc⟩
 obtain ⟨l1, l2, l3, ⟨w, l4⟩, l5, l6⟩ := Oa5 h.toGPre hys
 obtain ⟨t, ht⟩ : ∃ t, s.todo = atI s.todo 0 :: t := by
  cases e : s.todo with
  | nil => exact absurd e hw
  | cons x t => exact ⟨t, rfl⟩
 unfold gO
 generalize atI s.todo 0 = z at *
 generalize (atI G z).foldl gI s = u at *
 rw [ht, Obv] at l4
 have hleft : GSt.left ⟨u.marks, u.todo.drop 1⟩ + 1 = s.left := by
  rw [<- l6]
  unfold GSt.left
  rw [l4]
  simp only [List.drop_succ_cons, List.drop_zero, Nbc]
  omega
 refine ⟨⟨⟨l1.len, l1.rch, l1.sta, l1.st, fun x hx => l1.tm x (Ob3 hx), by have := h.cnt; omega⟩, fun j hj hj2 hj3 c hc => ?_⟩, hleft, l1⟩
 dsimp only at hj2 hj3 ⊢
 by_cases e : j = z
 ·subst e
  exact l3 c hc
 ·have hju : j ∉ u.todo := by
   rw [l4] at hj3 ⊢
   intro hm
   rcases List.mem_cons.1 hm with h1 | h1
   ·exact e h1
   ·exact hj3 (by simpa using h1)
  rcases l5 j hj hj2 with h1 | h1
  ·have h2 : j ∉ s.todo := fun hm => hju (by
    rw [ht] at hm
    rw [l4]
    rcases List.mem_cons.1 hm with h1 | h1
    ·exact absurd h1 e
    ·exact Mb8 _ (Mbz _ h1))
   exact l2 c (hg.out hj hc) (h.cl j hj h1 h2 c hc)
  ·exact absurd h1 hju
theorem Pah (n : Nat) : (Nbg n false).countP (fun b => !b) = n := by
 induction n with
 | zero => rfl
 | succ n ih => rw [List.replicate_succ, List.countP_cons, ih]; rfl
theorem GInv.start {G : List (List Int)} {a : Int} (ha : InB G a) : GInv G a ⟨fI (Nbg G.length false) a true, [a]⟩ := by
 have hl : InB (Nbg G.length false) a := by unfold InB at ha ⊢; rw [Obh]; exact ha
 have hf : (Nbg G.length false).getD a.toNat default = false := by
  rw [Mb4, Mb0 hl.lt, List.getElem_replicate]
  rfl
 have hoth : ∀ j, InB G j -> atI (fI (Nbg G.length false) a true) j = true -> j = a := by
  intro j hj hj2
  by_cases e : j = a
  ·exact e
  ·rw [oV hj.1 ha.1 e] at hj2
   have hlj : InB (Nbg G.length false) j := by unfold InB at hj ⊢; rw [Obh]; exact hj
   unfold atI at hj2
   rw [Mb4, Mb0 hlj.lt, List.getElem_replicate] at hj2
   cases hj2
 refine ⟨⟨by dsimp only; rw [vJ, Obh], fun j hj hj2 => by rw [hoth j hj hj2]; exact .refl, ha, oU hl, fun x hx => ?_, ?_⟩, fun j hj hj2 hj3 => absurd (by rw [hoth j hj hj2]; exact List.mem_singleton.2 rfl) hj3⟩
 ·rw [Mb9] at hx
  subst hx
  exact ⟨ha, oU hl⟩
 ·unfold GSt.left fI
  have := xW (l := Nbg G.length false) (i := a.toNat) hl.lt hf
  rw [Pah] at this
  simp only [Nbc, Nbj]
  omega
theorem GInv.done {G : List (List Int)} (hg : GOk G) {a : Int} {s : GSt} (h : GInv G a s) (hw : s.todo = []) {j : Int} (hj : InB G j) : atI s.marks j = Ca0 G a j := by
 have hall : ∀ b, Rch G a b -> InB G b /\ atI s.marks b = true := by
  intro b hb
  induction hb with
  | refl => exact ⟨h.sta, h.st⟩
  | step _ hc ih => exact ⟨hg.out ih.1 hc, h.cl _ ih.1 ih.2 (by rw [hw]; simp) _ hc⟩
 rw [Pb3, Dai]
 exact ⟨h.rch j hj, fun hr => (hall j hr).2⟩
structure HSt where
 met : List Int
 que : List Int
def hI (s : HSt) (c : Int) : HSt := if lT s.que c then s else ⟨Oar s.met c, s.que ++ [c]⟩
theorem lS {xs : List Int} {n : Int} : lT xs n = true ↔ n ∈ xs := by
 unfold lT
 rw [Pbw]
 constructor
 ·rintro ⟨x, hx, e⟩
  rw [<- beq_iff_eq.1 e]
  exact hx
 ·exact fun h => ⟨n, h, by simp⟩
structure HPre (G : List (List Int)) (a : Int) (s : HSt) : Prop where
 rch : ∀ x ∈ s.que, Rch G a x
 nd : s.que.Nodup
 srt : iR s.met
 eq : ∀ x, x ∈ s.met ↔ x ∈ s.que
 sta : InB G a
 st : a ∈ s.que
structure Xak (G : List (List Int)) (a : Int) (i : Nat) (s : HSt) : Prop extends HPre G a s where
 le : i <= s.que.length
 cl : ∀ k : Nat, k < i -> ∀ c ∈ atI G (atI s.que (k : Int)), c ∈ s.que
theorem HPre.len {G : List (List Int)} (hg : GOk G) {a : Int} {s : HSt} (h : HPre G a s) : s.que.length <= G.length /\ s.met.length <= G.length := by
 have h1 : ∀ x ∈ s.que, x ∈ nums G.length := fun x hx => vP.2 ((h.rch x hx).inb hg h.sta)
 have h2 := jY h.nd h1
 have h3 := jY (tJ h.srt) fun x hx => h1 x ((h.eq x).1 hx)
 rw [bY] at h2 h3
 exact ⟨h2, h3⟩
theorem Vaz {G : List (List Int)} {a : Int} {s : HSt} (h : HPre G a s) {c : Int} (hr : Rch G a c) : HPre G a (hI s c) /\ c ∈ (hI s c).que /\ ∃ w, (hI s c).que = s.que ++ w := by
 unfold hI
 cases hm : lT s.que c with
 | true => exact ⟨h, lS.1 hm, [], by simp⟩
 | false =>
  have hn : c ∉ s.que := fun e => by rw [lS.2 e] at hm; cases hm
  simp only [Mb6, if_false]
  refine ⟨⟨fun x hx => ?_, ?_, xJ h.srt, fun x => ?_, h.sta, Mbz _ h.st⟩, by simp, [c], rfl⟩
  ·rcases List.mem_append.1 hx with hx | hx
   ·exact h.rch x hx
   ·rw [List.mem_singleton.1 hx]; exact hr
  ·exact List.nodup_append.2 ⟨h.nd, by simp, fun x hx y hy e => hn (by rw [Mb9] at hy; rw [<- hy, <- e]; exact hx)⟩
  ·rw [Daj, h.eq]
   simp
theorem Va0 {G : List (List Int)} {a : Int} : ∀ {ys : List Int} {s : HSt}, HPre G a s -> (∀ c ∈ ys, Rch G a c) -> HPre G a (ys.foldl hI s) /\ (∀ c ∈ ys, c ∈ (ys.foldl hI s).que) /\ ∃ w, (ys.foldl hI s).que = s.que ++ w
 | [], s, h, _ => ⟨h, fun _ hc => (by cases hc), [], by simp⟩
 | y :: ys, s, h, hy => by
  obtain ⟨k1, k2, w1, k3⟩ := Vaz h (hy y Nbf)
  obtain ⟨l1, l2, w2, l3⟩ := Va0 (ys := ys) k1 fun c hc => hy c (Mb8 _ hc)
  rw [Ob4]
  refine ⟨l1, fun c hc => ?_, w1 ++ w2, by rw [l3, k3, Mb7]⟩
  rcases List.mem_cons.1 hc with hc | hc
  ·subst hc
   rw [l3]
   exact Mbz _ k2
  ·exact l2 c hc
theorem Xak.step {G : List (List Int)} {a : Int} {i : Nat} {s : HSt} (h : Xak G a i s) (hi : i < s.que.length) : Xak G a (i + 1) ((atI G (atI s.que (i : Int))).foldl hI s) := by
 have hz := h.rch _ (at_mem hi)
 obtain ⟨l1, l2, w, l3⟩ := Va0 h.toHPre (ys := atI G (atI s.que (i : Int))) fun c hc => .step hz hc
 generalize he : (atI G (atI s.que (i : Int))).foldl hI s = u at *
 have hat : ∀ k : Nat, k < s.que.length -> atI u.que (k : Int) = atI s.que (k : Int) := by
  intro k hk
  rw [l3, aY (by rw [Mb2]; omega), aY hk, List.getElem_append_left hk]
 refine ⟨l1, by rw [l3, Mb2]; omega, fun k hk c hc => ?_⟩
 rw [hat k (by omega)] at hc
 rcases Nbk k i with h1 | h1
 ·rw [l3]
  exact Mbz _ (h.cl k h1 c hc)
 ·obtain rfl : k = i := by omega
  exact l2 c hc
theorem Xak.start {G : List (List Int)} {a : Int} (ha : InB G a) : Xak G a 0 ⟨[a], [a]⟩ :=
 ⟨⟨fun x hx => by rw [List.mem_singleton.1 hx]; exact .refl, by simp, by simp [iR], fun x => Iff.rfl, ha, by simp⟩, Obu _, fun k hk => absurd hk (Nat.not_lt_zero _)⟩
theorem Xak.done {G : List (List Int)} (hg : GOk G) {a : Int} {s : HSt} (h : Xak G a s.que.length s) : s.met = kW G a := by
 refine vK h.srt (xH _ _) fun x => ?_
 rw [h.eq, nS hg h.sta]
 refine ⟨h.rch x, fun hr => ?_⟩
 induction hr with
 | refl => exact h.st
 | step _ hc ih =>
  obtain ⟨k, hk, e⟩ := List.mem_iff_getElem.1 ih
  exact h.cl k hk _ (by rw [aY hk, e]; exact hc)
end Go.Proofs.YtpgnlmfmlffjcaaGreat.Rf

namespace Go.Proofs.YtpgnlmfmlffjcaaGreat.Rf
set_option linter.unusedVariables false
set_option linter.unusedSimpArgs false
noncomputable def wV (G : List (List Int)) (a : Int) : List Int := (kW G a).filter fun j => Ca0 G j a
theorem kQ {G : List (List Int)} (hg : GOk G) {a j : Int} (ha : InB G a) : j ∈ wV G a ↔ Rch G a j /\ Rch G j a := by
 unfold wV
 rw [List.mem_filter, Dai, nS hg ha]
theorem xP (G : List (List Int)) (a : Int) : iR (wV G a) := List.Pairwise.filter _ (xH G a)
theorem uK {G : List (List Int)} (hg : GOk G) {a : Int} (ha : InB G a) : a ∈ wV G a := (kQ hg ha).2 ⟨.refl, .refl⟩
theorem Ea6 {G : List (List Int)} (hg : GOk G) {a j : Int} (ha : InB G a) (hj : j ∈ wV G a) : wV G j = wV G a := by
 obtain ⟨h1, h2⟩ := (kQ hg ha).1 hj
 refine vK (xP _ _) (xP _ _) fun x => ?_
 rw [kQ hg (h1.inb hg ha), kQ hg ha]
 exact ⟨fun h => ⟨h1.trans h.1, h.2.trans h2⟩, fun h => ⟨h2.trans h.1, h.2.trans h1⟩⟩
theorem Jav (G : List (List Int)) (a : Int) : (wV G a).length <= G.length := Nb4 (Obq _ _) (vN G a)
noncomputable def jA (G : List (List Int)) : List (List Int) := ((nums G.length).filter fun i => atI (wV G i) 0 == i).map (wV G)
theorem Ya4 {l : List Int} (h : l ≠ []) : atI l 0 ∈ l := fQ (by have := List.length_pos_iff.2 h; unfold InB; omega)
theorem iI {G : List (List Int)} {C : List Int} (h : C ∈ jA G) : ∃ a, InB G a /\ C = wV G a /\ atI C 0 = a := by
 unfold jA at h
 obtain ⟨a, ha, rfl⟩ := List.mem_map.1 h
 obtain ⟨h1, h2⟩ := List.mem_filter.1 ha
 exact ⟨a, vP.1 h1, rfl, beq_iff_eq.1 h2⟩
theorem Bas {G : List (List Int)} (hg : GOk G) {j : Int} (hj : InB G j) : ∃ C ∈ jA G, j ∈ C := by
 have hs := uK hg hj
 have hm := Ya4 (List.ne_nil_of_mem hs)
 have hi := ((kQ hg hj).1 hm).1.inb hg hj
 have he := Ea6 hg hj hm
 refine ⟨wV G (atI (wV G j) 0), List.mem_map.2 ⟨_, List.mem_filter.2 ⟨vP.2 hi, ?_⟩, rfl⟩, by rw [he]; exact hs⟩
 rw [he]
 simp
theorem Baq {G : List (List Int)} (hg : GOk G) {C D : List Int} (hC : C ∈ jA G) (hD : D ∈ jA G) {j : Int} (h1 : j ∈ C) (h2 : j ∈ D) : C = D := by
 obtain ⟨a, ha, rfl, -⟩ := iI hC
 obtain ⟨b, hb, rfl, -⟩ := iI hD
 rw [<- Ea6 hg ha h1, <- Ea6 hg hb h2]
theorem Nah (G : List (List Int)) : (jA G).Nodup := by
 unfold jA List.Nodup
 rw [Pbs]
 refine List.Pairwise.imp_of_mem (fun {a b} ha hb hab e => ?_) (List.Pairwise.filter _ (Eap G.length))
 have h1 := beq_iff_eq.1 (List.mem_filter.1 ha).2
 have h2 := beq_iff_eq.1 (List.mem_filter.1 hb).2
 rw [e, h2] at h1
 omega
theorem Bar (G : List (List Int)) : (jA G).length <= G.length := by
 unfold jA
 rw [Nbb]
 have := Obq (fun i => atI (wV G i) 0 == i) (nums G.length)
 rw [bY] at this
 exact this
structure CSt where
 rest : List (List Int)
 out : List (List Int)
structure Fa9 (G : List (List Int)) (s : CSt) : Prop where
 nd : (s.rest ++ s.out).Nodup
 mem : ∀ C, C ∈ s.rest ++ s.out ↔ C ∈ jA G
 cl : ∀ C ∈ s.out, ∀ j ∈ C, ∀ k, Rch G j k -> ∃ D ∈ s.out, k ∈ D
def kV (out : List (List Int)) (j : Int) : Bool := out.any fun D => lT D j
theorem Naa {out : List (List Int)} {j : Int} : kV out j = true ↔ ∃ D ∈ out, j ∈ D := by
 unfold kV
 rw [Pbw]
 constructor
 ·rintro ⟨D, h1, h2⟩; exact ⟨D, h1, lS.1 h2⟩
 ·rintro ⟨D, h1, h2⟩; exact ⟨D, h1, lS.2 h2⟩
noncomputable def pK (G : List (List Int)) (out : List (List Int)) (C : List Int) : Bool := (kW G (atI C 0)).all fun j => kV out j || lT C j
theorem Fac {G : List (List Int)} (hg : GOk G) {out : List (List Int)} {C : List Int} (hC : InB G (atI C 0)) : pK G out C = true ↔ ∀ j, Rch G (atI C 0) j -> (∃ D ∈ out, j ∈ D) \/ j ∈ C := by
 unfold pK
 rw [Nbq]
 constructor
 ·intro h j hj
  have := h j ((nS hg hC).2 hj)
  rw [Oba, Naa, lS] at this
  exact this
 ·intro h j hj
  rw [Oba, Naa, lS]
  exact h j ((nS hg hC).1 hj)
theorem Fa9.sub {G : List (List Int)} {s : CSt} (h : Fa9 G s) {C : List Int} (hC : C ∈ s.rest) : C ∈ jA G := (h.mem C).1 (Mbz _ hC)
theorem Va6 {G : List (List Int)} (hg : GOk G) {s : CSt} (h : Fa9 G s) : ∀ (n : Nat) (C : List Int), C ∈ s.rest -> (kW G (atI C 0)).length <= n -> ∃ D ∈ s.rest, pK G s.out D = true
 | n, C, hC, hn => by
  obtain ⟨a, ha, he, hea⟩ := iI (h.sub hC)
  have hC0 : InB G (atI C 0) := by rw [hea]; exact ha
  by_cases hf : pK G s.out C = true
  ·exact ⟨C, hC, hf⟩
  rw [Fac hg hC0] at hf
  obtain ⟨j, hf⟩ := Classical.not_forall.1 hf
  obtain ⟨hj, hf⟩ := Classical.not_imp.1 hf
  rw [not_or] at hf
  obtain ⟨D, hD, hjD⟩ := Bas hg (hj.inb hg hC0)
  have hDr : D ∈ s.rest := by
   rcases List.mem_append.1 ((h.mem D).2 hD) with h1 | h1
   ·exact h1
   ·exact absurd ⟨D, h1, hjD⟩ hf.1
  obtain ⟨b, hb, hDe, heb⟩ := iI hD
  have hD0 : InB G (atI D 0) := by rw [heb]; exact hb
  have hjb := (kQ hg hb).1 (by rw [<- hDe]; exact hjD)
  rw [<- heb] at hjb
  have hna : ¬ Rch G (atI D 0) (atI C 0) := fun hr => hf.2 (by
   rw [he, kQ hg ha, <- hea]
   exact ⟨hj, hjb.2.trans hr⟩)
  have hlt : (kW G (atI D 0)).length < (kW G (atI C 0)).length := by
   have hmem : atI C 0 ∈ kW G (atI C 0) := (nS hg hC0).2 .refl
   have h1 := jY (l := kW G (atI D 0)) (m := (kW G (atI C 0)).erase (atI C 0)) (tJ (xH _ _)) fun x hx => by
    have hx2 := (nS hg hD0).1 hx
    refine (List.mem_erase_of_ne fun e => hna ?_).2 ((nS hg hC0).2 ((hj.trans hjb.2).trans hx2))
    rw [<- e]; exact hx2
   have h2 := List.length_erase_of_mem hmem
   have h3 := Pbh hmem
   omega
  match n with
  | 0 => omega
  | n + 1 => exact Va6 hg h n D hDr (by omega)
noncomputable def Gab (G : List (List Int)) (s : CSt) : Nat := (ixF (pK G s.out) s.rest).toNat
noncomputable def cO (G : List (List Int)) (s : CSt) : CSt := ⟨s.rest.take (Gab G s) ++ s.rest.drop (Gab G s + 1), s.out ++ [atI s.rest (Gab G s)]⟩
theorem Fa9.top {G : List (List Int)} (hg : GOk G) {s : CSt} (h : Fa9 G s) (hr : s.rest ≠ []) : Gab G s < s.rest.length /\ ixF (pK G s.out) s.rest = (Gab G s : Int) /\ pK G s.out (atI s.rest (Gab G s)) = true /\ ∀ k : Nat, k < Gab G s -> pK G s.out (atI s.rest (k : Int)) = false := by
 obtain ⟨C, hC⟩ := List.exists_mem_of_ne_nil _ hr
 obtain ⟨D, hD, hf⟩ := Va6 hg h _ C hC (Nbd _)
 obtain ⟨k, hk, rfl⟩ := List.mem_iff_getElem.1 hD
 have h0 : 0 <= ixF (pK G s.out) s.rest := Van hk (by rw [aY hk]; exact hf)
 obtain ⟨h1, h2, h3⟩ := Jan h0
 have e : ixF (pK G s.out) s.rest = (Gab G s : Int) := by unfold Gab; omega
 rw [e] at h1 h2
 refine ⟨aM.1 h1, e, h2, fun k hk => h3 k ?_⟩
 rw [e]
 omega
theorem Cbu {l out : List (List Int)} {i : Nat} (h : i < l.length) : ((l.take i ++ l.drop (i + 1)) ++ (out ++ [atI l (i : Int)])).Perm (l ++ out) := by
 have e : l = l.take i ++ atI l (i : Int) :: l.drop (i + 1) := by
  rw [aY h, <- List.drop_eq_getElem_cons h, Obp]
 conv => rhs; rw [e]
 generalize l.take i = A
 generalize l.drop (i + 1) = B
 generalize atI l (i : Int) = C
 rw [List.perm_iff_count]
 intro x
 simp only [List.count_append, List.count_cons, List.count_nil]
 omega
theorem Fa9.step {G : List (List Int)} (hg : GOk G) {s : CSt} (h : Fa9 G s) (hr : s.rest ≠ []) : Fa9 G (cO G s) /\ (cO G s).rest.length + 1 = s.rest.length := by
 obtain ⟨h1, h2, h3, -⟩ := h.top hg hr
 have hp := Cbu (out := s.out) h1
 have hCr : atI s.rest (Gab G s : Int) ∈ s.rest := at_mem h1
 unfold cO
 generalize Gab G s = i at *
 refine ⟨⟨hp.nodup_iff.2 h.nd, fun C => by rw [hp.mem_iff]; exact h.mem C, fun C hC j hj k hk => ?_⟩, by simp only [Mb2, Nbr, Obc]; omega⟩
 dsimp only at hC ⊢
 rcases List.mem_append.1 hC with hC | hC
 ·obtain ⟨D, hD, hkD⟩ := h.cl C hC j hj k hk
  exact ⟨D, Mbz _ hD, hkD⟩
 ·rw [Mb9] at hC
  subst hC
  obtain ⟨a, ha, he, hea⟩ := iI (h.sub hCr)
  have hC0 : InB G (atI (atI s.rest (i : Int)) 0) := by rw [hea]; exact ha
  have hja := (kQ hg ha).1 (by rw [<- he]; exact hj)
  rcases (Fac hg hC0).1 h3 k (by rw [hea]; exact hja.1.trans hk) with ⟨D, hD, hkD⟩ | hkC
  ·exact ⟨D, Mbz _ hD, hkD⟩
  ·exact ⟨_, Mb1 _ (List.mem_singleton.2 rfl), hkC⟩
noncomputable def cM (G : List (List Int)) : Nat -> CSt -> List (List Int)
 | 0, s => s.out
 | n + 1, s => cM G n (cO G s)
noncomputable def bK (G : List (List Int)) : List (List Int) := cM G (jA G).length ⟨jA G, []⟩
theorem Fa9.start (G : List (List Int)) : Fa9 G ⟨jA G, []⟩ :=
 ⟨by dsimp only; rw [Nbo]; exact Nah G, fun C => by dsimp only; rw [Nbo], fun C hC => by cases hC⟩
theorem Xad {G : List (List Int)} (hg : GOk G) : ∀ (n : Nat) (s : CSt), s.rest.length = n -> Fa9 G s -> Fa9 G ⟨[], cM G n s⟩
 | 0, s, hn, h => by
  obtain ⟨rest, out⟩ := s
  have : rest = [] := List.length_eq_zero_iff.1 hn
  subst this
  exact h
 | n + 1, s, hn, h => by
  have hr : s.rest ≠ [] := fun e => by rw [e] at hn; simp at hn
  obtain ⟨h1, h2⟩ := h.step hg hr
  exact Xad hg n (cO G s) (by omega) h1
theorem mJ {G : List (List Int)} (hg : GOk G) : (bK G).Nodup /\ ∀ C, C ∈ bK G ↔ C ∈ jA G := by
 have h := Xad hg _ _ rfl (Fa9.start G)
 exact ⟨h.nd, h.mem⟩
def Ya9 (G : List (List Int)) (L : List (List Int)) (i : Nat) : Bool := (atI L (i : Int)).all fun j => (Pbp L.length).all fun k : Nat => (k == i) || (atI L (k : Int)).all fun x => !lT (atI G j) x
theorem Ya8 {G : List (List Int)} (hg : GOk G) {s : CSt} (h : Fa9 G s) {i : Nat} (hi : i < s.rest.length) : Ya9 G s.rest i = pK G s.out (atI s.rest (i : Int)) := by
 have hCr : atI s.rest (i : Int) ∈ s.rest := at_mem hi
 obtain ⟨a, ha, he, hea⟩ := iI (h.sub hCr)
 have hC0 : InB G (atI (atI s.rest (i : Int)) 0) := by rw [hea]; exact ha
 have hnd := List.nodup_append.1 h.nd
 rw [Pb3, Fac hg hC0]
 unfold Ya9
 simp only [Nbq, Obx, Oba, beq_iff_eq, Nbp, <- Bool.not_eq_true, lS]
 constructor
 ·intro hS j hj
  have key : (∃ D ∈ s.out, j ∈ D) \/ j ∈ atI s.rest (i : Int) := by
   induction hj with
   | refl => exact .inr (by rw [hea, he]; exact uK hg ha)
   | @step b c hb hc ih =>
    rcases ih with ⟨D, hD, hbD⟩ | hbC
    ·exact .inl (h.cl D hD b hbD c (.step .refl hc))
    ·have hbi := hb.inb hg hC0
     obtain ⟨D, hD, hcD⟩ := Bas hg (hg.out hbi hc)
     rcases List.mem_append.1 ((h.mem D).2 hD) with h1 | h1
     ·obtain ⟨k, hk, rfl⟩ := List.mem_iff_getElem.1 h1
      rcases hS b hbC k hk with e | e
      ·subst e
       exact .inr (by rw [aY hk]; exact hcD)
      ·exact absurd hc (e c (by rw [aY hk]; exact hcD))
     ·exact .inl ⟨D, h1, hcD⟩
  exact key
 ·intro hM j hj k hk
  by_cases e : k = i
  ·exact .inl e
  refine .inr fun x hx hc => ?_
  have hja := (kQ hg ha).1 (by rw [<- he]; exact hj)
  have hkr : atI s.rest (k : Int) ∈ s.rest := at_mem hk
  rcases hM x (by rw [hea]; exact .step hja.1 hc) with ⟨D, hD, hxD⟩ | hxC
  ·have := Baq hg (h.sub hkr) ((h.mem D).1 (Mb1 _ hD)) hx hxD
   exact hnd.2.2 _ hkr _ hD this
  ·have := Baq hg (h.sub hkr) (h.sub hCr) hx hxC
   rw [aY hk, aY hi] at this
   exact e ((List.getElem_inj hnd.1).1 this)
end Go.Proofs.YtpgnlmfmlffjcaaGreat.Rf

namespace Go.Proofs.YtpgnlmfmlffjcaaGreat.Rf
set_option linter.unusedVariables false
set_option linter.unusedSimpArgs false
theorem pI (ks : List Int) (n : Int) : iA ks n = (atI ks n, 0) := rfl
def Caf (ks l : List Int) (x : Int) : Nat -> Nat
 | 0 => 0
 | k + 1 => if decide (atI ks x < atI ks (atI l (k : Int))) then Caf ks l x k else k + 1
def Xaq (ks l : List Int) (x : Int) : List Int := l.take (Caf ks l x l.length) ++ [x] ++ l.drop (Caf ks l x l.length)
theorem Oaz (ks l : List Int) (x : Int) : ∀ m, Caf ks l x m <= m
 | 0 => Nbd _
 | m + 1 => by
  unfold Caf
  split
  ·exact Nat.le_succ_of_le (Oaz ks l x m)
  ·exact Nbd _
theorem Vaf {ks l : List Int} {x : Int} : ∀ {m j : Nat}, Caf ks l x m <= j -> j < m -> atI ks x < atI ks (atI l (j : Int))
 | 0, j, _, h => by omega
 | m + 1, j, h, hj => by
  unfold Caf at h
  split at h
  ·rename_i hg
   rcases Nbk j m with h1 | h1
   ·exact Vaf h h1
   ·obtain rfl : j = m := by omega
    exact of_decide_eq_true hg
  ·omega
theorem Vae {ks l : List Int} {x : Int} : ∀ {m : Nat}, 0 < Caf ks l x m -> atI ks (atI l ((Caf ks l x m - 1 : Nat) : Int)) <= atI ks x
 | 0, h => by simp [Caf] at h
 | m + 1, h => by
  unfold Caf at h ⊢
  split
  ·rename_i hg
   rw [if_pos hg] at h
   exact Vae h
  ·rename_i hg
   have hg' : ¬ atI ks x < atI ks (atI l (m : Int)) := by simpa using hg
   rw [Nat.add_sub_cancel]
   omega
theorem Eaw (ks l : List Int) (x : Int) : (Xaq ks l x).Perm (x :: l) := by
 unfold Xaq
 have h := Obp (Caf ks l x l.length) l
 conv => rhs; rw [<- h]
 generalize l.take (Caf ks l x l.length) = A
 generalize l.drop (Caf ks l x l.length) = B
 rw [List.perm_iff_count]
 intro y
 simp only [List.count_append, List.count_cons, List.count_nil]
 omega
theorem Oay {ks l : List Int} {x : Int} (h : oK (iA ks) l) : oK (iA ks) (Xaq ks l x) := by
 have hle : ∀ a b : Int, ltQ (iA ks b) (iA ks a) = false ↔ atI ks a <= atI ks b := by
  intro a b
  rw [pI, pI, pF]
  dsimp only
  omega
 unfold oK at h ⊢
 simp only [hle] at h ⊢
 have hk := Oaz ks l x l.length
 have hidx : ∀ i j : Nat, i <= j -> j < l.length -> atI ks (atI l (i : Int)) <= atI ks (atI l (j : Int)) := by
  intro i j hij hj
  rcases Nbk i j with h1 | h1
  ·have := List.pairwise_iff_getElem.1 h i j (by omega) hj h1
   rw [aY (by omega), aY hj]
   exact this
  ·obtain rfl : i = j := by omega
   exact Int.le_refl _
 have hlo : ∀ y ∈ l.take (Caf ks l x l.length), atI ks y <= atI ks x := by
  intro y hy
  obtain ⟨j, hj, rfl⟩ := List.mem_iff_getElem.1 hy
  rw [Nbr] at hj
  have h1 := Vae (ks := ks) (l := l) (x := x) (m := l.length) (by omega)
  have h2 := hidx j (Caf ks l x l.length - 1) (by omega) (by omega)
  rw [aY (show j < l.length by omega)] at h2
  rw [List.getElem_take]
  omega
 have hhi : ∀ y ∈ l.drop (Caf ks l x l.length), atI ks x <= atI ks y := by
  intro y hy
  obtain ⟨j, hj, rfl⟩ := List.mem_iff_getElem.1 hy
  rw [Obc] at hj
  have h1 := Vaf (ks := ks) (l := l) (x := x) (m := l.length) (j := Caf ks l x l.length + j) (by omega) (by omega)
  rw [aY (by omega)] at h1
  rw [List.getElem_drop]
  omega
 unfold Xaq
 rw [Mb7, Pb2]
 refine ⟨h.sublist (List.take_sublist _ _), ?_, fun a ha b hb => ?_⟩
 ·rw [Ob9, Pbc]
  exact ⟨hhi, h.sublist (List.drop_sublist _ _)⟩
 ·rw [Ob9, Nbz] at hb
  rcases hb with hb | hb
  ·rw [hb]; exact hlo a ha
  ·exact Int.le_trans (hlo a ha) (hhi b hb)
theorem Lbp {ks : List Int} : ∀ (ys l : List Int), oK (iA ks) l -> oK (iA ks) (ys.foldl (Xaq ks) l) /\ (ys.foldl (Xaq ks) l).Perm (ys ++ l)
 | [], l, h => ⟨h, .refl _⟩
 | y :: ys, l, h => by
  obtain ⟨h1, h2⟩ := Lbp ys (Xaq ks l y) (Oay h)
  refine ⟨h1, h2.trans ?_⟩
  refine ((Eaw ks l y).append_left ys).trans ?_
  rw [Obv]
  exact List.perm_middle
theorem Vag {ks ys : List Int} (hi : ∀ x ∈ ys, ∀ y ∈ ys, atI ks x = atI ks y -> x = y) : ys.foldl (Xaq ks) [] = kG (iA ks) ys := by
 obtain ⟨h1, h2⟩ := Lbp (ks := ks) ys [] List.Pairwise.nil
 rw [Nbo] at h2
 refine Ba7 _ h2 h1 fun x hx y hy e => hi x hx y hy ?_
 rw [pI, pI] at e
 exact (Prod.mk.inj e).1
theorem Lam {β : Type} (k : β -> Int × Int) (l : List β) : (kG k l).length = l.length := (fH k l).length_eq
noncomputable def sD (G : List (List Int)) (ks : List Int) (m : Nat) : List Int := ((bK G).take m).flatMap (kG (iA ks))
noncomputable def lI (G : List (List Int)) (ks : List Int) : List Int := (bK G).flatMap (kG (iA ks))
theorem Ean {G : List (List Int)} {ks : List Int} {m : Nat} (h : m < (bK G).length) : sD G ks (m + 1) = sD G ks m ++ kG (iA ks) (atI (bK G) (m : Int)) := by
 unfold sD
 rw [<- take_at h, Oby, List.flatMap_cons, List.flatMap_nil, Nbo]
theorem Eao (G : List (List Int)) (ks : List Int) : sD G ks (bK G).length = lI G ks := by unfold sD lI; rw [Nb0]
theorem Har {G : List (List Int)} (hg : GOk G) {ks : List Int} {j : Int} : j ∈ lI G ks ↔ InB G j := by
 unfold lI
 rw [Ob6]
 constructor
 ·rintro ⟨C, hC, hj⟩
  obtain ⟨a, ha, rfl, -⟩ := iI (((mJ hg).2 C).1 hC)
  exact ((kQ hg ha).1 ((fH _ _).mem_iff.1 hj)).1.inb hg ha
 ·intro hj
  obtain ⟨C, hC, hjC⟩ := Bas hg hj
  exact ⟨C, ((mJ hg).2 C).2 hC, (fH _ _).mem_iff.2 hjC⟩
theorem Cac {G : List (List Int)} (hg : GOk G) (ks : List Int) : (lI G ks).Nodup := by
 obtain ⟨h1, h2⟩ := mJ hg
 unfold lI
 unfold List.Nodup
 rw [List.flatMap_def, List.pairwise_flatten]
 constructor
 ·intro l hl
  obtain ⟨C, hC, rfl⟩ := List.mem_map.1 hl
  obtain ⟨a, ha, rfl, -⟩ := iI ((h2 C).1 hC)
  exact (fH _ _).nodup_iff.2 (tJ (xP _ _))
 ·rw [Pbs]
  refine List.Pairwise.imp_of_mem (fun {C D} hC hD hne x hx y hy e => ?_) h1
  subst e
  exact hne (Baq hg ((h2 C).1 hC) ((h2 D).1 hD) ((fH _ _).mem_iff.1 hx) ((fH _ _).mem_iff.1 hy))
theorem Hat {G : List (List Int)} (hg : GOk G) (ks : List Int) : (lI G ks).length <= G.length := by
 have := jY (Cac hg ks) (m := nums G.length) fun x hx => vP.2 ((Har hg).1 hx)
 rw [bY] at this
 exact this
theorem Haq {G : List (List Int)} (hg : GOk G) (ks : List Int) (m : Nat) : (sD G ks m).length <= G.length := by
 have h := Hat hg ks
 have e : lI G ks = sD G ks m ++ ((bK G).drop m).flatMap (kG (iA ks)) := by
  unfold sD lI
  rw [<- Oby, Obp]
 rw [e, Mb2] at h
 omega
theorem Aav : (∀ {n : Int}, 0 <= n -> n <= 100000000000 -> (aO.make 1 [(.bool false)]).run [i64 n] = some [rL (Nbg n.toNat false)]) /\
  (∀ {xs : List Bool} {k : Int}, InB xs k -> (aO.row 1 0 [true]).run [rL xs, i64 k] = some [.bool (atI xs k)]) /\
  (∀ {xs : List Bool} {k : Int} {b : Bool}, InB xs k -> (aO.set 1 0 1).run [rL xs, i64 k, .bool b] = some [rL (fI xs k b)]) /\
  (∀ {xs : List Bool} {k : Int}, InB xs k -> aO.inb.run [rL xs, i64 k] = some []) /\ (∀ {xs : List Bool}, xs.length <= 1099511627776 -> aO.len.run [rL xs] = some [i64 xs.length]) :=
 ⟨fun h h2 => qK rfl h (by unfold bV; omega), fun h => iX rfl h, fun h => jP rfl rfl (by simp [Enc.sz]) rfl h, fun h => Abl h, fun h => by simp [rL, aO.run]⟩
theorem Zaa {α : Type} [Inhabited α] {xs : List α} {p : α -> Bool} {k : Nat} (h : k < xs.length) : (xs.take (k + 1)).filter p = (xs.take k).filter p ++ if p (atI xs (k : Int)) then [atI xs (k : Int)] else [] := by
 rw [<- take_at h, Obr]
 congr 1
 cases hp : p (atI xs (k : Int))
 ·rw [List.filter_cons_of_neg (by rw [hp]; simp)]; rfl
 ·rw [List.filter_cons_of_pos hp]; rfl
theorem Uax {n : Nat} {β : Type} [Inhabited β] {f : Int -> β} {j : Int} (h : 0 <= j /\ j < n) : atI ((nums n).map f) j = f j := by
 obtain ⟨k, rfl⟩ : ∃ k : Nat, j = (k : Int) := ⟨j.toNat, by omega⟩
 rw [aY (by rw [Nbb, bY]; omega), Ob7]
 simp [nums]
noncomputable def rsM (G : List (List Int)) : List (List Int) := (nums G.length).map (kW G)
theorem Uaf (G : List (List Int)) : (rsM G).length = G.length := by unfold rsM; rw [Nbb, bY]
theorem Laq {G : List (List Int)} {j : Int} (h : InB G j) : atI (rsM G) j = kW G j := Uax h
theorem Eag {G : List (List Int)} {j : Int} (h : InB G j) : InB (rsM G) j := by unfold InB at h ⊢; rw [Uaf]; exact h
theorem Oa3 {G : List (List Int)} (hg : GOk G) {a j : Int} (ha : InB G a) : lT (kW G a) j = Ca0 G a j := by
 rw [Pb3, lS, nS hg ha, Dai]
noncomputable def Zav (G : List (List Int)) (m : Nat) : List (List Int) := ((nums m).filter fun i => atI (wV G i) 0 == i).map (wV G)
theorem Nak (G : List (List Int)) (m : Nat) : Zav G (m + 1) = Zav G m ++ if atI (wV G (m : Int)) 0 == (m : Int) then [wV G (m : Int)] else [] := by
 unfold Zav
 rw [tZ, Obr, Obo]
 congr 1
 rw [Obl, Ob0]
 cases h : (atI (wV G (m : Int)) 0 == (m : Int)) <;> rfl
theorem Rae (G : List (List Int)) (m : Nat) : (Zav G m).length <= m := by
 unfold Zav
 rw [Nbb]
 have := Obq (fun i => atI (wV G i) 0 == i) (nums m)
 rw [bY] at this
 exact this
noncomputable def Abt (G : List (List Int)) (i : Int) (m : Nat) : List Int := (nums m).filter fun j => Ca0 G i j && Ca0 G j i
theorem Va2 (G : List (List Int)) (i : Int) (m : Nat) : Abt G i (m + 1) = Abt G i m ++ if Ca0 G i (m : Int) && Ca0 G (m : Int) i then [(m : Int)] else [] := by
 unfold Abt
 rw [tZ, Obr]
 congr 1
 rw [Obl, Ob0]
theorem Ya6 (G : List (List Int)) (i : Int) : Abt G i G.length = wV G i := by
 unfold Abt wV kW
 rw [List.filter_filter]
 congr 1
 funext j
 rw [Bool.and_comm]
theorem Ya5 (G : List (List Int)) (i : Int) (m : Nat) : (Abt G i m).length <= m := by
 have := Obq (fun j => Ca0 G i j && Ca0 G j i) (nums m)
 rw [bY] at this
 exact this
theorem Oa4 {G : List (List Int)} {a j : Int} (h : j ∈ wV G a) : InB G j := by
 unfold wV at h
 exact Ia6 (List.mem_filter.1 h).1
def pQ (n : Nat) (out : List (List Int)) : List Bool := (nums n).map (kV out)
theorem Ma9 (n : Nat) (out : List (List Int)) : (pQ n out).length = n := by unfold pQ; rw [Nbb, bY]
theorem Yat {n : Nat} {p : Int -> Bool} {c : Int} (h : 0 <= c /\ c < n) : fI ((nums n).map p) c true = (nums n).map fun j => p j || j == c := by
 unfold fI
 apply Pb7
 ·rw [Pbe, Nbb, Nbb]
 ·intro k h1 h2
  rw [Nbb, bY] at h2
  rw [List.getElem_set, Ob7, Ob7]
  have e : (nums n)[k]'(by rw [bY]; exact h2) = (k : Int) := by simp [nums]
  rw [e]
  split
  ·rename_i hk
   have : ((k : Int) == c) = true := by rw [beq_iff_eq]; omega
   rw [this, Pb6]
  ·rename_i hk
   have : ((k : Int) == c) = false := by rw [beq_eq_false_iff_ne]; omega
   rw [this, Pbn]
theorem Qa0 {C : List Int} {k : Nat} (h : k < C.length) (j : Int) : lT (C.take (k + 1)) j = (lT (C.take k) j || j == atI C (k : Int)) := by
 unfold lT
 rw [<- take_at h, List.any_append, List.any_cons, List.any_nil, Pbn]
 congr 1
 rw [Pb3, beq_iff_eq, beq_iff_eq]
 exact eq_comm
theorem Waq (out : List (List Int)) (C : List Int) (j : Int) : kV (out ++ [C]) j = (kV out j || lT C j) := by
 unfold kV
 rw [List.any_append, List.any_cons, List.any_nil, Pbn]
theorem Fa9.len {G : List (List Int)} {s : CSt} (h : Fa9 G s) : s.rest.length + s.out.length <= G.length := by
 have h1 := jY h.nd (m := jA G) fun C hC => (h.mem C).1 hC
 rw [Mb2] at h1
 exact Nb4 h1 (Bar G)
theorem Fa9.grp {G : List (List Int)} (hg : GOk G) {s : CSt} (h : Fa9 G s) {C : List Int} (hC : C ∈ s.rest) : C.length <= G.length /\ 0 < C.length /\ (∀ j ∈ C, InB G j) /\ InB C 0 /\ InB G (atI C 0) := by
 obtain ⟨a, ha, he, hea⟩ := iI (h.sub hC)
 have hs : a ∈ C := by rw [he]; exact uK hg ha
 have hp := Pbh hs
 exact ⟨by rw [he]; exact Jav G a, hp, fun j hj => Oa4 (by rw [<- he]; exact hj), by unfold InB; omega, by rw [hea]; exact ha⟩
def Fae (G : List (List Int)) (L : List (List Int)) (i : Nat) (j : Int) (k : Nat) (m : Nat) : Bool := (k == i) || ((atI L (k : Int)).take m).all fun x => !lT (atI G j) x
def Gaq (G : List (List Int)) (L : List (List Int)) (i : Nat) (j : Int) (m : Nat) : Bool := (Pbp m).all fun k : Nat => (k == i) || (atI L (k : Int)).all fun x => !lT (atI G j) x
def Fad (G : List (List Int)) (L : List (List Int)) (i : Nat) (m : Nat) : Bool := ((atI L (i : Int)).take m).all fun j => Gaq G L i j L.length
theorem Sa3 (G L : List (List Int)) (i : Nat) (j : Int) (k : Nat) : Fae G L i j k 0 = true := by simp [Fae]
theorem Sa4 {G L : List (List Int)} {i : Nat} {j : Int} {k m : Nat} (h : m < (atI L (k : Int)).length) : Fae G L i j k (m + 1) = (Fae G L i j k m && ((k == i) || !lT (atI G j) (atI (atI L (k : Int)) (m : Int)))) := by
 unfold Fae
 rw [<- take_at h, List.all_append, Pbq, List.all_nil, Pbr]
 cases (k == i) <;> simp
theorem Va8 {G L : List (List Int)} {i : Nat} {j : Int} {k : Nat} : Fae G L i j k (atI L (k : Int)).length = ((k == i) || (atI L (k : Int)).all fun x => !lT (atI G j) x) := by
 unfold Fae
 rw [Nb0]
theorem Sa1 (G L : List (List Int)) (i : Nat) (j : Int) : Gaq G L i j 0 = true := rfl
theorem Sa2 (G L : List (List Int)) (i : Nat) (j : Int) (m : Nat) : Gaq G L i j (m + 1) = (Gaq G L i j m && Fae G L i j m (atI L (m : Int)).length) := by
 rw [Va8]
 unfold Gaq
 rw [Ob5, List.all_append, Pbq, List.all_nil, Pbr]
theorem Saz (G L : List (List Int)) (i : Nat) : Fad G L i 0 = true := by simp [Fad]
theorem Sa0 {G L : List (List Int)} {i m : Nat} (h : m < (atI L (i : Int)).length) : Fad G L i (m + 1) = (Fad G L i m && Gaq G L i (atI (atI L (i : Int)) (m : Int)) L.length) := by
 unfold Fad
 rw [<- take_at h, List.all_append, Pbq, List.all_nil, Pbr]
theorem Va7 (G L : List (List Int)) (i : Nat) : Fad G L i (atI L (i : Int)).length = Ya9 G L i := by
 unfold Fad Ya9 Gaq
 rw [Nb0]
theorem Wau {xs : List (List Int)} {i : Nat} (h : i < xs.length) (hl : xs.length <= 1000000) : Cbn 1 [Saw xs (i : Int), i64 (i : Int), i64 ((i : Int) + 1)] = some [rL (xs.take i ++ xs.drop (i + 1))] := by
 unfold Saw Cbn
 have hlen : ((xs.map Enc.enc).set ((i : Int)).toNat [D.hole]).length = xs.length := by rw [Pbe, Nbb]
 have e1 : ((i : Int)).toNat = i := Int.toNat_natCast i
 have e2 : ((i : Int) + 1).toNat = i + 1 := by omega
 show (if _ then _ else _) = _
 rw [if_pos ⟨rfl, by omega, by omega, by rw [hlen]; omega, by rw [hlen]; omega, by rw [hlen]; omega⟩, e1, e2]
 rw [List.take_set_of_le (Nbd _), List.drop_set_of_lt (Nat.lt_succ_self _)]
 simp only [rL, Obo, List.map_take, List.map_drop]
 rfl
theorem Wan {n : Nat} {out : List (List Int)} {C : List Int} {m : Nat} (hm : m < C.length) (h : 0 <= atI C (m : Int) /\ atI C (m : Int) < n) : fI ((nums n).map fun j => kV out j || lT (C.take m) j) (atI C (m : Int)) true = (nums n).map fun j => kV out j || lT (C.take (m + 1)) j := by
 rw [Yat h]
 congr 1
 funext j
 rw [Qa0 hm, Bool.or_assoc]
theorem Pad (n : Nat) (out : List (List Int)) (C : List Int) : ((nums n).map fun j => kV out j || lT (C.take 0) j) = pQ n out := by
 unfold pQ
 congr 1
 funext j
 rw [List.take_zero]
 show (kV out j || false) = _
 rw [Pbn]
theorem Wap (n : Nat) (out : List (List Int)) (C : List Int) : ((nums n).map fun j => kV out j || lT (C.take C.length) j) = pQ n (out ++ [C]) := by
 unfold pQ
 congr 1
 funext j
 rw [Nb0, Waq]
theorem Wao (n : Nat) : pQ n [] = Nbg n false := by
 unfold pQ
 apply Pb7
 ·rw [Nbb, bY, Obh]
 ·intro k h1 h2
  rw [Ob7, List.getElem_replicate]
  rfl
theorem Mbv : (∀ {xs : List (List Int)}, 0 < xs.length -> aO.ne.run [rL xs] = some []) /\ (∀ {xs : List Bool}, 0 < xs.length -> aO.ne.run [rL xs] = some []) := by
 constructor
 ·intro xs h
  cases xs with
  | nil => simp at h
  | cons x xs => rfl
 ·intro xs h
  cases xs with
  | nil => simp at h
  | cons x xs => rfl
def hsD (xs : List (List Int)) (p : Int -> Bool) : D := .rows 1 ((nums xs.length).map fun j => if p j then [D.hole] else Enc.enc (atI xs j))
theorem Ebs (xs : List (List Int)) {p : Int -> Bool} (h : ∀ j, InB xs j -> p j = false) : hsD xs p = rL xs := by
 unfold hsD rL
 congr 1
 apply Pb7
 ·rw [Nbb, Nbb, bY]
 ·intro k h1 h2
  rw [Nbb] at h2
  rw [Ob7, Ob7]
  have e : (nums xs.length)[k]'(by rw [bY]; exact h2) = (k : Int) := by simp [nums]
  rw [e, h _ (aM.2 h2), aY h2]
  rfl
theorem Vax {xs : List (List Int)} {p : Int -> Bool} {k : Int} (h : InB xs k) : ((nums xs.length).map fun j => if p j then [D.hole] else Enc.enc (atI xs j))[k.toNat]? = some (if p k then [D.hole] else Enc.enc (atI xs k)) := by
 have h1 := h.lt
 unfold InB at h
 rw [List.getElem?_map, Mb0 (by rw [bY]; exact h1)]
 have e : (nums xs.length)[k.toNat]'(by rw [bY]; exact h1) = k := by simp [nums]; omega
 rw [e]
 rfl
theorem Cbe {xs : List (List Int)} {p : Int -> Bool} {k : Int} (h : InB xs k) : aO.inb.run [hsD xs p, i64 k] = some [] := by
 unfold InB at h
 unfold hsD
 show (if _ then _ else _) = _
 rw [if_pos]
 rw [Nbb, bY]
 exact h
theorem Cbd {xs : List (List Int)} {p : Int -> Bool} {k : Int} (h : InB xs k) (hp : p k = false) : (aO.row 1 0 [false]).run [hsD xs p, i64 k] = some [rL (atI xs k)] := by
 unfold hsD
 show (if _ then _ else _) = _
 rw [if_pos ⟨rfl, h.1⟩, Vax h, hp]
 rfl
theorem Ya3 {xs : List (List Int)} {p : Int -> Bool} {k : Int} (h : InB xs k) : (aO.set 1 0 1).run [hsD xs p, i64 k, .hole] = some [hsD xs fun j => p j || j == k] := by
 unfold hsD
 show (if _ then _ else _) = _
 rw [if_pos ⟨rfl, h.1⟩, Vax h]
 have hk := h.lt
 unfold InB at h
 have e0 : ∀ r : List D, (r = [.hole] \/ ∃ d, r = [d]) -> r.take 0 ++ [D.hole] ++ r.drop (0 + 1) = [.hole] := by
  rintro r (rfl | ⟨d, rfl⟩) <;> rfl
 have e1 : (if p k = true then [D.hole] else Enc.enc (atI xs k)).length = 1 := by cases p k <;> rfl
 dsimp only
 rw [if_pos ⟨by rw [e1]; exact Nbd _, rfl⟩, e0 _ (by cases p k; exact .inr ⟨_, rfl⟩; exact .inl rfl)]
 refine congrArg (fun l => some [D.rows 1 l]) (Pb7 ?_ ?_)
 ·rw [Pbe, Nbb, Nbb]
 ·intro i h1 h2
  rw [Nbb, bY] at h2
  rw [List.getElem_set, Ob7, Ob7]
  have e : (nums xs.length)[i]'(by rw [bY]; exact h2) = (i : Int) := by simp [nums]
  rw [e]
  split
  ·rename_i hk2
   have : ((i : Int) == k) = true := by rw [beq_iff_eq]; omega
   simp only [this, Pb6, if_true]
  ·rename_i hk2
   have : ((i : Int) == k) = false := by rw [beq_eq_false_iff_ne]; omega
   simp only [this, Pbn]
theorem Vah {l kl : List Int} (h1 : ∀ n ∈ l, InB kl n) (h2 : ∀ k ∈ kl, 0 <= k /\ k <= 1000000000) (h3 : ∀ n ∈ l, ∀ m ∈ l, atI kl n = atI kl m -> n = m) : Cag l kl = true := by
 unfold Cag
 simp only [Mby, Nbq, decide_eq_true_eq, Oba, Nbp, beq_eq_false_iff_ne, beq_iff_eq]
 refine ⟨⟨fun n hn => ⟨(h1 n hn).1, (h1 n hn).lt⟩, h2⟩, fun n hn m hm => ?_⟩
 by_cases e : iA kl n = iA kl m
 ·refine .inr (h3 n hn m hm ?_)
  rw [pI, pI] at e
  exact (Prod.mk.inj e).1
 ·exact .inl e
theorem Mag : ∀ (l : List Int), Gan (l.map Enc.enc) = some l := fun l => Maf l
theorem Cb2 {l kl : List Int} (h : Cag l kl = true) (hl : l.length <= 1000000) : Hac [rL l, rL kl] = some [rL (kG (iA kl) l)] := by
 show ((Gan (l.map Enc.enc)).bind fun l => (Gan (kl.map Enc.enc)).bind fun kl => if l.length <= tC /\ Cag l kl = true then some [D.rows 1 ((kG (iA kl) l).map fun p => [D.int .i64 p])] else none) = _
 rw [Mag, Mag]
 show (if _ then _ else _) = _
 rw [if_pos ⟨hl, h⟩]
 rfl
end Go.Proofs.YtpgnlmfmlffjcaaGreat.Rf

namespace Go.Proofs.YtpgnlmfmlffjcaaGreat.Rf
set_option linter.unusedVariables false
set_option linter.unusedSimpArgs false
theorem Nai (l : List bH) (k : Int) (m : Nat) : nL (fD l k m) := by
 unfold nL fD
 rw [List.pairwise_flatMap]
 refine ⟨fun i hi => by split <;> simp, ?_⟩
 refine List.pairwise_lt_range.imp fun {a b} hab => ?_
 intro x hx y hy
 split at hx
 ·split at hy
  ·rw [Mb9] at hx hy
   subst hx; subst hy
   rw [kX]
   simp [atI]
   omega
  ·cases hy
 ·cases hx
theorem Naj (rows : List (List bH)) : nL (cZ rows) := by
 unfold nL cZ Dap
 rw [List.pairwise_flatMap]
 refine ⟨fun k hk => Nai _ _ _, ?_⟩
 refine List.pairwise_lt_range.imp fun {a b} hab => ?_
 intro x hx y hy
 obtain ⟨i, hi, rfl⟩ := pU hx
 obtain ⟨j, hj, rfl⟩ := pU hy
 rw [kX]
 simp [atI]
 omega
theorem Zau {t : aL} (ht : bI t = true) {x : List Int} : x ∈ cZ t.rows ↔ eZ t.n x /\ wG t x = true := by
 refine ⟨Aan ht, ?_⟩
 rintro ⟨⟨h2, hi⟩, hc⟩
 match x, h2 with
 | [a, b], _ =>
  have hi' : inst t.n a b = true := hi
  obtain ⟨r1, r2, r3, r4⟩ := bW hi'
  have hb := gV ht hi'
  have hc' : ((gU t a b).state == 3) = true := hc
  unfold gU at hc'
  split at hc'
  ·rename_i hle
   unfold cZ Dap fD
   simp only [Ob6, Obx]
   refine ⟨a.toNat, hb.lt, (b - 1).toNat, ?_, ?_⟩
   ·rw [show ((a.toNat : Nat) : Int) = a by omega]; omega
   ·rw [show ((a.toNat : Nat) : Int) = a by omega, show (((b - 1).toNat : Nat) : Int) = b - 1 by omega, if_pos hc', show b - 1 + 1 = b by omega]
    exact List.mem_singleton.2 rfl
  ·cases hc'
theorem Eai (t : aL) : nL (aH t) := by
 unfold aH nL
 exact List.Pairwise.filter _ (Naj t.rows)
theorem Aa9 {t : aL} {x : List Int} (h : x ∈ aH t) : x ∈ cZ t.rows := by
 unfold aH at h
 exact (List.mem_filter.1 h).1
theorem Aa8 {t : aL} (ht : bI t = true) : (aH t).length <= 30 := by
 unfold aH
 exact Nb4 (Obq _ _) (Bau ht)
theorem fA {t : aL} (ht : bI t = true) {x : List Int} (h : x ∈ aH t) : eZ t.n x /\ (gU t (atI x 0) (atI x 1)).state = 3 /\ x = [atI x 0, atI x 1] /\ InB x 0 /\ InB x 1 := by
 obtain ⟨a, b, h1, h2, h3⟩ := nC ht (Aa9 h)
 exact ⟨⟨h1, h2⟩, h3, (oF h1).symm, a, b⟩
structure Pas (t : aL) (l : List (List Int)) (u : aL) : Prop where
 ok : bI u = true
 n : u.n = t.n
 row : ∀ rep no, inst t.n rep no = true -> gU u rep no = if [rep, no] ∈ l then gU t rep no else row0 t.n
theorem Pas.com {t u : aL} (ht : bI t = true) (h : Pas t (aH t) u) : cZ u.rows = aH t := by
 refine yR (Naj _) (Eai t) fun x => ?_
 rw [Zau h.ok, h.n]
 constructor
 ·rintro ⟨⟨h2, hi⟩, hc⟩
  unfold wG at hc
  rw [h.row _ _ hi] at hc
  split at hc
  ·rename_i hm
   rw [<- oF h2]
   exact hm
  ·cases hc
 ·intro hx
  obtain ⟨hi, hs, he, -⟩ := fA ht hx
  refine ⟨hi, ?_⟩
  unfold wG
  rw [h.row _ _ hi.2, if_pos (by rw [<- he]; exact hx), hs]
  rfl
noncomputable def gM (t : aL) : List (List Int) := (Pbp (aH t).length).map fun i : Nat => uJ (aH t) (gU t (atI (atI (aH t) (i : Int)) 0) (atI (atI (aH t) (i : Int)) 1)).attr.deps (atI (aH t) (i : Int)) (aH t).length
theorem Pas.graph {t u : aL} (ht : bI t = true) (h : Pas t (aH t) u) : Ha5 u = gM t := by
 unfold Ha5 mW gM
 rw [h.com ht]
 refine Pbt fun i hi => ?_
 rw [Obx] at hi
 have hm := at_mem hi
 obtain ⟨hx, hs, he, -⟩ := fA ht hm
 rw [h.row _ _ hx.2, if_pos (by rw [<- he]; exact hm)]
theorem Ea9 (t : aL) : (gM t).length = (aH t).length := by simp [gM]
theorem Va4 {t : aL} {r : List Int} (h : r ∈ gM t) : r.length <= (aH t).length /\ ∀ x ∈ r, 0 <= x /\ x < (aH t).length := by
 unfold gM at h
 obtain ⟨i, hi, rfl⟩ := List.mem_map.1 h
 refine ⟨Ea5 .., fun x hx => ?_⟩
 obtain ⟨k, hk, -, rfl⟩ := Ea4.1 hx
 omega
theorem Ya7 (t : aL) : GOk (gM t) := fun r hr x hx => by
 have := (Va4 hr).2 x hx
 unfold InB
 rw [Ea9]
 exact this
def Dam (t : aL) (x : List Int) : Int := 100 * (gU t (atI x 0) (atI x 1)).attr.seq + 10 * atI x 0 + atI x 1
noncomputable def wD (t : aL) : List Int := (aH t).map (Dam t)
theorem Maa (t : aL) : (wD t).length = (aH t).length := by simp [wD]
theorem Uah {n : Int} {r : bH} (h : rowOk n r = true) : 0 <= r.attr.seq /\ r.attr.seq <= 999 := by
 unfold rowOk at h
 simp only [Mby] at h
 obtain ⟨-, h⟩ := h
 split at h
 ·simp only [Mby, decide_eq_true_eq] at h
  rw [h.2]
  unfold none0
  simp
 ·simp only [Mby] at h
  have := h.2
  unfold sJ inR at this
  simp only [Mby, decide_eq_true_eq] at this
  omega
theorem zV {t : aL} (ht : bI t = true) {x : List Int} (h : eZ t.n x) : 0 <= (gU t (atI x 0) (atI x 1)).attr.seq /\ (gU t (atI x 0) (atI x 1)).attr.seq <= 999 /\ 0 <= atI x 0 /\ atI x 0 <= 4 /\ 1 <= atI x 1 /\ atI x 1 <= 6 := by
 have h1 := Uah (pY ht h.2)
 have h2 := bW h.2
 have h3 := bL (aZ ht)
 omega
theorem Yaz {t : aL} (ht : bI t = true) {x : List Int} (h : eZ t.n x) : 0 <= Dam t x /\ Dam t x <= 1000000000 := by
 have := zV ht h
 unfold Dam
 omega
theorem Ya0 {t : aL} (ht : bI t = true) {x y : List Int} (hx : eZ t.n x) (hy : eZ t.n y) (h : Dam t x = Dam t y) : x = y := by
 have h1 := zV ht hx
 have h2 := zV ht hy
 unfold Dam at h
 rw [<- oF hx.1, <- oF hy.1]
 unfold toL prL
 dsimp only
 have e1 : atI x 0 = atI y 0 := by omega
 have e2 : atI x 1 = atI y 1 := by omega
 rw [e1, e2]
theorem Qav {t : aL} {j : Int} (h : InB (aH t) j) : atI (wD t) j = Dam t (atI (aH t) j) := by
 obtain ⟨k, rfl⟩ : ∃ k : Nat, j = (k : Int) := ⟨j.toNat, by unfold InB at h; omega⟩
 have hk := aM.1 h
 unfold wD
 rw [aY (by rw [Nbb]; exact hk), Ob7, aY hk]
theorem Mab {t : aL} (ht : bI t = true) : ∀ x y, InB (gM t) x -> InB (gM t) y -> atI (wD t) x = atI (wD t) y -> x = y := by
 intro x y hx hy h
 have hx' : InB (aH t) x := by unfold InB at hx ⊢; rw [Ea9] at hx; exact hx
 have hy' : InB (aH t) y := by unfold InB at hy ⊢; rw [Ea9] at hy; exact hy
 rw [Qav hx', Qav hy'] at h
 have e := Ya0 ht (fA ht (fQ hx')).1 (fA ht (fQ hy')).1 h
 obtain ⟨i, rfl⟩ : ∃ k : Nat, x = (k : Int) := ⟨x.toNat, by unfold InB at hx; omega⟩
 obtain ⟨j, rfl⟩ : ∃ k : Nat, y = (k : Int) := ⟨y.toNat, by unfold InB at hy; omega⟩
 rw [aY (aM.1 hx'), aY (aM.1 hy')] at e
 have := (List.getElem_inj (Eae (Eai t))).1 e
 omega
theorem Vai {t : aL} (ht : bI t = true) : ∀ k ∈ wD t, 0 <= k /\ k <= 1000000000 := by
 intro k hk
 unfold wD at hk
 obtain ⟨x, hx, rfl⟩ := List.mem_map.1 hk
 exact Yaz ht (fA ht hx).1
noncomputable def qP (t : aL) : List Int := lI (gM t) (wD t)
noncomputable def Qao (t : aL) : List (List Int) := (qP t).map fun j => atI (aH t) j
noncomputable def wR (t : aL) : List (List Int) × Bool := if bI t then (Qao t, true) else ([], false)
theorem Oav {t : aL} {j : Int} (h : j ∈ qP t) : InB (aH t) j := by
 have := (Har (Ya7 t)).1 h
 unfold InB at this ⊢
 rw [Ea9] at this
 exact this
theorem Ia9 (t : aL) : (qP t).length <= (aH t).length := by
 have := Hat (Ya7 t) (wD t)
 rw [Ea9] at this
 exact this
theorem Yap (t : aL) : (Qao t).length <= (aH t).length := by unfold Qao; rw [Nbb]; exact Ia9 t
theorem Yao {t : aL} {x : List Int} (h : x ∈ Qao t) : x ∈ aH t := by
 unfold Qao at h
 obtain ⟨j, hj, rfl⟩ := List.mem_map.1 h
 exact fQ (Oav hj)
theorem Bbx {t : aL} (ht : bI t = true) : szL (szL fun _ => 0) (Qao t) <= 10000 := by
 have h1 : (Qao t).length <= 30 := Nb4 (Yap t) (Aa8 ht)
 have h2 : ∀ x ∈ Qao t, x.length <= 2 := fun x hx => Nat.le_of_eq (fA ht (Yao hx)).1.1
 generalize Qao t = l at h1 h2
 exact Nb4 (Ta3 l 30 2 h1 h2) (by omega)
theorem Uau (t : aL) : szL (szL fun _ => 0) (wR t).1 <= 10000 := by
 unfold wR
 cases h : bI t
 ·simp [szL]
 ·have := Bbx h
  simp only [if_true]
  exact this
theorem Qa8 {n : Int} {l : List bH} {no : Int} (h : no <= l.length) : ext n l no = l := by
 unfold ext
 rw [show (no - l.length).toNat = 0 by omega, List.replicate_zero, Nbo]
def Ebw (rd : List (List Int)) (s : aL) (k : Nat) (i : Nat) : aL := if decide (jJ rd [(k : Int), (i : Int) + 1] < 0) then Pa0 s (k : Int) ((i : Int) + 1) (row0 s.n) else s
def Abx (rd : List (List Int)) (k : Nat) : Nat -> aL -> aL
 | 0, s => s
 | m + 1, s => Ebw rd (Abx rd k m s) k m
def Nay (rd : List (List Int)) (t : aL) : Nat -> aL
 | 0 => t
 | k + 1 => Abx rd k (atI t.rows (k : Int)).length (Nay rd t k)
theorem Mav {rd : List (List Int)} {x : List Int} : jJ rd x < 0 ↔ x ∉ rd := by
 have h := fO (fun y => decide (x = y)) rd
 constructor
 ·intro h1 hm
  have : rd.any (fun y => decide (x = y)) = true := List.any_eq_true.2 ⟨x, hm, by simp⟩
  rw [this, decide_eq_true_eq] at h
  unfold jJ at h1
  omega
 ·intro hm
  have : rd.any (fun y => decide (x = y)) = false := by
   rw [List.any_eq_false]
   intro y hy e
   exact hm (by rw [of_decide_eq_true e]; exact hy)
  rw [this, decide_eq_false_iff_not] at h
  unfold jJ
  omega
structure Rao (rd : List (List Int)) (t s : aL) (k m : Nat) : Prop where
 ok : bI s = true
 n : s.n = t.n
 len : ∀ j : Nat, (atI s.rows (j : Int)).length = (atI t.rows (j : Int)).length
 row : ∀ rep no, inst t.n rep no = true -> gU s rep no = if (rep < k \/ (rep = k /\ no <= m)) /\ [rep, no] ∉ rd then row0 t.n else gU t rep no
theorem Rao.rowsLen {rd : List (List Int)} {t s : aL} {k m : Nat} (ht : bI t = true) (h : Rao rd t s k m) : s.rows.length = t.rows.length := by
 have h1 := dY ht
 have h2 := dY h.ok
 have h3 := h.n
 omega
theorem Rao.stepS {rd : List (List Int)} {t s : aL} {k m : Nat} (ht : bI t = true) (h : Rao rd t s k m) (hk : k < t.rows.length) (hm : m < (atI t.rows (k : Int)).length) : Rao rd t (Ebw rd s k m) k (m + 1) := by
 have hlen := dY ht
 have h6 := (fG ht (at_mem hk)).1
 have hi : inst t.n (k : Int) ((m : Int) + 1) = true := by
  unfold inst inR
  simp only [Mby, decide_eq_true_eq]
  omega
 have hi' : inst s.n (k : Int) ((m : Int) + 1) = true := by rw [h.n]; exact hi
 unfold Ebw
 cases hf : decide (jJ rd [(k : Int), (m : Int) + 1] < 0)
 ·have hin : [(k : Int), (m : Int) + 1] ∈ rd := by
   rw [decide_eq_false_iff_not, Mav] at hf
   exact Classical.not_not.1 hf
  refine ⟨h.ok, h.n, h.len, fun rep no hr => ?_⟩
  simp only [Mb6, if_false]
  rw [h.row rep no hr]
  have h0 := bW hr
  by_cases e : rep = (k : Int) /\ no = (m : Int) + 1
  ·obtain ⟨e1, e2⟩ := e
   subst e1; subst e2
   rw [if_neg (fun hh => hh.2 hin), if_neg (fun hh => hh.2 hin)]
  ·have : (rep < (k : Int) \/ rep = (k : Int) /\ no <= (m : Int)) ↔ (rep < (k : Int) \/ rep = (k : Int) /\ no <= ((m + 1 : Nat) : Int)) := by omega
   simp only [this]
 ·have hni : [(k : Int), (m : Int) + 1] ∉ rd := Mav.1 (of_decide_eq_true hf)
  simp only [if_true]
  refine ⟨Tav h.ok hi' (by rw [h.n]; exact Uai (aZ ht)), by unfold Pa0; exact h.n, fun j => ?_, fun rep no hr => ?_⟩
  ·have hkl : InB s.rows (k : Int) := aM.2 (by rw [h.rowsLen ht]; exact hk)
   unfold Pa0
   dsimp only
   by_cases e : j = k
   ·subst e
    rw [oU hkl, vJ, Qa8 (by rw [h.len]; omega), h.len]
   ·rw [oV (by omega) (by omega) (by omega), h.len]
  ·rw [Kau h.ok hi' (by rw [h.n]; exact hr), h.row rep no hr, h.n]
   have h0 := bW hr
   by_cases e : rep = (k : Int) /\ no = (m : Int) + 1
   ·obtain ⟨e1, e2⟩ := e
    subst e1; subst e2
    rw [if_pos ⟨rfl, rfl⟩, if_pos ⟨.inr ⟨rfl, by omega⟩, hni⟩]
   ·rw [if_neg e]
    have : (rep < (k : Int) \/ rep = (k : Int) /\ no <= (m : Int)) ↔ (rep < (k : Int) \/ rep = (k : Int) /\ no <= ((m + 1 : Nat) : Int)) := by omega
    simp only [this]
theorem Rao.stepN {rd : List (List Int)} {t s : aL} {k : Nat} (ht : bI t = true) (h : Rao rd t s k 0) (hk : k < t.rows.length) : ∀ m, m <= (atI t.rows (k : Int)).length -> Rao rd t (Abx rd k m s) k m
 | 0, _ => h
 | m + 1, hm => (Rao.stepN ht h hk m (by omega)).stepS ht hk (by omega)
theorem Rao.all {rd : List (List Int)} {t : aL} (ht : bI t = true) (hrd : ∀ x ∈ rd, x ∈ cZ t.rows) : ∀ k, k <= t.rows.length -> Rao rd t (Nay rd t k) k 0
 | 0, _ => by
  refine ⟨ht, rfl, fun _ => rfl, fun rep no hr => ?_⟩
  have h0 := bW hr
  rw [if_neg (by omega)]
  rfl
 | k + 1, hk => by
  have h := (Rao.all ht hrd k (by omega)).stepN ht (by omega) (atI t.rows (k : Int)).length (Nbd _)
  refine ⟨h.ok, h.n, h.len, fun rep no hr => ?_⟩
  show gU (Abx rd k _ (Nay rd t k)) rep no = _
  rw [h.row rep no hr]
  have h0 := bW hr
  by_cases e : rep = (k : Int) /\ ¬ no <= ((atI t.rows (k : Int)).length : Int)
  ·obtain ⟨e1, e2⟩ := e
   have er : gU t rep no = row0 t.n := by
    unfold gU
    rw [e1, if_neg e2]
   rw [er, ite_self, ite_self]
  ·have : (rep < (k : Int) \/ rep = (k : Int) /\ no <= ((atI t.rows (k : Int)).length : Int)) ↔ (rep < ((k + 1 : Nat) : Int) \/ rep = ((k + 1 : Nat) : Int) /\ no <= ((0 : Nat) : Int)) := by omega
   simp only [this]
theorem Zar {t : aL} (ht : bI t = true) : Pas t (aH t) (Nay (aH t) t t.rows.length) := by
 have h := Rao.all ht (rd := aH t) (fun x hx => Aa9 hx) t.rows.length (Nbd _)
 refine ⟨h.ok, h.n, fun rep no hr => ?_⟩
 rw [h.row rep no hr]
 have h0 := bW hr
 have h1 := dY ht
 by_cases e : [rep, no] ∈ aH t
 ·rw [if_pos e, if_neg (fun hh => hh.2 e)]
 ·rw [if_neg e, if_pos ⟨.inl (by omega), e⟩]
noncomputable def Tan (t : aL) : Nat -> aL
 | 0 => ⟨t.n, Nbg t.n.toNat []⟩
 | m + 1 => Pa0 (Tan t m) (atI (atI (aH t) (m : Int)) 0) (atI (atI (aH t) (m : Int)) 1) (gU t (atI (atI (aH t) (m : Int)) 0) (atI (atI (aH t) (m : Int)) 1))
theorem Kaf {t : aL} (ht : bI t = true) : ∀ m, m <= (aH t).length -> Pas t ((aH t).take m) (Tan t m)
 | 0, _ => by
  have hg := bL (aZ ht)
  refine ⟨?_, rfl, fun rep no hr => ?_⟩
  ·unfold Tan bI
   simp only [Mby, Obh, Nbq, beq_iff_eq]
   refine ⟨⟨aZ ht, by omega⟩, fun l hl => ?_⟩
   rw [Pb4 hl]
   simp
  ·have h0 := bW hr
   rw [if_neg (by simp)]
   unfold Tan gU
   have : atI (Nbg t.n.toNat ([] : List bH)) rep = [] := by
    unfold atI
    rw [Mb4, List.getElem?_replicate]
    split <;> rfl
   rw [this, if_neg (by simp only [Nbj]; omega)]
 | m + 1, hm => by
  have h := Kaf ht m (by omega)
  have hx := at_mem (show m < (aH t).length by omega)
  obtain ⟨hi, hs, he, -⟩ := fA ht hx
  have hi' : inst (Tan t m).n (atI (atI (aH t) (m : Int)) 0) (atI (atI (aH t) (m : Int)) 1) = true := by rw [h.n]; exact hi.2
  refine ⟨Tav h.ok hi' (by rw [h.n]; exact pY ht hi.2), h.n, fun rep no hr => ?_⟩
  show gU (Pa0 (Tan t m) _ _ _) rep no = _
  rw [Kau h.ok hi' (by rw [h.n]; exact hr), h.row rep no hr]
  rw [<- take_at (show m < (aH t).length by omega)]
  by_cases e : rep = atI (atI (aH t) (m : Int)) 0 /\ no = atI (atI (aH t) (m : Int)) 1
  ·rw [if_pos e, if_pos (Mb1 _ (by rw [e.1, e.2, <- he]; exact List.mem_singleton.2 rfl)), e.1, e.2]
  ·rw [if_neg e]
   have : [rep, no] ∈ (aH t).take m ++ [atI (aH t) (m : Int)] ↔ [rep, no] ∈ (aH t).take m := by
    rw [Pbu, Mb9]
    refine ⟨fun hh => hh.resolve_right fun e2 => e ?_, .inl⟩
    rw [<- e2]
    exact ⟨rfl, rfl⟩
   simp only [this]
theorem Za8 {t : aL} (ht : bI t = true) : Pas t (aH t) (Tan t (aH t).length) := by
 have h := Kaf ht _ (Nbd (aH t).length)
 rw [Nb0] at h
 exact h
end Go.Proofs.YtpgnlmfmlffjcaaGreat.Rf

namespace Go.Proofs.YtpgnlmfmlffjcaaGreat.Rf
set_option linter.unusedVariables false
set_option linter.unusedSimpArgs false
end Go.Proofs.YtpgnlmfmlffjcaaGreat.Rf

namespace Go.Proofs.YtpgnlmfmlffjcaaGreat.Rf
set_option linter.unusedVariables false
set_option linter.unusedSimpArgs false
end Go.Proofs.YtpgnlmfmlffjcaaGreat.Rf

namespace Go.Proofs.YtpgnlmfmlffjcaaGreat.Rf
set_option linter.unusedVariables false
set_option linter.unusedSimpArgs false
section
variable {T : Nat -> Ent} {β : Type}
end
end Go.Proofs.YtpgnlmfmlffjcaaGreat.Rf

namespace Go.Proofs.YtpgnlmfmlffjcaaGreat.Rf
set_option linter.unusedVariables false
set_option linter.unusedSimpArgs false
end Go.Proofs.YtpgnlmfmlffjcaaGreat.Rf
