/- Terms for the program's functions, and that they are right: part 9 of 9. -/
import Derived.Test.YtnlhnfifkninpaaGreatDoorRf8
import Derived.Lib.ItoaNum
set_option linter.unusedSimpArgs false
set_option linter.unusedVariables false
set_option linter.unnecessarySimpa false
set_option linter.unusedSectionVars false
namespace Go.Proofs.YtnlhnfifkninpaaGreatDoor.Rf
set_option linter.unusedVariables false
set_option linter.unusedSimpArgs false
def sumB (s : List UInt8) (h : Int) : Int := s.foldl (fun (h : Int) c => (33 * h + ((c.toNat : Nat) : Int)) % 65521) h
theorem sumB_rng : ∀ (s : List UInt8) (h : Int), 0 <= h -> h < 65521 -> 0 <= sumB s h /\ sumB s h < 65521
 | [], h, h0, h1 => ⟨h0, h1⟩
 | c :: s, h, h0, h1 => sumB_rng s ((33 * h + ((c.toNat : Nat) : Int)) % 65521) (by omega) (by omega)
theorem sumB_app (s : List UInt8) (c : UInt8) (h : Int) : sumB (s ++ [c]) h = (33 * sumB s h + ((c.toNat : Nat) : Int)) % 65521 := by
 unfold sumB
 rw [List.foldl_append]
 rfl
def headF (w : List UInt8) : List UInt8 := [UInt8.ofNat w.length] ++ w
def tailF (n : Int) : List UInt8 := [UInt8.ofNat (n / 256).toNat, UInt8.ofNat (n % 256).toNat]
def frameB (w : List UInt8) : List UInt8 := headF w ++ tailF (sumB (headF w) 7) ++ [1]
def lenF (t : List UInt8) : Nat := (atI t 0).toNat
def payF (t : List UInt8) : List UInt8 := (t.take (lenF t + 1)).drop 1
def okF (t : List UInt8) : Bool := decide (lenF t <= 200) && decide (lenF t + 4 <= t.length) && frameB (payF t) == t.take (lenF t + 4)
def framesB (t : List UInt8) : List (List UInt8) := if h : okF t = true then payF t :: framesB (t.drop (lenF t + 4)) else []
termination_by t.length
decreasing_by
 simp only [okF, Bool.and_eq_true, decide_eq_true_eq] at h
 rw [List.length_drop]
 omega
theorem framesB_go {t : List UInt8} (h : okF t = true) : framesB t = payF t :: framesB (t.drop (lenF t + 4)) := by
 rw [framesB, dif_pos h]
theorem framesB_stop {t : List UInt8} (h : okF t = false) : framesB t = [] := by
 rw [framesB, dif_neg (by rw [h]; exact Bool.false_ne_true)]
theorem okF_rng {t : List UInt8} (h : okF t = true) : lenF t <= 200 /\ lenF t + 4 <= t.length := by
 simp only [okF, Bool.and_eq_true, decide_eq_true_eq] at h
 exact h.1
theorem payF_len {t : List UInt8} : (payF t).length <= lenF t := by
 unfold payF
 rw [List.length_drop, List.length_take]
 omega
theorem framesB_mem (s : List UInt8) : (∀ w ∈ framesB s, w.length <= 200) /\ (framesB s).length <= s.length := by
 have : ∀ n (s : List UInt8), s.length <= n -> (∀ w ∈ framesB s, w.length <= 200) /\ (framesB s).length <= s.length := by
  intro n
  induction n with
  | zero =>
   intro s hs
   have : okF s = false := by
    cases h : okF s
    ·rfl
    ·have := okF_rng h
     omega
   rw [framesB_stop this]
   exact ⟨fun w hw => (by cases hw), by simp⟩
  | succ n ih =>
   intro s hs
   cases h : okF s
   ·rw [framesB_stop h]
    exact ⟨fun w hw => (by cases hw), by simp⟩
   ·have hr := okF_rng h
    obtain ⟨h1, h2⟩ := ih (s.drop (lenF s + 4)) (by rw [List.length_drop]; omega)
    rw [framesB_go h]
    refine ⟨fun w hw => ?_, ?_⟩
    ·rcases List.mem_cons.1 hw with rfl | hw
     ·exact Nat.le_trans payF_len hr.1
     ·exact h1 w hw
    ·rw [List.length_drop] at h2
     simp only [List.length_cons]
     omega
 exact this s.length s (Nat.le_refl _)
theorem lenF_drop {s : List UInt8} {f : Nat} (h : f < s.length) : lenF (s.drop f) = (atI s (f : Int)).toNat := by
 unfold lenF
 have : atI (s.drop f) 0 = atI s (f : Int) := by
  rw [List.drop_eq_getElem_cons h, atI_get h]
  rfl
 rw [this]
theorem payF_drop {s : List UInt8} {f : Nat} : payF (s.drop f) = (s.take (f + 1 + lenF (s.drop f))).drop (f + 1) := by
 unfold payF
 rw [List.drop_take, List.drop_take, List.drop_drop]
 congr 1
 omega
theorem cutF_drop {s : List UInt8} {f m : Nat} : (s.drop f).take m = (s.take (f + m)).drop f := by
 rw [List.drop_take]
 congr 1
 omega
def fldB (n : Int) : List (List UInt8) -> Int -> TTable -> Int × TTable
 | [], l, t => (l, t)
 | w :: ws, l, t => if (readB n w).2.2.2 then fldB n ws (l + ((w.length : Int) + 4)) (tset t (readB n w).1 (readB n w).2.1 (readB n w).2.2.1) else (l, t)
theorem readB_inst {n : Int} {s : List UInt8} (h : (readB n s).2.2.2 = true) : isGrp n = true /\ inst n (readB n s).1 (readB n s).2.1 = true := by
 unfold readB readWs at h ⊢
 split at h
 ·cases h
 ·rename_i hc
  rw [if_neg hc]
  simp only [Bool.or_eq_true, not_or, Bool.not_eq_true', Bool.not_eq_false', Bool.not_eq_true, Bool.not_eq_false, Bool.and_eq_true] at hc
  exact hc.1.2
theorem fldB_inv {n : Int} (hg : isGrp n = true) : ∀ (ws : List (List UInt8)) (l : Int) (t : TTable), TInv n t -> TInv n (fldB n ws l t).2
 | [], l, t, h => h
 | w :: ws, l, t, h => by
  simp only [fldB]
  split
  ·rename_i hok
   have hi := inst_rng (readB_inst hok).2
   have hn := isGrp_rng hg
   refine fldB_inv hg ws _ _ (TInv_set h (by omega) ?_ hi.2.2.1 hi.2.2.2 readB_len)
   have := h.2.1
   unfold InB
   omega
  ·exact h
def newT (n : Int) : TTable := ⟨n, List.replicate n.toNat []⟩
def fldR (n : Int) (s : List UInt8) : TTable × Int × Bool :=
 if isGrp n && !decide (20000 < (s.length : Int)) then ((fldB n (framesB s) 0 (newT n)).2, (fldB n (framesB s) 0 (newT n)).1, true) else (⟨0, []⟩, 0, false)
theorem drop_cons {α : Type} [Inhabited α] {s : List α} {i : Nat} (h : i < s.length) : s.drop i = atI s (i : Int) :: s.drop (i + 1) := by
 rw [List.drop_eq_getElem_cons h, atI_get h]
end Go.Proofs.YtnlhnfifkninpaaGreatDoor.Rf

namespace Go.Proofs.YtnlhnfifkninpaaGreatDoor.Rf
set_option linter.unusedVariables false
set_option linter.unusedSimpArgs false
theorem decD_num : ∀ n : Nat, Lib.decDigits n = numD n := by
 intro n
 induction n using Nat.strongRecOn with
 | _ n ih =>
  rw [Lib.decDigits]
  by_cases h : n < 10
  ·rw [numD_lt h]
   simp [h]
  ·rw [numD_ge (by omega)]
   simp [h, ih (n / 10) (by omega)]
theorem itoa_num {n : Int} (h0 : 0 <= n) : Lib.itoa n = numT n := by
 unfold Lib.itoa numT
 rw [if_neg (by omega), decD_num]
theorem fmtE_num {n : Int} (h0 : 0 <= n) (h1 : n <= 9999) : fmtE [i64 n, i64 10] = some [.str (numT n)] := by
 show (if (10 : Int) = 10 /\ -9223372036854775808 <= n /\ n <= 9223372036854775807 then some [D.str (Lib.itoa n)] else none) = _
 rw [if_pos ⟨rfl, by omega, by omega⟩, itoa_num h0]
theorem join_B {b : UInt8} : ∀ xs : List (List UInt8), Lib.join xs [b] = joinB b xs
 | [] => rfl
 | [x] => by simp [Lib.join, List.intercalate, joinB]
 | x :: y :: r => by
  have ih := join_B (b := b) (y :: r)
  simp only [Lib.join, List.intercalate, joinB] at ih ⊢
  simp [List.intersperse, <- ih]
theorem strsOf_rL : ∀ xs : List (List UInt8), strsOf (xs.map fun s => [D.str s]) = some xs
 | [] => rfl
 | x :: r => by
  simp only [List.map_cons, strsOf, strsOf_rL r]
  rfl
theorem joinE_B {xs : List (List UInt8)} {b : UInt8} (hne : xs ≠ []) (hl : xs.length <= 100000) (hw : ∀ w ∈ xs, w.length <= 10000) : joinE [rL xs, .str [b]] = some [.str (joinB b xs)] := by
 have e : (rL xs : D) = .rows 1 (xs.map fun s => [D.str s]) := rfl
 have h1 := joinB_len (b := b) (ws := xs) hw
 rw [e]
 show (strsOf (xs.map fun s => [D.str s])).bind _ = _
 rw [strsOf_rL, Option.bind_some, if_pos, join_B]
 rw [join_B]
 exact ⟨hne, by omega, by omega⟩
theorem cmdT_len {c : TCmd} (hc : cmdOk c = true) : (cmdT c).length <= 100000 := by
 obtain ⟨⟨i0, i1⟩, ⟨f0, f1⟩, ⟨t0, t1⟩, a0, a1⟩ := cmdOk_rng hc
 have li := numT_len i1
 have lf := numT_len f1
 have lt := numT_len t1
 have la := numT_len a1
 unfold cmdT
 split
 ·simp only [List.length_append, List.length_cons, List.length_nil]; omega
 ·split
  ·simp only [List.length_append, List.length_cons, List.length_nil]; omega
  ·simp
end Go.Proofs.YtnlhnfifkninpaaGreatDoor.Rf

namespace Go.Proofs.YtnlhnfifkninpaaGreatDoor.Rf
set_option linter.unusedVariables false
set_option linter.unusedSimpArgs false
theorem numD_few : ∀ (k n : Nat), n < 10 ^ (k + 1) -> (numD n).length <= k + 1
 | 0, n, h => by
  rw [numD_lt (by simpa using h)]
  simp
 | k + 1, n, h => by
  rcases Nat.lt_or_ge n 10 with h1 | h1
  ·rw [numD_lt h1]; simp
  ·rw [numD_ge h1, List.length_append]
   have := numD_few k (n / 10) (by rw [Nat.pow_succ] at h; omega)
   simp only [List.length_cons, List.length_nil]
   omega
theorem numT_four {n : Int} (h : n <= 9999) : (numT n).length <= 4 := numD_few 3 n.toNat (by simp; omega)
theorem joinB_four {b : UInt8} : ∀ {ws : List (List UInt8)}, (∀ w ∈ ws, w.length <= 4) -> (joinB b ws).length <= 5 * ws.length
 | [], _ => by simp [joinB]
 | [v], h => by
  have := h v (by simp)
  simp only [joinB, List.length_cons, List.length_nil]
  omega
 | v :: u :: ws, h => by
  have ih := joinB_four (b := b) (ws := u :: ws) (fun w hw => h w (List.mem_cons_of_mem _ hw))
  have := h v (by simp)
  simp only [joinB, List.length_append, List.length_cons] at ih ⊢
  omega
theorem cmdT_few {c : TCmd} (hc : cmdOk c = true) : (cmdT c).length <= 24 := by
 obtain ⟨⟨i0, i1⟩, ⟨f0, f1⟩, ⟨t0, t1⟩, a0, a1⟩ := cmdOk_rng hc
 have li := numT_four i1
 have lf := numT_four f1
 have lt := numT_four t1
 have la := numT_four a1
 unfold cmdT
 split
 ·simp only [List.length_append, List.length_cons, List.length_nil]; omega
 ·split
  ·simp only [List.length_append, List.length_cons, List.length_nil]; omega
  ·simp
theorem attrT_few {n : Int} {a : TAttr} (hg : isGrp n = true) (h : attrOk n a = true) : (attrT a).length <= 30 := by
 have h1 := attrOk_rng h
 have hn := isGrp_rng hg
 have l1 := numT_four (n := a.seq) (by omega)
 have l2 := joinB_four (b := 44) (ws := a.deps.map numT) (by
  intro w hw
  obtain ⟨x, h2, rfl⟩ := List.mem_map.1 hw
  exact numT_four (by have := (h1.2.2.2 x h2).2; omega))
 rw [List.length_map] at l2
 simp only [attrT, List.length_append, List.length_cons]
 omega
theorem rowT_few {n rep no : Int} {r : TRow} (hg : isGrp n = true) (hi : inst n rep no = true) (hr : rowOk n r = true) : (rowT rep no r).length <= 100 := by
 have h1 := inst_rng hi
 have hn := isGrp_rng hg
 have h2 := rowOk_rng hr
 have l1 := numT_four (n := rep) (by omega)
 have l2 := numT_four (n := no) (by omega)
 have l3 := numT_four (n := r.ballot) (by omega)
 have l4 := numT_four (n := r.vote) (by omega)
 have l5 := numT_four (n := r.state) (by omega)
 have l6 := cmdT_few (rowOk_cmd hr)
 have l7 := attrT_few hg (rowOk_attr hr hg)
 simp only [rowT, List.length_append, List.length_cons]
 omega
theorem frameB_len {w : List UInt8} : (frameB w).length = w.length + 4 := by
 simp only [frameB, headF, tailF, List.length_append, List.length_cons, List.length_nil]
 omega
def sumL (ws : List (List UInt8)) : Nat := ws.foldr (fun w m => w.length + 4 + m) 0
theorem sumL_frames (s : List UInt8) : sumL (framesB s) <= s.length := by
 have : ∀ n (s : List UInt8), s.length <= n -> sumL (framesB s) <= s.length := by
  intro n
  induction n with
  | zero =>
   intro s hs
   have : okF s = false := by
    cases h : okF s
    ·rfl
    ·have := okF_rng h
     omega
   rw [framesB_stop this]
   exact Nat.zero_le _
  | succ n ih =>
   intro s hs
   cases h : okF s
   ·rw [framesB_stop h]
    exact Nat.zero_le _
   ·have hr := okF_rng h
    have h1 := ih (s.drop (lenF s + 4)) (by rw [List.length_drop]; omega)
    have h2 := payF_len (t := s)
    rw [framesB_go h]
    rw [List.length_drop] at h1
    show (payF s).length + 4 + sumL (framesB (s.drop (lenF s + 4))) <= s.length
    omega
 exact this s.length s (Nat.le_refl _)
theorem fldB_le {n : Int} : ∀ (ws : List (List UInt8)) (l : Int) (t : TTable), (fldB n ws l t).1 <= l + (sumL ws : Nat)
 | [], l, t => by simp [fldB, sumL]
 | w :: ws, l, t => by
  have e : sumL (w :: ws) = w.length + 4 + sumL ws := rfl
  rw [e]
  simp only [fldB]
  split
  ·have := fldB_le (n := n) ws (l + ((w.length : Int) + 4)) (tset t (readB n w).1 (readB n w).2.1 (readB n w).2.2.1)
   omega
  ·simp only
   omega
def addR (n : Int) (s : List UInt8) (rep no : Int) (r : TRow) : List UInt8 × Bool :=
 if (textR n rep no r).2 && !decide (20000 < (s.length : Int)) && !decide ((fldB n (framesB s) 0 (newT n)).1 < (s.length : Int)) && !decide (20000 < (s.length : Int) + ((rowT rep no r).length : Int) + 4) then (s ++ frameB (rowT rep no r), true) else ([], false)
end Go.Proofs.YtnlhnfifkninpaaGreatDoor.Rf
