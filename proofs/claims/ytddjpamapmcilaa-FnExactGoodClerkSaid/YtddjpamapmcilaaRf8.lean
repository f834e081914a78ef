/- Terms for the program's functions, and that they are right: part 8 of 8. -/
import Derived.Test.YtddjpamapmcilaaRf7
import Derived.IntWalk
set_option linter.unusedSimpArgs false
set_option linter.unusedVariables false
set_option linter.unnecessarySimpa false
set_option linter.unusedSectionVars false
/- Pure reasoning: what terms come to. Nothing of Go here. -/
namespace Go.Proofs.Ytddjpamapmcilaa.Rf
set_option linter.unusedVariables false
set_option linter.unusedSimpArgs false

abbrev i64 (n : Int) : D := .int .i64 n
def rI (xs : List Int) : D := .rows 1 (xs.map fun n => [i64 n])
def rP (xs : List (Int × Int)) : D := .rows 2 (xs.map fun p => [i64 p.1, i64 p.2])

theorem wrap_i64 {n : Int} (h1 : -9223372036854775808 ≤ n) (h2 : n ≤ 9223372036854775807) : IntKind.i64.wrap n = n := IntWalk.i64_in n ⟨h1, h2⟩

section
variable {T : Nat → Ent} {β : Type}
theorem Fun_of {f : Nat} {t : Tm Unit} (h : T f = .tm t) {args : List D} {o : Out Unit} (ho : Ev T t args = some o) (hk : o.kind = .ret) : Fun T f args = some o.vals := by
  rw [Fun_tm h, ho, Option.bind_some]
  unfold retOf
  rw [if_pos hk]

/-! One step at a time; the values being known. -/
theorem lt_of {p : Prim} {xs : List Atom} {n : Nat} {k : Tm β} {ρ ds : List D} (h : p.run (xs.map (·.val ρ)) = some ds) (hn : ds.length = n) : Ev T (.lt none p xs n k) ρ = Ev T k (ρ ++ ds) := by
  rw [Ev_lt]
  simp only [gOn, if_true, h, Option.bind_some, hn]
theorem call_of {f : Nat} {xs : List Atom} {n : Nat} {os : List Atom} {k : Tm β} {ρ ds : List D} (h : Fun T f (xs.map (·.val ρ)) = some ds) (hn : ds.length = n) : Ev T (.call none f xs n os k) ρ = Ev T k (ρ ++ ds) := by
  rw [Ev_call]
  simp only [gOn, if_true, h, Option.bind_some, hn]

/-- A loop that looks at the places 0 .. n and ends at the first that is not right. -/
theorem Lp_scan {body : Tm β} {ρ : List D} {n : Nat} {ok : Nat → Bool} {bad : Out β → Prop} {fin : Out β → Prop}
    (h1 : ∀ i : Nat, i < n → ok i = true → ∃ o, Ev T body (ρ ++ [i64 i]) = some o ∧ o.kind = .cont ∧ o.vals = [i64 ((i : Int) + 1)])
    (h2 : ∀ i : Nat, i < n → ok i = false → ∃ o, Ev T body (ρ ++ [i64 i]) = some o ∧ o.kind ≠ .cont ∧ bad o)
    (h3 : ∃ o, Ev T body (ρ ++ [i64 n]) = some o ∧ o.kind ≠ .cont ∧ fin o) :
    ∃ o, Lp T body ρ [i64 0] = some o ∧ ((∀ i, i < n → ok i = true) ∧ fin o ∨ (∃ i, i < n ∧ ok i = false) ∧ bad o) := by
  have key : ∀ m i : Nat, i + m = n → (∀ j, j < i → ok j = true) → ∃ o, Lp T body ρ [i64 i] = some o ∧ ((∀ i, i < n → ok i = true) ∧ fin o ∨ (∃ i, i < n ∧ ok i = false) ∧ bad o) := by
    intro m
    induction m with
    | zero =>
      intro i hi hall
      obtain rfl : i = n := by omega
      obtain ⟨o, h4, h5, h6⟩ := h3
      exact ⟨o, by rw [Lp_eq, h4, Option.bind_some, if_neg h5], .inl ⟨hall, h6⟩⟩
    | succ m ih =>
      intro i hi hall
      cases hok : ok i with
      | true =>
        obtain ⟨o, h4, h5, h6⟩ := h1 i (by omega) hok
        obtain ⟨o', h7, h8⟩ := ih (i + 1) (by omega) (fun j hj => by
          rcases Nat.lt_or_ge j i with h | h
          · exact hall j h
          · obtain rfl : j = i := by omega
            exact hok)
        refine ⟨o', ?_, h8⟩
        rw [Lp_eq, h4, Option.bind_some, if_pos h5, h6]
        exact h7
      | false =>
        obtain ⟨o, h4, h5, h6⟩ := h2 i (by omega) hok
        exact ⟨o, by rw [Lp_eq, h4, Option.bind_some, if_neg h5], .inr ⟨⟨i, by omega, hok⟩, h6⟩⟩
  exact key n 0 (by omega) (fun j hj => by omega)
/-- A loop that goes over the places 0 .. n with one value beside. -/
theorem Lp_fold {body : Tm β} {ρ : List D} {n : Nat} {st : Nat → D} {fin : Out β → Prop}
    (h1 : ∀ i : Nat, i < n → ∃ o, Ev T body (ρ ++ [st i, i64 i]) = some o ∧ o.kind = .cont ∧ o.vals = [st (i + 1), i64 ((i : Int) + 1)])
    (h3 : ∃ o, Ev T body (ρ ++ [st n, i64 n]) = some o ∧ o.kind ≠ .cont ∧ fin o) :
    ∃ o, Lp T body ρ [st 0, i64 0] = some o ∧ fin o := by
  have key : ∀ m i : Nat, i + m = n → ∃ o, Lp T body ρ [st i, i64 i] = some o ∧ fin o := by
    intro m
    induction m with
    | zero =>
      intro i hi
      obtain rfl : i = n := by omega
      obtain ⟨o, h4, h5, h6⟩ := h3
      exact ⟨o, by rw [Lp_eq, h4, Option.bind_some, if_neg h5], h6⟩
    | succ m ih =>
      intro i hi
      obtain ⟨o, h4, h5, h6⟩ := h1 i (by omega)
      obtain ⟨o', h7, h8⟩ := ih (i + 1) (by omega)
      refine ⟨o', ?_, h8⟩
      rw [Lp_eq, h4, Option.bind_some, if_pos h5, h6]
      exact h7
  exact key n 0 (by omega)
end

/-! What comes in. -/
theorem WT_ints {bytes : Nat} {d : D} (h : WT (.sl bytes [.int .i64]) d) : ∃ xs, d = rI xs ∧ xs.length * bytes ≤ reachBytes := by
  simp only [WT] at h
  obtain ⟨rs, rfl, h1, h2⟩ := h
  have : ∀ rs : List (List D), (∀ r ∈ rs, WTs [.int .i64] r) → ∃ xs : List Int, rs = xs.map (fun n => [i64 n]) := by
    intro rs
    induction rs with
    | nil => exact fun _ => ⟨[], rfl⟩
    | cons r rs ih =>
      intro h
      obtain ⟨xs, hx⟩ := ih fun r hr => h r (List.mem_cons_of_mem _ hr)
      have := h r List.mem_cons_self
      simp only [WTs, WT] at this
      obtain ⟨d, ds, rfl, ⟨n, rfl, -⟩, rfl⟩ := this
      exact ⟨n :: xs, by rw [hx]; rfl⟩
  obtain ⟨xs, rfl⟩ := this rs h2
  exact ⟨xs, rfl, by simpa using h1⟩
theorem WT_pairs {bytes : Nat} {d : D} (h : WT (.sl bytes [.int .i64, .int .i64]) d) : ∃ xs, d = rP xs ∧ xs.length * bytes ≤ reachBytes := by
  simp only [WT] at h
  obtain ⟨rs, rfl, h1, h2⟩ := h
  have : ∀ rs : List (List D), (∀ r ∈ rs, WTs [.int .i64, .int .i64] r) → ∃ xs : List (Int × Int), rs = xs.map (fun p => [i64 p.1, i64 p.2]) := by
    intro rs
    induction rs with
    | nil => exact fun _ => ⟨[], rfl⟩
    | cons r rs ih =>
      intro h
      obtain ⟨xs, hx⟩ := ih fun r hr => h r (List.mem_cons_of_mem _ hr)
      have := h r List.mem_cons_self
      simp only [WTs, WT] at this
      obtain ⟨d, ds, rfl, ⟨n, rfl, -⟩, d', ds', rfl, ⟨m, rfl, -⟩, rfl⟩ := this
      exact ⟨(n, m) :: xs, by rw [hx]; rfl⟩
  obtain ⟨xs, rfl⟩ := this rs h2
  exact ⟨xs, rfl, by simpa using h1⟩

/-! Steps on lists of whole numbers, of pairs of them. -/
theorem run_len {sz : Nat} {rs : List (List D)} : Prim.len.run [.rows sz rs] = some [i64 rs.length] := rfl
theorem run_lss {a b : Int} : (Prim.bin .lss).run [i64 a, i64 b] = some [.bool (decide (a < b))] := by simp [Prim.run, binD, intOp]
theorem run_gtr {a b : Int} : (Prim.bin .gtr).run [i64 a, i64 b] = some [.bool (decide (a > b))] := by simp [Prim.run, binD, intOp]
theorem run_leq {a b : Int} : (Prim.bin .leq).run [i64 a, i64 b] = some [.bool (decide (a ≤ b))] := by simp [Prim.run, binD, intOp]
theorem run_geq {a b : Int} : (Prim.bin .geq).run [i64 a, i64 b] = some [.bool (decide (a ≥ b))] := by simp [Prim.run, binD, intOp]
theorem run_neq {a b : Int} : (Prim.bin .neq).run [i64 a, i64 b] = some [.bool (!(a == b))] := by simp [Prim.run, binD, intOp, bne]
theorem run_eql {a b : Int} : (Prim.bin .eql).run [i64 a, i64 b] = some [.bool (a == b)] := by simp [Prim.run, binD, intOp]
theorem run_add {a b : Int} (h1 : -9223372036854775808 ≤ a + b) (h2 : a + b ≤ 9223372036854775807) : (Prim.bin .add).run [i64 a, i64 b] = some [i64 (a + b)] := by simp [Prim.run, binD, intOp, wrap_i64 h1 h2]
theorem run_sub {a b : Int} (h1 : -9223372036854775808 ≤ a - b) (h2 : a - b ≤ 9223372036854775807) : (Prim.bin .sub).run [i64 a, i64 b] = some [i64 (a - b)] := by simp [Prim.run, binD, intOp, wrap_i64 h1 h2]
theorem run_not {b : Bool} : Prim.not.run [.bool b] = some [.bool (!b)] := rfl
theorem run_pick {c : Bool} {a b : D} : Prim.pick.run [.bool c, a, b] = some [if c then a else b] := rfl
theorem run_eqb {a b : Bool} : (Prim.eqb true).run [.bool a, .bool b] = some [.bool (!(a == b))] := rfl
theorem rI_len {xs : List Int} : Prim.len.run [rI xs] = some [i64 xs.length] := by simp [rI, Prim.run]
theorem rP_len {xs : List (Int × Int)} : Prim.len.run [rP xs] = some [i64 xs.length] := by simp [rP, Prim.run]
theorem rI_inb {xs : List Int} {i : Nat} (h : i < xs.length) : Prim.inb.run [rI xs, i64 i] = some [] := by
  simp only [rI, Prim.run, List.length_map]
  rw [if_pos ⟨by omega, by omega⟩]
theorem rP_inb {xs : List (Int × Int)} {i : Nat} (h : i < xs.length) : Prim.inb.run [rP xs, i64 i] = some [] := by
  simp only [rP, Prim.run, List.length_map]
  rw [if_pos ⟨by omega, by omega⟩]
theorem rI_row {xs : List Int} {i : Nat} {x : Int} (h : xs[i]? = some x) : (Prim.row 1 0 [true]).run [rI xs, i64 i] = some [i64 x] := by
  simp [rI, Prim.run, h, kindsOk, D.isSc]
theorem rP_row {xs : List (Int × Int)} {i : Nat} {x : Int × Int} (h : xs[i]? = some x) : (Prim.row 2 0 [true, true]).run [rP xs, i64 i] = some [i64 x.1, i64 x.2] := by
  simp [rP, Prim.run, h, kindsOk, D.isSc]
theorem rI_set {xs : List Int} {i : Nat} {x : Int} (h : i < xs.length) : (Prim.set 1 0 1).run [rI xs, i64 i, i64 x] = some [rI (xs.set i x)] := by
  simp [rI, Prim.run, h, List.map_set]
theorem rP_set {xs : List (Int × Int)} {i : Nat} {x y : Int} (h : i < xs.length) : (Prim.set 2 0 2).run [rP xs, i64 i, i64 x, i64 y] = some [rP (xs.set i (x, y))] := by
  simp [rP, Prim.run, h, List.map_set]
theorem rI_make {n : Nat} {b : Nat} (h : n * b ≤ boundB) : (Prim.make b [i64 0]).run [i64 n] = some [rI (List.replicate n 0)] := by
  simp [rI, Prim.run, h]
theorem rP_make {n : Nat} {b : Nat} (h : n * b ≤ boundB) : (Prim.make b [i64 0, i64 0]).run [i64 n] = some [rP (List.replicate n (0, 0))] := by
  simp [rP, Prim.run, h]
theorem run_eqs2 {a b c d : Int} : (Prim.eqs [0, 0]).run [i64 a, i64 b, i64 c, i64 d] = some [.bool (a == c && b == d)] := by
  simp only [Prim.run, List.length_cons, List.length_nil, List.take, List.drop, eqsD, eqD, if_true, Option.bind_some, Option.map_some]
  cases a == c <;> cases b == d <;> simp

theorem list_ext_len {α : Type} {xs ys : List α} (h : xs.length = ys.length) (h2 : ∀ i, i < xs.length → xs[i]? = ys[i]?) : xs = ys := by
  apply List.ext_getElem? 
  intro i
  rcases Nat.lt_or_ge i xs.length with h3 | h3
  · exact h2 i h3
  · rw [List.getElem?_eq_none h3, List.getElem?_eq_none (by omega)]

section
variable {T : Nat → Ent}
/-- A loop over places that returns r at the first that is not right, and goes on behind the last. -/
theorem scan_ret {body k : Tm Unit} {ρ : List D} {n : Nat} {ok : Nat → Bool} {r : List D}
    (h1 : ∀ i : Nat, i < n → ok i = true → ∃ o, Ev T body (ρ ++ [i64 i]) = some o ∧ o.kind = .cont ∧ o.vals = [i64 ((i : Int) + 1)])
    (h2 : ∀ i : Nat, i < n → ok i = false → ∃ o, Ev T body (ρ ++ [i64 i]) = some o ∧ o.kind = .ret ∧ o.vals = r)
    (h3 : ∃ o, Ev T body (ρ ++ [i64 n]) = some o ∧ o.kind = .yield 1 ∧ o.vals = []) :
    (Ev T (.bind 1 (.loop [.c (i64 0)] body) k) ρ).bind retOf = if ∀ i, i < n → ok i = true then (Ev T k ρ).bind retOf else some r := by
  obtain ⟨o, h4, h5⟩ := Lp_scan (bad := fun o => o.kind = .ret ∧ o.vals = r) (fin := fun o => o.kind = .yield 1 ∧ o.vals = []) h1
    (fun i hi hok => by obtain ⟨o, e1, e2, e3⟩ := h2 i hi hok; exact ⟨o, e1, by rw [e2]; simp, e2, e3⟩)
    (by obtain ⟨o, e1, e2, e3⟩ := h3; exact ⟨o, e1, by rw [e2]; simp, e2, e3⟩)
  rw [Ev_bind, Ev_loop]
  show ((Lp T body ρ [i64 0]).bind _).bind _ = _
  rw [h4, Option.bind_some]
  rcases h5 with ⟨hall, e1, e2⟩ | ⟨⟨i, hi, hok⟩, e1, e2⟩
  · rw [if_pos e1, if_pos hall, e2, List.append_nil]
  · rw [if_neg (by rw [e1]; simp), if_neg (fun h => by rw [h i hi] at hok; cases hok), Option.bind_some]
    unfold retOf
    rw [if_pos e1, e2]
/-- A loop that goes over all places, with one value beside. -/
theorem fold_to {β : Type} {body k : Tm β} {ρ : List D} {a : Atom} {n : Nat} {st : Nat → D} (h0 : a.val ρ = st 0)
    (h1 : ∀ i : Nat, i < n → ∃ o, Ev T body (ρ ++ [st i, i64 i]) = some o ∧ o.kind = .cont ∧ o.vals = [st (i + 1), i64 ((i : Int) + 1)])
    (h3 : ∃ o, Ev T body (ρ ++ [st n, i64 n]) = some o ∧ o.kind = .yield 1 ∧ o.vals = [st n]) :
    Ev T (.bind 1 (.loop [a, .c (i64 0)] body) k) ρ = Ev T k (ρ ++ [st n]) := by
  obtain ⟨o, h4, h5, h6⟩ := Lp_fold (fin := fun o => o.kind = .yield 1 ∧ o.vals = [st n]) h1 (by obtain ⟨o, e1, e2, e3⟩ := h3; exact ⟨o, e1, by rw [e2]; simp, e2, e3⟩)
  rw [Ev_bind, Ev_loop]
  show ((Lp T body ρ [a.val ρ, i64 0]).bind _) = _
  rw [h0, h4, Option.bind_some, if_pos h5, h6]
end
/-- The first i of ys, then zeros. -/
def upto {α : Type} (z : α) (ys : List α) (i : Nat) : List α := ys.take i ++ List.replicate (ys.length - i) z
theorem upto_zero {α : Type} (z : α) (ys : List α) : upto z ys 0 = List.replicate ys.length z := by simp [upto]
theorem upto_all {α : Type} (z : α) (ys : List α) : upto z ys ys.length = ys := by simp [upto]
theorem upto_len {α : Type} (z : α) (ys : List α) {i : Nat} (h : i ≤ ys.length) : (upto z ys i).length = ys.length := by simp [upto]; omega
theorem upto_set {α : Type} (z : α) (ys : List α) {i : Nat} {y : α} (h : ys[i]? = some y) : (upto z ys i).set i y = upto z ys (i + 1) := by
  have hlt := (List.getElem?_eq_some_iff.1 h).1
  apply List.ext_getElem?
  intro j
  rw [List.getElem?_set]
  unfold upto
  rw [List.length_append, List.length_take, List.length_replicate]
  by_cases e : i = j
  · subst e
    rw [if_pos rfl, if_pos (by omega), List.getElem?_append_left (by simp; omega), List.getElem?_take, if_pos (by omega)]
    exact h.symm
  · rw [if_neg e]
    rcases Nat.lt_or_ge j i with hj | hj
    · rw [List.getElem?_append_left (by simp; omega), List.getElem?_append_left (by simp; omega), List.getElem?_take, List.getElem?_take, if_pos hj, if_pos (by omega)]
    · rw [List.getElem?_append_right (by simp; omega), List.getElem?_append_right (by simp; omega), List.getElem?_replicate, List.getElem?_replicate]
      simp only [List.length_take]
      by_cases h2 : j < ys.length
      · rw [if_pos (by omega), if_pos (by omega)]
      · rw [if_neg (by omega), if_neg (by omega)]
end Go.Proofs.Ytddjpamapmcilaa.Rf

/- Pure reasoning: terms by what they end with. -/
namespace Go.Proofs.Ytddjpamapmcilaa.Rf
set_option linter.unusedVariables false
set_option linter.unusedSimpArgs false

section
variable {T : Nat → Ent} {β : Type}
/-- How a term ends, and with what. -/
noncomputable def Er (T : Nat → Ent) (t : Tm β) (ρ : List D) : Option (Kind × List D) := (Ev T t ρ).map fun o => (o.kind, o.vals)
def retR (r : Kind × List D) : Option (List D) := if r.1 = .ret then some r.2 else none
def iteR {α : Type} (d : D) (a b : Option α) : Option α := match d with
  | .bool true => a
  | .bool false => b
  | _ => none
def gdR (d : D) (w : Bool) : Bool := match d with
  | .bool b => b == w
  | _ => false
theorem retR_ret {ds : List D} : retR (.ret, ds) = some ds := rfl
theorem iteR_true {α : Type} {a b : Option α} : iteR (.bool true) a b = a := rfl
theorem iteR_false {α : Type} {a b : Option α} : iteR (.bool false) a b = b := rfl
theorem gdR_bool {b w : Bool} : gdR (.bool b) w = (b == w) := rfl
theorem gdR_tt : gdR (.bool true) true = true := rfl
theorem gdR_tf : gdR (.bool true) false = false := rfl
theorem gdR_ft : gdR (.bool false) true = false := rfl
theorem gdR_ff : gdR (.bool false) false = true := rfl
theorem iteR_bool {α : Type} {c : Bool} {a b : Option α} : iteR (.bool c) a b = if c = true then a else b := by cases c <;> rfl
theorem Fun_r {f : Nat} {t : Tm Unit} (h : T f = .tm t) (args : List D) : Fun T f args = (Er T t args).bind retR := by
  rw [Fun_tm h, Er]
  cases Ev T t args <;> rfl
theorem Er_leaf (k : Kind) (xs : List Atom) (e : β) (ρ : List D) : Er T (.leaf k xs e) ρ = some (k, xs.map (·.val ρ)) := by
  rw [Er, Ev_leaf]; rfl
/-- Goes on with what a step gave. No closure: what is not yet reached is not looked at. -/
noncomputable def stepT (T : Nat → Ent) (k : Tm β) (ρ : List D) (n : Nat) (a : Option (List D)) : Option (Kind × List D) := a.bind fun ds => if ds.length = n then Er T k (ρ ++ ds) else none
theorem stepT_of {k : Tm β} {ρ ds : List D} {n : Nat} (h : ds.length = n) : stepT T k ρ n (some ds) = Er T k (ρ ++ ds) := by rw [stepT, Option.bind_some, if_pos h]
theorem stepT_0 {k : Tm β} {ρ : List D} : stepT T k ρ 0 (some []) = Er T k ρ := (stepT_of (ds := []) rfl).trans (by rw [List.append_nil])
theorem stepT_1 {k : Tm β} {ρ : List D} {a : D} : stepT T k ρ 1 (some [a]) = Er T k (ρ ++ [a]) := stepT_of rfl
theorem stepT_2 {k : Tm β} {ρ : List D} {a b : D} : stepT T k ρ 2 (some [a, b]) = Er T k (ρ ++ [a, b]) := stepT_of rfl
theorem stepT_3 {k : Tm β} {ρ : List D} {a b c : D} : stepT T k ρ 3 (some [a, b, c]) = Er T k (ρ ++ [a, b, c]) := stepT_of rfl
theorem stepT_4 {k : Tm β} {ρ : List D} {a b c d : D} : stepT T k ρ 4 (some [a, b, c, d]) = Er T k (ρ ++ [a, b, c, d]) := stepT_of rfl
theorem stepT_5 {k : Tm β} {ρ : List D} {a b c d e : D} : stepT T k ρ 5 (some [a, b, c, d, e]) = Er T k (ρ ++ [a, b, c, d, e]) := stepT_of rfl
theorem stepT_6 {k : Tm β} {ρ : List D} {a b c d e f : D} : stepT T k ρ 6 (some [a, b, c, d, e, f]) = Er T k (ρ ++ [a, b, c, d, e, f]) := stepT_of rfl
noncomputable def iteT (T : Nat → Ent) (t e : Tm β) (ρ : List D) (c : D) : Option (Kind × List D) := iteR c (Er T t ρ) (Er T e ρ)
theorem iteT_true {t e : Tm β} {ρ : List D} : iteT T t e ρ (.bool true) = Er T t ρ := rfl
theorem iteT_false {t e : Tm β} {ρ : List D} : iteT T t e ρ (.bool false) = Er T e ρ := rfl
noncomputable def ltT (T : Nat → Ent) (p : Prim) (xs : List Atom) (n : Nat) (k : Tm β) (ρ : List D) (w : Bool) (c : D) : Option (Kind × List D) :=
  if gdR c w = true then stepT T k ρ n (p.run (xs.map (·.val ρ))) else Er T k (ρ ++ List.replicate n .undef)
theorem ltT_tt {p : Prim} {xs : List Atom} {n : Nat} {k : Tm β} {ρ : List D} : ltT T p xs n k ρ true (.bool true) = stepT T k ρ n (p.run (xs.map (·.val ρ))) := rfl
theorem ltT_ff {p : Prim} {xs : List Atom} {n : Nat} {k : Tm β} {ρ : List D} : ltT T p xs n k ρ false (.bool false) = stepT T k ρ n (p.run (xs.map (·.val ρ))) := rfl
theorem ltT_tf {p : Prim} {xs : List Atom} {n : Nat} {k : Tm β} {ρ : List D} : ltT T p xs n k ρ true (.bool false) = Er T k (ρ ++ List.replicate n .undef) := rfl
theorem ltT_ft {p : Prim} {xs : List Atom} {n : Nat} {k : Tm β} {ρ : List D} : ltT T p xs n k ρ false (.bool true) = Er T k (ρ ++ List.replicate n .undef) := rfl
noncomputable def callT (T : Nat → Ent) (f : Nat) (xs : List Atom) (n : Nat) (os : List Atom) (k : Tm β) (ρ : List D) (w : Bool) (c : D) : Option (Kind × List D) :=
  if gdR c w = true then stepT T k ρ n (Fun T f (xs.map (·.val ρ))) else Er T k (ρ ++ (List.replicate (n - os.length) .undef ++ os.map (·.val ρ)))
theorem callT_tt {f : Nat} {xs : List Atom} {n : Nat} {os : List Atom} {k : Tm β} {ρ : List D} : callT T f xs n os k ρ true (.bool true) = stepT T k ρ n (Fun T f (xs.map (·.val ρ))) := rfl
theorem callT_ff {f : Nat} {xs : List Atom} {n : Nat} {os : List Atom} {k : Tm β} {ρ : List D} : callT T f xs n os k ρ false (.bool false) = stepT T k ρ n (Fun T f (xs.map (·.val ρ))) := rfl
theorem callT_tf {f : Nat} {xs : List Atom} {n : Nat} {os : List Atom} {k : Tm β} {ρ : List D} : callT T f xs n os k ρ true (.bool false) = Er T k (ρ ++ (List.replicate (n - os.length) .undef ++ os.map (·.val ρ))) := rfl
theorem callT_ft {f : Nat} {xs : List Atom} {n : Nat} {os : List Atom} {k : Tm β} {ρ : List D} : callT T f xs n os k ρ false (.bool true) = Er T k (ρ ++ (List.replicate (n - os.length) .undef ++ os.map (·.val ρ))) := rfl
theorem ltT_u {p : Prim} {xs : List Atom} {n : Nat} {k : Tm β} {ρ : List D} {w : Bool} : ltT T p xs n k ρ w .undef = Er T k (ρ ++ List.replicate n .undef) := by simp [ltT, gdR]
theorem callT_u {f : Nat} {xs : List Atom} {n : Nat} {os : List Atom} {k : Tm β} {ρ : List D} {w : Bool} : callT T f xs n os k ρ w .undef = Er T k (ρ ++ (List.replicate (n - os.length) .undef ++ os.map (·.val ρ))) := by simp [callT, gdR]
theorem Er_lt0 (p : Prim) (xs : List Atom) (n : Nat) (k : Tm β) (ρ : List D) : Er T (.lt none p xs n k) ρ = stepT T k ρ n (p.run (xs.map (·.val ρ))) := by
  rw [Er, Ev_lt, stepT]
  simp only [gOn, if_true]
  cases p.run (xs.map (·.val ρ)) with
  | none => rfl
  | some ds =>
    simp only [Option.bind_some]
    split <;> rfl
theorem Er_ltg (a : Atom) (w : Bool) (p : Prim) (xs : List Atom) (n : Nat) (k : Tm β) (ρ : List D) : Er T (.lt (some (a, w)) p xs n k) ρ = ltT T p xs n k ρ w (a.val ρ) := by
  rw [Er, Ev_lt, ltT, stepT]
  have : gOn ρ (some (a, w)) = gdR (a.val ρ) w := rfl
  rw [this]
  cases gdR (a.val ρ) w with
  | false => rfl
  | true =>
    simp only [if_true]
    cases p.run (xs.map (·.val ρ)) with
    | none => rfl
    | some ds =>
      simp only [Option.bind_some]
      split <;> rfl
theorem Er_call0 (f : Nat) (xs : List Atom) (n : Nat) (os : List Atom) (k : Tm β) (ρ : List D) : Er T (.call none f xs n os k) ρ = stepT T k ρ n (Fun T f (xs.map (·.val ρ))) := by
  rw [Er, Ev_call, stepT]
  simp only [gOn, if_true]
  cases Fun T f (xs.map (·.val ρ)) with
  | none => rfl
  | some ds =>
    simp only [Option.bind_some]
    split <;> rfl
theorem Er_callg (a : Atom) (w : Bool) (f : Nat) (xs : List Atom) (n : Nat) (os : List Atom) (k : Tm β) (ρ : List D) : Er T (.call (some (a, w)) f xs n os k) ρ = callT T f xs n os k ρ w (a.val ρ) := by
  rw [Er, Ev_call, callT, stepT]
  have : gOn ρ (some (a, w)) = gdR (a.val ρ) w := rfl
  rw [this]
  cases gdR (a.val ρ) w with
  | false => rfl
  | true =>
    simp only [if_true]
    cases Fun T f (xs.map (·.val ρ)) with
    | none => rfl
    | some ds =>
      simp only [Option.bind_some]
      split <;> rfl
theorem Er_ite (c : Atom) (t e : Tm β) (ρ : List D) : Er T (.ite c t e) ρ = iteT T t e ρ (c.val ρ) := by
  rw [Er, Ev_ite, iteT]
  cases c.val ρ with
  | bool b => cases b <;> rfl
  | _ => rfl
/-- What a region's end goes on with. -/
noncomputable def thenT (T : Nat → Ent) (i : Nat) (k : Tm β) (ρ : List D) (r : Option (Kind × List D)) : Option (Kind × List D) := r.bind fun r => if r.1 = .yield i then Er T k (ρ ++ r.2) else some r
theorem thenT_same {i : Nat} {k : Tm β} {ρ ds : List D} : thenT T i k ρ (some (.yield i, ds)) = Er T k (ρ ++ ds) := by simp [thenT]
theorem thenT_ret {i : Nat} {k : Tm β} {ρ ds : List D} : thenT T i k ρ (some (.ret, ds)) = some (.ret, ds) := by simp [thenT]
theorem thenT_cont {i : Nat} {k : Tm β} {ρ ds : List D} : thenT T i k ρ (some (.cont, ds)) = some (.cont, ds) := by simp [thenT]
theorem thenT_ne {i j : Nat} {k : Tm β} {ρ ds : List D} (h : j ≠ i) : thenT T i k ρ (some (.yield j, ds)) = some (.yield j, ds) := by simp [thenT, h]
theorem Er_bind (i : Nat) (t k : Tm β) (ρ : List D) : Er T (.bind i t k) ρ = thenT T i k ρ (Er T t ρ) := by
  rw [Er, Ev_bind, thenT, Er]
  cases Ev T t ρ with
  | none => rfl
  | some o =>
    simp only [Option.bind_some, Option.map_some]
    split <;> rfl
theorem out_of {t : Tm β} {ρ : List D} {k : Kind} {ds : List D} (h : Er T t ρ = some (k, ds)) : ∃ o, Ev T t ρ = some o ∧ o.kind = k ∧ o.vals = ds := by
  unfold Er at h
  cases e : Ev T t ρ with
  | none => rw [e] at h; cases h
  | some o =>
    rw [e, Option.map_some] at h
    have := Option.some.inj h
    exact ⟨o, rfl, congrArg Prod.fst this, congrArg Prod.snd this⟩
theorem er_of {t : Tm β} {ρ : List D} {k : Kind} {ds : List D} (h : ∃ o, Ev T t ρ = some o ∧ o.kind = k ∧ o.vals = ds) : Er T t ρ = some (k, ds) := by
  obtain ⟨o, h1, h2, h3⟩ := h
  rw [Er, h1, Option.map_some, h2, h3]
/-- A loop with any values: by a measure, to a stated end. -/
theorem loopR {γ : Type} {body : Tm β} {ρ : List D} (m : γ → Nat) (inv : γ → Prop) (vs : γ → List D) (Q : Kind × List D → Prop)
    (h : ∀ c, inv c → ∃ r, Er T body (ρ ++ vs c) = some r ∧ (r.1 = .cont ∧ (∃ c', inv c' ∧ m c' < m c ∧ r.2 = vs c') ∨ r.1 ≠ .cont ∧ Q r)) :
    ∀ (n : Nat) c, m c ≤ n → inv c → ∀ xs : List Atom, xs.map (·.val ρ) = vs c → ∃ r, Er T (.loop xs body) ρ = some r ∧ Q r := by
  have key : ∀ (n : Nat) c, m c ≤ n → inv c → ∃ o, Lp T body ρ (vs c) = some o ∧ Q (o.kind, o.vals) := by
    intro n
    induction n with
    | zero =>
      intro c hm hc
      obtain ⟨⟨k, ds⟩, h1, h2⟩ := h c hc
      obtain ⟨o, h3, rfl, rfl⟩ := out_of h1
      rcases h2 with ⟨-, c', -, h5, -⟩ | ⟨h4, h5⟩
      · omega
      · exact ⟨o, by rw [Lp_eq, h3, Option.bind_some, if_neg h4], h5⟩
    | succ n ih =>
      intro c hm hc
      obtain ⟨⟨k, ds⟩, h1, h2⟩ := h c hc
      obtain ⟨o, h3, rfl, rfl⟩ := out_of h1
      rcases h2 with ⟨h4, c', h5, h6, h7⟩ | ⟨h4, h5⟩
      · obtain ⟨o', h8, h9⟩ := ih c' (by omega) h5
        refine ⟨o', ?_, h9⟩
        rw [Lp_eq, h3, Option.bind_some, if_pos h4]
        show Lp T body ρ o.vals = _
        rw [show o.vals = vs c' from h7, h8]
      · exact ⟨o, by rw [Lp_eq, h3, Option.bind_some, if_neg h4], h5⟩
  intro n c hm hc xs hx
  obtain ⟨o, h1, h2⟩ := key n c hm hc
  exact ⟨_, by rw [Er, Ev_loop, hx, h1, Option.map_some], h2⟩
/-- A loop over places that returns r at the first that is not right, and goes on behind the last. -/
theorem scanR {body k : Tm Unit} {ρ : List D} {n : Nat} {ok : Nat → Bool} {r : List D}
    (h1 : ∀ i : Nat, i < n → ok i = true → Er T body (ρ ++ [i64 i]) = some (.cont, [i64 ((i : Int) + 1)]))
    (h2 : ∀ i : Nat, i < n → ok i = false → Er T body (ρ ++ [i64 i]) = some (.ret, r))
    (h3 : Er T body (ρ ++ [i64 n]) = some (.yield 1, [])) :
    Er T (.bind 1 (.loop [.c (i64 0)] body) k) ρ = if ∀ i, i < n → ok i = true then Er T k ρ else some (.ret, r) := by
  obtain ⟨o, h4, h5⟩ := Lp_scan (bad := fun o => o.kind = .ret ∧ o.vals = r) (fin := fun o => o.kind = .yield 1 ∧ o.vals = []) (fun i hi hok => out_of (h1 i hi hok))
    (fun i hi hok => by obtain ⟨o, e1, e2, e3⟩ := out_of (h2 i hi hok); exact ⟨o, e1, by rw [e2]; simp, e2, e3⟩)
    (by obtain ⟨o, e1, e2, e3⟩ := out_of h3; exact ⟨o, e1, by rw [e2]; simp, e2, e3⟩)
  rw [Er, Ev_bind, Ev_loop]
  show ((Lp T body ρ [i64 0]).bind _).map _ = _
  rw [h4, Option.bind_some]
  rcases h5 with ⟨hall, e1, e2⟩ | ⟨⟨i, hi, hok⟩, e1, e2⟩
  · rw [if_pos e1, if_pos hall, e2, List.append_nil]
    rfl
  · rw [if_neg (by rw [e1]; simp), if_neg (fun h => by rw [h i hi] at hok; cases hok), Option.map_some, e1, e2]
/-- A loop that goes over all places, with one value beside. -/
theorem foldR {body k : Tm β} {ρ : List D} {a : Atom} {n : Nat} {st : Nat → D} (h0 : a.val ρ = st 0)
    (h1 : ∀ i : Nat, i < n → Er T body (ρ ++ [st i, i64 i]) = some (.cont, [st (i + 1), i64 ((i : Int) + 1)]))
    (h3 : Er T body (ρ ++ [st n, i64 n]) = some (.yield 1, [st n])) :
    Er T (.bind 1 (.loop [a, .c (i64 0)] body) k) ρ = Er T k (ρ ++ [st n]) := by
  rw [Er, fold_to h0 (fun i hi => out_of (h1 i hi)) (out_of h3), Er]
theorem scan_eq {α : Type} [BEq α] [LawfulBEq α] {xs ys : List α} (hl : xs.length = ys.length) {a b : Option (Kind × List D)} :
    (if ∀ i, i < xs.length → (xs[i]? == ys[i]?) = true then a else b) = if xs == ys then a else b := by
  by_cases e : xs = ys
  · subst e
    rw [if_pos (fun i _ => by simp), if_pos (by simp)]
  · rw [if_neg (fun h => e (list_ext_len hl fun i hi => by simpa using h i hi)), if_neg (by simpa using e)]
theorem pair_beq {a b : Int × Int} : (a == b) = (a.1 == b.1 && a.2 == b.2) := by
  cases a; cases b; rfl
theorem beq_len {α : Type} [BEq α] [LawfulBEq α] {xs ys : List α} (hl : xs.length ≠ ys.length) : (xs == ys) = false := by
  cases h : xs == ys with
  | false => rfl
  | true => exact absurd (by rw [eq_of_beq h]) hl
end
end Go.Proofs.Ytddjpamapmcilaa.Rf

/- Pure reasoning: loops over places. -/
namespace Go.Proofs.Ytddjpamapmcilaa.Rf
set_option linter.unusedVariables false
set_option linter.unusedSimpArgs false

/-- Are all of the first n right? -/
def allB (ok : Nat → Bool) : Nat → Bool
  | 0 => true
  | n + 1 => allB ok n && ok n
theorem allB_true {ok : Nat → Bool} : ∀ {n : Nat}, allB ok n = true ↔ ∀ i, i < n → ok i = true
  | 0 => by simp [allB]
  | n + 1 => by
    simp only [allB, Bool.and_eq_true, allB_true (n := n)]
    constructor
    · rintro ⟨h1, h2⟩ i hi
      rcases Nat.lt_or_ge i n with h | h
      · exact h1 i h
      · obtain rfl : i = n := by omega
        exact h2
    · exact fun h => ⟨fun i hi => h i (by omega), h n (by omega)⟩
theorem allB_false {ok : Nat → Bool} {n : Nat} : allB ok n = false ↔ ∃ i, i < n ∧ ok i = false := by
  constructor
  · intro h
    apply Classical.byContradiction
    intro hn
    have : allB ok n = true := allB_true.2 fun i hi => by
      cases e : ok i with
      | true => rfl
      | false => exact absurd ⟨i, hi, e⟩ hn
    rw [this] at h; cases h
  · rintro ⟨i, hi, h⟩
    cases e : allB ok n with
    | false => rfl
    | true => rw [allB_true.1 e i hi] at h; cases h
theorem allB_and {p q : Nat → Bool} : ∀ {n : Nat}, allB (fun i => p i && q i) n = (allB p n && allB q n)
  | 0 => rfl
  | n + 1 => by
    simp only [allB, allB_and (n := n)]
    cases allB p n <;> cases allB q n <;> cases p n <;> cases q n <;> rfl
theorem allB_congr {p q : Nat → Bool} : ∀ {n : Nat}, (∀ i, i < n → p i = q i) → allB p n = allB q n
  | 0, _ => rfl
  | n + 1, h => by simp only [allB, allB_congr (n := n) fun i hi => h i (by omega), h n (by omega)]

section
variable {T : Nat → Ent} {β : Type}
/-- A loop with one value beside, over places, that ends with r at the first that is not right. -/
theorem foldB {body k : Tm β} {ρ : List D} {a : Atom} {n : Nat} {ok : Nat → Bool} {st : Nat → D} {Q : List D → Prop} (h0 : a.val ρ = st 0)
    (h1 : ∀ i : Nat, i < n → ok i = true → Er T body (ρ ++ [st i, i64 i]) = some (.cont, [st (i + 1), i64 ((i : Int) + 1)]))
    (h2 : ∀ i : Nat, i < n → ok i = false → ∃ r, Er T body (ρ ++ [st i, i64 i]) = some (.ret, r) ∧ Q r)
    (h3 : ∃ r, Er T body (ρ ++ [st n, i64 n]) = some (.yield 1, r)) :
    allB ok n = true ∧ (∃ r, Er T body (ρ ++ [st n, i64 n]) = some (.yield 1, r) ∧ Er T (.bind 1 (.loop [a, .c (i64 0)] body) k) ρ = Er T k (ρ ++ r)) ∨ allB ok n = false ∧ ∃ r, Er T (.bind 1 (.loop [a, .c (i64 0)] body) k) ρ = some (.ret, r) ∧ Q r := by
  obtain ⟨r3, h3⟩ := h3
  have key := loopR (T := T) (body := body) (ρ := ρ) (fun i => n - i) (fun i => i ≤ n ∧ ∀ j, j < i → ok j = true) (fun i => [st i, i64 (i : Nat)])
    (fun r => (∀ j, j < n → ok j = true) ∧ r = (.yield 1, r3) ∨ (∃ j, j < n ∧ ok j = false) ∧ r.1 = .ret ∧ Q r.2)
    (fun i ⟨hi, hall⟩ => by
      rcases Nat.lt_or_ge i n with hlt | hge
      · cases e : ok i with
        | true => exact ⟨_, h1 i hlt e, .inl ⟨rfl, i + 1, ⟨by omega, fun j hj => by
            rcases Nat.lt_or_ge j i with h | h
            · exact hall j h
            · obtain rfl : j = i := by omega
              exact e⟩, by omega, rfl⟩⟩
        | false =>
          obtain ⟨r, h4, h5⟩ := h2 i hlt e
          exact ⟨_, h4, .inr ⟨by simp, .inr ⟨⟨i, hlt, e⟩, rfl, h5⟩⟩⟩
      · obtain rfl : i = n := by omega
        exact ⟨_, h3, .inr ⟨by simp, .inl ⟨hall, rfl⟩⟩⟩)
    n 0 (by omega) ⟨by omega, fun j hj => by omega⟩ [a, .c (i64 0)] (by show [a.val ρ, i64 0] = _; rw [h0]; rfl)
  obtain ⟨⟨rk, rv⟩, h4, h5⟩ := key
  rw [Er_bind, h4]
  rcases h5 with ⟨h6, h7⟩ | ⟨h6, h7, h8⟩
  · cases h7
    exact .inl ⟨allB_true.2 h6, r3, h3, thenT_same⟩
  · simp only at h7 h8
    subst h7
    exact .inr ⟨allB_false.2 h6, rv, thenT_ret, h8⟩
/-- The same with nothing beside. -/
theorem scanB {body k : Tm β} {ρ : List D} {n : Nat} {ok : Nat → Bool} {Q : List D → Prop}
    (h1 : ∀ i : Nat, i < n → ok i = true → Er T body (ρ ++ [i64 i]) = some (.cont, [i64 ((i : Int) + 1)]))
    (h2 : ∀ i : Nat, i < n → ok i = false → ∃ r, Er T body (ρ ++ [i64 i]) = some (.ret, r) ∧ Q r)
    (h3 : ∃ r, Er T body (ρ ++ [i64 n]) = some (.yield 1, r)) :
    allB ok n = true ∧ (∃ r, Er T body (ρ ++ [i64 n]) = some (.yield 1, r) ∧ Er T (.bind 1 (.loop [.c (i64 0)] body) k) ρ = Er T k (ρ ++ r)) ∨ allB ok n = false ∧ ∃ r, Er T (.bind 1 (.loop [.c (i64 0)] body) k) ρ = some (.ret, r) ∧ Q r := by
  obtain ⟨r3, h3⟩ := h3
  have key := loopR (T := T) (body := body) (ρ := ρ) (fun i => n - i) (fun i => i ≤ n ∧ ∀ j, j < i → ok j = true) (fun i => [i64 (i : Nat)])
    (fun r => (∀ j, j < n → ok j = true) ∧ r = (.yield 1, r3) ∨ (∃ j, j < n ∧ ok j = false) ∧ r.1 = .ret ∧ Q r.2)
    (fun i ⟨hi, hall⟩ => by
      rcases Nat.lt_or_ge i n with hlt | hge
      · cases e : ok i with
        | true => exact ⟨_, h1 i hlt e, .inl ⟨rfl, i + 1, ⟨by omega, fun j hj => by
            rcases Nat.lt_or_ge j i with h | h
            · exact hall j h
            · obtain rfl : j = i := by omega
              exact e⟩, by omega, rfl⟩⟩
        | false =>
          obtain ⟨r, h4, h5⟩ := h2 i hlt e
          exact ⟨_, h4, .inr ⟨by simp, .inr ⟨⟨i, hlt, e⟩, rfl, h5⟩⟩⟩
      · obtain rfl : i = n := by omega
        exact ⟨_, h3, .inr ⟨by simp, .inl ⟨hall, rfl⟩⟩⟩)
    n 0 (by omega) ⟨by omega, fun j hj => by omega⟩ [.c (i64 0)] (by simp [Atom.val])
  obtain ⟨⟨rk, rv⟩, h4, h5⟩ := key
  rw [Er_bind, h4]
  rcases h5 with ⟨h6, h7⟩ | ⟨h6, h7, h8⟩
  · cases h7
    exact .inl ⟨allB_true.2 h6, r3, h3, thenT_same⟩
  · simp only at h7 h8
    subst h7
    exact .inr ⟨allB_false.2 h6, rv, thenT_ret, h8⟩
theorem foldC {body k : Tm Unit} {ρ : List D} {a : Atom} (C : Option (List D) → Prop) (n : Nat) (ok : Nat → Bool) (st : Nat → D) (Q : List D → Prop) (r3 : List D) (h0 : a.val ρ = st 0)
    (h1 : ∀ i : Nat, i < n → ok i = true → Er T body (ρ ++ [st i, i64 i]) = some (.cont, [st (i + 1), i64 ((i : Int) + 1)]))
    (h2 : ∀ i : Nat, i < n → ok i = false → ∃ r, Er T body (ρ ++ [st i, i64 i]) = some (.ret, r) ∧ Q r)
    (h3 : Er T body (ρ ++ [st n, i64 n]) = some (.yield 1, r3))
    (ht : allB ok n = true → C ((Er T k (ρ ++ r3)).bind retR)) (hf : allB ok n = false → ∀ r, Q r → C (some r)) : C ((Er T (.bind 1 (.loop [a, .c (i64 0)] body) k) ρ).bind retR) := by
  rcases foldB (k := k) h0 h1 h2 ⟨_, h3⟩ with ⟨h, r, h4, h5⟩ | ⟨h, r, h4, h5⟩
  · rw [h3] at h4
    cases h4
    rw [h5]
    exact ht h
  · rw [h4]
    exact hf h r h5
theorem scanC {body k : Tm Unit} {ρ : List D} (C : Option (List D) → Prop) (n : Nat) (ok : Nat → Bool) (Q : List D → Prop) (r3 : List D)
    (h1 : ∀ i : Nat, i < n → ok i = true → Er T body (ρ ++ [i64 i]) = some (.cont, [i64 ((i : Int) + 1)]))
    (h2 : ∀ i : Nat, i < n → ok i = false → ∃ r, Er T body (ρ ++ [i64 i]) = some (.ret, r) ∧ Q r)
    (h3 : Er T body (ρ ++ [i64 n]) = some (.yield 1, r3))
    (ht : allB ok n = true → C ((Er T k (ρ ++ r3)).bind retR)) (hf : allB ok n = false → ∀ r, Q r → C (some r)) : C ((Er T (.bind 1 (.loop [.c (i64 0)] body) k) ρ).bind retR) := by
  rcases scanB (k := k) h1 h2 ⟨_, h3⟩ with ⟨h, r, h4, h5⟩ | ⟨h, r, h4, h5⟩
  · rw [h3] at h4
    cases h4
    rw [h5]
    exact ht h
  · rw [h4]
    exact hf h r h5
end

theorem run_id {d : D} : Prim.id.run [d] = some [d] := rfl
theorem run_ge {a b : Int} : (Prim.bin .geq).run [i64 a, i64 b] = some [.bool (decide (b ≤ a))] := run_geq
theorem run_addw {a b : Int} : (Prim.bin .add).run [i64 a, i64 b] = some [i64 (IntKind.i64.wrap (a + b))] := by simp [Prim.run, binD, intOp]
theorem rI_at {xs : List Int} {i : Nat} (h : i < xs.length) : (Prim.row 1 0 [true]).run [rI xs, i64 i] = some [i64 (xs.getD i 0)] :=
  rI_row (by rw [List.getD_eq_getElem?_getD, List.getElem?_eq_getElem h]; rfl)
theorem rP_at {xs : List (Int × Int)} {i : Nat} (h : i < xs.length) : (Prim.row 2 0 [true, true]).run [rP xs, i64 i] = some [i64 (xs.getD i (0, 0)).1, i64 (xs.getD i (0, 0)).2] :=
  rP_row (by rw [List.getD_eq_getElem?_getD, List.getElem?_eq_getElem h]; rfl)
theorem rP_at1 {xs : List (Int × Int)} {i : Nat} (h : i < xs.length) : (Prim.row 2 0 [true]).run [rP xs, i64 i] = some [i64 (xs.getD i (0, 0)).1] := by
  simp [rP, Prim.run, h, kindsOk, D.isSc]
/-- A sum as the program reckons it. -/
def wsum (f : Nat → Int) : Nat → Int
  | 0 => 0
  | n + 1 => IntKind.i64.wrap (wsum f n + f n)
def inR (x lo hi : Int) : Bool := decide (lo ≤ x) && decide (x ≤ hi)
end Go.Proofs.Ytddjpamapmcilaa.Rf
